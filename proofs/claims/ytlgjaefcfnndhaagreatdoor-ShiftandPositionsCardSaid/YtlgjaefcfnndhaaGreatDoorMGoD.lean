/- Goroutine 0's way: a region that draws its order, in which calls that may start goroutines are made. -/
import Derived.Test.YtlgjaefcfnndhaaGreatDoorM7
import Derived.Deep.RegionHeld
set_option linter.unusedVariables false
set_option linter.unusedSimpArgs false
namespace Go.Ride
open Go.Conc Go.Pip
section
variable {P : Program} {F : Goroutine → World → Prop} {w : World} {ops : Array Oper} {md : Region.Mode} {S : World → Prop} {b : Frame} {k : List Item} {cs : List Frame}
/-- One operation comes up: it is walked alone, or it is a call that may start goroutines. -/
def gOp (P : Program) (ops : Array Oper) (i : Nat) (K : Act → World → Prop) (a : Act) (w : World) : Prop :=
  wpOp P ops (QN fun _ _ => False) i K a w ∨ ∃ o f args R, ops[i]? = some o ∧ Region.wanted o (yielded ops a.tmps) = true ∧ (∀ V, (execOp a.eval o).run P V = .ok (.enter f args) V) ∧ CallsG P f args w R ∧ ∀ v w2, R v w2 → ∀ V, SameW w2 V → K (a.put o.dst v) V
theorem gOp_mono {i : Nat} {K K' : Act → World → Prop} {a : Act} {w : World} (h : ∀ a w, K a w → K' a w) (hg : gOp P ops i K a w) : gOp P ops i K' a w :=
  hg.elim (fun x => .inl (wpOp_mono h x)) (fun ⟨o, f, args, R, h1, h2, h3, h4, h5⟩ => .inr ⟨o, f, args, R, h1, h2, h3, h4, fun v w2 hv V hV => h _ _ (h5 v w2 hv V hV)⟩)
/-- Whatever order is picked from here on, S holds behind each operation, and the way goes on. -/
def gAny (P : Program) (F : Goroutine → World → Prop) (md : Region.Mode) (ops : Array Oper) (b : Frame) (k : List Item) (cs : List Frame) (S : World → Prop) : Nat → Array Bool → Act → World → Prop
  | 0, listed, a, w => Region.ready md ops listed = [] ∧ Go0 P F (G (b.at a k) cs) w
  | fuel + 1, listed, a, w =>
    (Region.ready md ops listed = [] → Go0 P F (G (b.at a k) cs) w) ∧
    ∀ i ∈ Region.ready md ops listed, gOp P ops i (fun a' w' => S w' ∧ gAny P F md ops b k cs S fuel (listed.setIfInBounds i true) a' w') a w
theorem steps_op {i : Nat} {rest : List Nat} {o : Oper} {K : Act → World → Prop} {a : Act} {w : World} (ho : ops[i]? = some o) (h : wpOp P ops (QN fun _ _ => False) i K a w) :
    ∃ a' w', K a' w' ∧ Steps P (Go.lone (b.at a (.inRegion ops (i :: rest) :: k)) cs w) (Go.lone (b.at a' (.inRegion ops rest :: k)) cs w') := by
  simp only [wpOp, ho] at h
  by_cases hw : Region.wanted o (yielded ops a.tmps) = true
  · rw [if_pos hw] at h
    rcases h with h | ⟨_, _, _, hf⟩
    · simp only [Oper.wp, Oper.upon] at h
      have hg := stepG_op (P := P) (b := b) (k := k) (cs := cs) (w := w) (rest := rest) ho hw
      have hfin : ∀ v, (b.at a (.inRegion ops (i :: rest) :: k)).finish v = b.at (a.put o.dst v) (.inRegion ops rest :: k) := by
        intro v; rw [Frame.finish_at, ho]; rfl
      split at h
      · rename_i v w' hr
        refine ⟨_, _, h, .one (step_lone_go ?_)⟩
        rw [hg, ← hfin]; simp [stepG.apply, hr]
      · rename_i w' hr
        refine ⟨_, _, h, .one (step_lone_go ?_)⟩
        rw [hg, ← hfin]; simp [stepG.apply, hr]
      · rename_i d w' hr
        refine ⟨_, _, h, .one (step_lone_go ?_)⟩
        have : ({ b.at a (.inRegion ops (i :: rest) :: k) with defers := d :: a.defers } : Frame).finish undef =
            b.at ({ a with defers := d :: a.defers }.put o.dst undef) (.inRegion ops rest :: k) := by
          have := Frame.finish_at b { a with defers := d :: a.defers } ops i rest k undef
          rw [ho] at this; exact this
        rw [hg]; simp only [stepG.apply, Sem.runT_eq, hr, GStep.bare_after]
        exact congrArg (fun fr => GStep.go { frame := fr, callers := cs, status := .running, dying := none } w') this
      · rename_i f args w' hr
        obtain ⟨e, w'', fr, hR, hsteps, _, hleave⟩ := h (b.at a (.inRegion ops (i :: rest) :: k) :: cs)
        have henter : Go.step P (Go.lone (b.at a (.inRegion ops (i :: rest) :: k)) cs w) = .next (Go.lone (Frame.enter P f args .normal) (b.at a (.inRegion ops (i :: rest) :: k) :: cs) w') :=
          step_lone_go (by rw [hg]; simp [stepG.apply, hr, Frame.at])
        cases e with
        | returned v =>
          refine ⟨_, _, hR, .head henter (hsteps.trans (.one ?_))⟩
          rw [← hfin]; exact step_leave_returned hleave
        | panicked chain => exact hR.elim
        | outgrown => obtain ⟨_, _, hf⟩ := hR; exact hf.elim
      · rename_i row args w' hr
        obtain ⟨v, w'', hR, hsteps⟩ := h (b.at a (.inRegion ops (i :: rest) :: k)) cs
        have henter : Go.step P (Go.lone (b.at a (.inRegion ops (i :: rest) :: k)) cs w) = .next (Go.lone (Frame.ofRow P row args .normal) (b.at a (.inRegion ops (i :: rest) :: k) :: cs) w') :=
          step_lone_go (by rw [hg]; simp [stepG.apply, hr, Frame.at])
        refine ⟨_, _, hR, .head henter ?_⟩
        rw [← hfin]; exact hsteps
      · exact h.elim
      · exact h.elim
    · exact hf.elim
  · rw [if_neg hw] at h
    refine ⟨_, _, h, .one ?_⟩
    have := step_op_skip (P := P) (b := b) (a := a) (k := k) (cs := cs) (w := w) (ops := ops) (i := i) (rest := rest) (by simp [ho, hw])
    simpa [ho] using this
theorem gAny_walk (hM : Mild P) : ∀ (fuel t : Nat) (listed : Array Bool) (a : Act) (w : World), gAny P F md ops b k cs S fuel listed a w →
    ∃ a' w' rest, Steps P (Go.lone (b.at a (.inRegion ops (Region.linearise.go md ops fuel t listed []) :: k)) cs w) (Go.lone (b.at a' (.inRegion ops rest :: k)) cs w') ∧ Go0 P F (G (b.at a' (.inRegion ops rest :: k)) cs) w' := by
  intro fuel
  induction fuel with
  | zero =>
    intro t listed a w h
    exact ⟨a, w, [], .refl P _, Go0.region_end hM h.2⟩
  | succ fuel ih =>
    intro t listed a w h
    obtain ⟨h₀, h₁⟩ := h
    simp only [Region.linearise.go]
    change ∃ a' w' rest, Steps P (Go.lone (b.at a (.inRegion ops (match (Region.ready md ops listed)[t % (Region.ready md ops listed).length]? with
      | some i => Region.linearise.go md ops fuel (t / (Region.ready md ops listed).length) (listed.setIfInBounds i true) [i]
      | none => [].reverse) :: k)) cs w) _ ∧ _
    cases hi : (Region.ready md ops listed)[t % (Region.ready md ops listed).length]? with
    | none =>
      have hnil : Region.ready md ops listed = [] := by
        cases hr : Region.ready md ops listed with
        | nil => rfl
        | cons x xs =>
          rw [hr] at hi
          have hlt : t % (x :: xs).length < (x :: xs).length := Nat.mod_lt _ (by simp)
          simp at hi
          simp at hlt
          omega
      exact ⟨a, w, [], .refl P _, Go0.region_end hM (h₀ hnil)⟩
    | some i =>
      have hmem := List.mem_of_getElem? hi
      simp only []
      rw [linearise_go_acc, List.reverse_singleton, List.singleton_append]
      rcases h₁ i hmem with hl | ⟨o, f, args, R, ho, hw, hr, hc, hk⟩
      · obtain ⟨_, o, ho, _⟩ := mem_ready.1 hmem
        obtain ⟨a', w', ⟨_, hK⟩, hst⟩ := steps_op (b := b) (k := k) (cs := cs) (rest := Region.linearise.go md ops fuel (t / (Region.ready md ops listed).length) (listed.setIfInBounds i true) []) ho hl
        obtain ⟨a2, w2, rest, hs2, hg⟩ := ih (t / (Region.ready md ops listed).length) _ a' w' hK
        exact ⟨a2, w2, rest, hst.trans hs2, hg⟩
      · refine ⟨a, w, _, .refl P _, Go0.call hM ho hw (fun τ d => hr _) hc fun v w2 hv => ?_⟩
        refine (Go0.of_lone (F := fun g x => Go0 P F g x) hM fun τ d => ?_).trans fun g' x hx => hx
        obtain ⟨a2, w3, rest, hs2, hg⟩ := ih (t / (Region.ready md ops listed).length) _ _ _ (hk v w2 hv _ (SameW.re w2 τ d)).2
        exact ⟨_, _, w3, hs2, hg⟩
/-- A REGION THAT DRAWS ITS ORDER. -/
theorem Go0.region_any (hM : Mild P) {id : Nat} {a : Act} (hm : P.follows .mixedOrders = true) (h : ∀ V, SameW w V → S V ∧ gAny P F .any ops b k cs S ops.size (Array.replicate ops.size false) a V) : Go0 P F (G (b.at a (.code (.region id ops true) :: k)) cs) w :=
  (Go0.of_lone (F := fun g x => Go0 P F g x) hM fun τ d => by
    have hd := step_region_draw (P := P) (b := b) (a := a) (k := k) (cs := cs) (w := Ride.re w τ d) (ops := ops) (id := id)
    simp only [Region.schedule, hm, Bool.true_or, if_true] at hd
    obtain ⟨a', w', rest, hs, hg⟩ := gAny_walk hM ops.size ((Ride.re w τ d).tape (Ride.re w τ d).drawn (.order b.fn id)) _ a _ (h (Ride.re w τ (d + 1)) (SameW.re w τ (d + 1))).2
    exact ⟨_, _, w', .head hd hs, hg⟩).trans fun g' x hx => hx
theorem gOp_putIf {j : Nat} {oi oj : Oper} {v : Value} (hj : ops[j]? = some oj) (hap : oi.apart ops oj = true)
    (hsi : ∀ cs b, oi.op ≠ .select cs b) (hsj : ∀ cs b, oj.op ≠ .select cs b) {K : Act → World → Prop} {a : Act} {w : World}
    (hy : YieldsIf P ops S oi v a) (h : gOp P ops j K (a.put oi.dst v) w) :
    gOp P ops j (fun a' w' => YieldsIf P ops S oi v a' ∧ K (a'.put oi.dst v) w') a w := by
  rcases h with h | ⟨o, f, args, R, ho, hw, hr, hc, hk⟩
  · exact .inl (wpOp_putIf hj hap hsi hsj (fun _ _ _ h => h) hy h)
  · obtain ⟨h1, h2, h3⟩ := Oper.apart_spec hap
    rw [hj] at ho
    obtain rfl := Option.some.inj ho
    rw [wanted_put oj a oi.dst v h1] at hw
    rw [execOp_put oj hsj a oi.dst v h1] at hr
    refine .inr ⟨oj, f, args, R, hj, hw, hr, hc, fun u w2 hv V hV => ⟨hy.of_same (execOp_put oi hsi a oj.dst u h3) (wanted_put oi a oj.dst u h3), ?_⟩⟩
    rw [← Act.put_comm a v u h2]
    exact hk u w2 hv V hV
theorem gAny_first {i : Nat} {oi : Oper} {v : Value} (hi : ops[i]? = some oi) (hsel : ∀ (j : Nat) (o : Oper) cs b, ops[j]? = some o → o.op ≠ .select cs b) :
    ∀ (fuel : Nat) (listed : Array Bool) (a : Act) (w : World),
      (∀ j oj, ops[j]? = some oj → j ≠ i → listed.getD j true = false → (∀ e ∈ oj.after, Region.binds md e = true → e.on ≠ i) → oi.apart ops oj = true) →
      i ∈ Region.ready md ops listed → YieldsIf P ops S oi v a → S w →
      gAny P F md ops b k cs S fuel (listed.setIfInBounds i true) (a.put oi.dst v) w → gAny P F md ops b k cs S (fuel + 1) listed a w := by
  intro fuel
  induction fuel with
  | zero =>
    intro listed a w _ hr hy hS H
    refine ⟨fun h => (by rw [h] at hr; cases hr), fun j hj => ?_⟩
    by_cases hji : j = i
    · subst hji; exact .inl (hy.wpOp hi hS ⟨hS, H⟩)
    · have := ready_mono hj hji
      rw [H.1] at this
      cases this
  | succ fuel ih =>
    intro listed a w hfree hr hy hS H
    refine ⟨fun h => (by rw [h] at hr; cases hr), fun j hj => ?_⟩
    by_cases hji : j = i
    · subst hji; exact .inl (hy.wpOp hi hS ⟨hS, H⟩)
    · have h1 := H.2 j (ready_mono hj hji)
      obtain ⟨hjun, oj, hoj, hall⟩ := mem_ready.1 hj
      have hnot : ∀ e ∈ oj.after, Region.binds md e = true → e.on ≠ i := fun e he hb heq => by
        have h1 := hall e he hb
        have h0 := (mem_ready.1 hr).1
        rw [heq] at h1
        rcases Nat.lt_or_ge i listed.size with h' | h'
        · simp [h'] at h0 h1; rw [h0] at h1; cases h1
        · simp [Array.getElem?_eq_none h'] at h1
      have h2 := gOp_putIf hoj (hfree j oj hoj hji hjun hnot) (fun cs b => hsel i oi cs b hi) (fun cs b => hsel j oj cs b hoj) hy h1
      have hfree' : ∀ k ok, ops[k]? = some ok → k ≠ i → (listed.setIfInBounds j true).getD k true = false →
          (∀ e ∈ ok.after, Region.binds md e = true → e.on ≠ i) → oi.apart ops ok = true := fun k ok hk hki hun hno => by
        refine hfree k ok hk hki ?_ hno
        by_cases hjk : j = k
        · subst hjk; exact hjun
        · rw [getD_set_ne true hjk] at hun; exact hun
      refine gOp_mono (fun a' w' h3 => ⟨h3.2.1, ih (listed.setIfInBounds j true) a' w' hfree' (ready_mono hr (Ne.symm hji)) h3.1 h3.2.1 ?_⟩) h2
      rw [Array.setIfInBounds_comm _ _ hji]
      exact h3.2.2
/-- Number i is taken first. -/
theorem tkG {fuel : Nat} {listed : Array Bool} {a : Act} {w : World} (i : Nat) {oi : Oper} {v : Value}
    (h : gAny P F md ops b k cs S fuel (listed.setIfInBounds i true) (a.put oi.dst v) w) (hi : ops[i]? = some oi := by rfl) (hs : Region.noSelect ops = true := by kernel_rfl) (hf : Region.free md ops listed i = true := by kernel_rfl) (hr : (Region.ready md ops listed).contains i = true := by kernel_rfl)
    (hw : Region.wanted oi (yielded ops a.tmps) = true := by rfl) (hy : ∀ w, S w → (execOp a.eval oi).run P w = .ok (.value v) w := by intro w hSw; (try dsimp only at hSw); go_simp <;> with_reducible rfl) (hS : S w := by assumption) : gAny P F md ops b k cs S (fuel + 1) listed a w :=
  gAny_first hi (Region.noSelect_spec hs) fuel listed a w (Region.free_spec hi hf) (by simpa using hr) (Or.inl ⟨hw, hy⟩) hS h
/-- A call that may start goroutines is the one that may come up. -/
theorem gAny_call {fuel : Nat} {listed : Array Bool} {a : Act} {w : World} (i : Nat) {o : Oper} {f : FuncId} {args : Array Value} {R : Value → World → Prop} (hc : CallsG P f args w R) (ho : ops[i]? = some o) (hr : Region.ready md ops listed = [i]) (hw : Region.wanted o (yielded ops a.tmps) = true)
    (he : ∀ V, (execOp a.eval o).run P V = .ok (.enter f args) V) (h : ∀ v w2, R v w2 → ∀ V, SameW w2 V → S V ∧ gAny P F md ops b k cs S fuel (listed.setIfInBounds i true) (a.put o.dst v) V) : gAny P F md ops b k cs S (fuel + 1) listed a w :=
  ⟨fun h0 => absurd (hr ▸ h0) (by simp), fun j hj => by
    rw [hr] at hj
    obtain rfl := List.mem_singleton.1 hj
    exact .inr ⟨o, f, args, R, ho, hw, he, hc, h⟩⟩
/-- An operation that is walked alone is the one that may come up. -/
theorem gAny_one {fuel : Nat} {listed : Array Bool} {a : Act} {w : World} (i : Nat) {o : Oper} (ho : ops[i]? = some o) (hr : Region.ready md ops listed = [i])
    (h : ∀ K' : Act → World → Prop, Shut (∀ a w, S w → (S w → gAny P F md ops b k cs S fuel (listed.setIfInBounds i true) a w) → K' a w) → if Region.wanted o (yielded ops a.tmps) = true then Oper.wp P o a w K' (QN fun _ _ => False) else K' (a.put o.dst undef) w) : gAny P F md ops b k cs S (fuel + 1) listed a w :=
  ⟨fun h0 => absurd (hr ▸ h0) (by simp), fun j hj => by
    rw [hr] at hj
    obtain rfl := List.mem_singleton.1 hj
    exact .inl (wpOp_step ho fun K' hK => h K' fun a w hS hW => hK a w ⟨hS, hW hS⟩)⟩
theorem gAny_done {fuel : Nat} {listed : Array Bool} {a : Act} {w : World} (hr : Region.ready md ops listed = []) (h : Go0 P F (G (b.at a k) cs) w) : gAny P F md ops b k cs S fuel listed a w := by
  cases fuel with
  | zero => exact ⟨hr, h⟩
  | succ n => exact ⟨fun _ => h, fun i hi => by rw [hr] at hi; cases hi⟩
/-- A LOOP. -/
theorem Go0.loop (hM : Mild P) {x : Code} {a : Act} (h : Go0 P F (G (b.at a (.code x :: .inLoop x :: k)) cs) w) : Go0 P F (G (b.at a (.code (.loop x) :: k)) cs) w := .step hM (fun _ _ => step_loop) h
theorem Go0.again (hM : Mild P) {x : Code} {a : Act} (h : Go0 P F (G (b.at a (.code x :: .inLoop x :: k)) cs) w) : Go0 P F (G (b.at a (.inLoop x :: k)) cs) w := .step hM (fun _ _ => step_inLoop) h
theorem Go0.exit (hM : Mild P) {id : Nat} {k' : List Item} {a : Act} (he : exitTo id k = some k') (h : Go0 P F (G (b.at a k') cs) w) : Go0 P F (G (b.at a (.code (.exit id) :: k)) cs) w := .step hM (fun _ _ => step_exit he) h
end
end Go.Ride
