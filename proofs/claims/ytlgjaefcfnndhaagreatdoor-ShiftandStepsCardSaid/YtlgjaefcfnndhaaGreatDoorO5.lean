/- A step of goroutine 0 beside goroutines that offer nothing: it leads nowhere from which the goroutine, alone, could come to run again, or takes some draws, and on another tape that answers alike, beside whomever, it is the same. -/
import Derived.Test.YtlgjaefcfnndhaaGreatDoorO4
import Derived.Conc.Fork
set_option linter.unusedVariables false
set_option linter.unusedSimpArgs false
set_option maxHeartbeats 16000000
namespace Go.Ride
open Go.Conc
def Quiet (gs : Array Goroutine) (g : Goroutine) : Prop := gs[0]? = some g ∧ ∀ (i : Nat) (x : Goroutine), 0 < i → gs[i]? = some x → x.status = .running ∨ x.status = .finished
def Dead (P : Program) : Stepped → Prop
 | .ended _ _ => True
 | .next m => ∀ n g' w', g'.status = .running → runN P n m ≠ .next (solo g' w')
def okOps (ops : Array MemOp) : Prop := (∀ op ∈ ops, op.g = 0) ∧ ∀ t : Trace, Deaf (t ++ ops) 0 = Deaf t 0
theorem qjw (g : Goroutine) : Quiet #[g] g := ⟨rfl, fun i x h hx => by
 have : i < 1 := by simpa using (Array.getElem?_eq_some_iff.1 hx).1
 omega⟩
theorem qn5 {P : Program} {gs : Array Goroutine} {g g' : Goroutine} {w' : World} (h : Quiet gs g) : (gs.map (woken P g g' w')).setIfInBounds 0 g' = gs.setIfInBounds 0 g' := by
 apply Array.ext_getElem?
 intro i
 rcases Nat.eq_zero_or_pos i with rfl | hi
 ·simp [Array.getElem?_setIfInBounds]
 ·rw [Array.getElem?_setIfInBounds_ne (by omega), Array.getElem?_setIfInBounds_ne (by omega), Array.getElem?_map]
  cases hx : gs[i]? with
  | none => rfl
  | some x =>
   have : woken P g g' w' x = x := by
    unfold woken
    split
    ·exact again_running _ (h.2 i x hi hx)
    ·rfl
   simp [this]
section
variable {P : Program} {w : World}
theorem qqn {g : Goroutine} (h : g.status = .blocked ∨ g.status = .finished) : ∃ o w', step P (solo g w) = .ended o w' := by
 have : ∃ o w', move P (solo g w) = .machine (.ended o w') #[] := by
  rcases h with h | h <;> simp [move, ask, askOn, solo, runnable_eq, due, ahead, Goroutine.canRun, choose, pure, Sem.run, Question.forced, h]
  all_goals (split <;> exact ⟨_, _, rfl⟩)
 obtain ⟨o, w', h⟩ := this
 exact ⟨o, w', by simp [step, stepT, h]⟩
theorem qdx {g : Goroutine} {w' : World} (h : g.status = .blocked ∨ g.status = .finished) : Dead P (.next (solo g w')) := by
 intro n g' w'' hr he
 cases n with
 | zero =>
  simp only [runN, Stepped.next.injEq, solo, Machine.mk.injEq] at he
  obtain ⟨_, he, _⟩ := he
  have : g = g' := by simpa using he
  subst this
  rw [hr] at h
  rcases h with h | h <;> cases h
 | succ n =>
  obtain ⟨o, w1, hs⟩ := qqn (P := P) (w := w') h
  simp [runN, hs] at he
theorem qmk {m : Machine} (h : 2 ≤ m.gs.size) : Dead P (.next m) := by
 intro n g' w'' hr he
 have h1 := runNT_size P n m (solo g' w'') #[] (runNT P n m #[]).2 (by
  have := runNT_fst P n m #[]
  rw [he] at this
  rw [← this])
 simp [solo] at h1
 omega
def Lead (P : Program) (g : Goroutine) (w : World) (g' : Goroutine) (w' : World) : Prop :=
 okG g' ∧ g'.status = .running ∧ ∃ n, w'.tape = w.tape ∧ w'.drawn = w.drawn + n ∧ ∀ τ d, Agree w n τ d → ∀ gs sl, Quiet gs g →
  ∃ ops, runT P (crowd gs (re w τ d) sl) 0 = (.next (crowd (gs.setIfInBounds 0 g') (re w' τ (d + n)) sl), ops) ∧ okOps ops
theorem qdr {fn : FuncId} {pos : String} {es : Array Event} (h : ∀ d, deafBehind d es = d) : okOps (MemOp.ofEvents 0 fn pos es) :=
 ⟨fun op hop => by obtain ⟨e, _, rfl⟩ := Go.Conc.mem_ofEvents hop; rfl, fun t => by rw [Deaf_own, h]⟩
theorem qml {a b : Array MemOp} (ha : okOps a) (hb : okOps b) : okOps (a ++ b) :=
 ⟨fun op hop => (Array.mem_append.1 hop).elim (ha.1 op) (hb.1 op), fun t => by rw [← Array.append_assoc, hb.2, ha.2]⟩
theorem qtb {a : Array MemOp} (h : qe3 0 a) : okOps a := by
 refine ⟨fun op hop => (h op hop).1, fun t => ?_⟩
 obtain ⟨l⟩ := a
 have h' : ∀ op ∈ l, op.act ≠ .mark .disable ∧ op.act ≠ .mark .enable := fun op hop => ⟨(h op (by simpa using hop)).2.2.1, (h op (by simpa using hop)).2.2.2⟩
 clear h
 rw [Deaf_append]
 generalize Deaf t 0 = d
 induction l generalizing d with
 | nil => rfl
 | cons x l ih =>
  have hx := h' x (List.mem_cons_self ..)
  have : deafStep 0 d x = d := by
   unfold deafStep
   split <;> simp_all
  rw [List.foldl_cons, this]
  exact ih (fun op hop => h' op (List.mem_cons_of_mem _ hop)) d
def coroG (g : Goroutine) (c : Nat) (gs : Array Goroutine) (rest : Rest) (w : World) : Stepped :=
 match w.heap[c]? with
 | some (.coro (some h)) => .next { world := { w with heap := w.heap.setIfInBounds c (.coro none) }, gs := (gs.setIfInBounds 0 { g with status := .finished }).modify h (fun o => { o with status := .running }), rest }
 | some (.coro none) =>
  match endThrow g.frame "coroswitch on exited coro" w with
  | .go g w _ => .next { world := w, gs := gs.setIfInBounds 0 g, rest }
  | _ => .ended (.stuck "" "") w
 | _ => .ended (.stuck "coroswitch: no coroutine" "") w
theorem qfc {gs : Array Goroutine} {g g' : Goroutine} {c : Nat} {w w' : World} {es : Array Event} {sl : Option (Nat × Nat)} (hi : gs[0]? = some g) (h : stepG P true g w = .coroswitch g' c true w' es) :
  runT P (crowd gs w sl) 0 = (coroG g' c gs (crowd gs w sl).rest w', MemOp.ofEvents 0 g.frame.fn g.frame.place es) := by
 obtain ⟨hlt, rfl⟩ := Array.getElem?_eq_some_iff.1 hi
 have hsw := swapAt_of_lt hlt { (default : Goroutine) with status := .finished }
 show runT P { world := w, gs := gs, rest := { timers := #[], alone := none, slice := sl } } 0 = _
 unfold runT
 have h' : stepG P (0 == 0) gs[0] w = _ := h
 simp only [hsw, h', GStep.es, set_setIfInBounds hlt]
 unfold coroG
 cases w'.heap[c]? with
 | none => rfl
 | some o => cases o <;> first | rfl | (rename_i x; cases x <;> rfl)
theorem qmm {s : GoStatus} (h : okSt s) : s = .running ∨ s = .blocked ∨ s = .finished := by
 cases s <;> first | exact h.elim | simp
theorem step0 (hM : Mild P) {g : Goroutine} (hg : okG g) (hrun : g.status = .running) : Dead P (step P (solo g w)) ∨ ∃ g' w', step P (solo g w) = .next (solo g' w') ∧ Lead P g w g' w' := by
 have hstep : step P (solo g w) = (runT P (solo g w) 0).1 := by rw [step, stepT_solo hrun]
 rw [hstep]
 rcases qn2 hM hg (w := w) with he | ⟨n, h1, h2, h3, h4, h5⟩
 ·left
  dsimp only at he
  cases hs : stepG P true g w <;> rw [hs] at he <;> first | exact he.elim | skip
  rw [solo_eq_crowd, runT_many_ended (i := 0) rfl hs]
  trivial
 ·dsimp only at h1 h2 h3 h4 h5
  cases hs : stepG P true g w with
  | go g' w' es =>
   rw [hs] at h1 h2 h3 h4
   obtain ⟨hk, hst⟩ := h4
   rcases qmm hst with hst' | hst'
   ·right
    refine ⟨g', w', by rw [runT_solo_go hs], hk, hst', n, h1, h2, fun τ d hA gs sl hq => ⟨MemOp.ofEvents 0 g.frame.fn g.frame.place es, ?_, qdr h3⟩⟩
    have e := h5 τ d hA
    rw [hs] at e
    rw [runT_crowd_go (i := 0) hq.1 (show stepG P (0 == 0) g (re w τ d) = _ from e), qn5 hq]
   ·left
    rw [runT_solo_go hs]
    exact qdx hst'
  | comm g₂ cases blocking shape w₁ es =>
   rw [hs] at h1 h2 h3 h4
   obtain ⟨hk, hst⟩ := h4
   -- the step, beside whomever
   have hcom : ∀ τ d, Agree w n τ d → ∀ gs sl, Quiet gs g → ∃ ops, runT P (crowd gs (re w τ d) sl) 0 = (qec gs (crowd gs (re w τ d) sl).rest (commG P g₂ cases blocking shape (re w₁ τ (d + n))), ops) ∧ okOps ops := by
    intro τ d hA gs sl hq
    have e := h5 τ d hA
    rw [hs] at e
    have hnp : NoP (gs.setIfInBounds 0 ph) := qy4 fun i x hx => by
     rcases getElem?_stand gs 0 i x hx with ⟨_, rfl⟩ | ⟨hne, hx'⟩
     ·simp [ph]
     ·rcases hq.2 i x (by omega) hx' with h | h <;> simp [h]
    obtain ⟨k1, k2⟩ := qi7 (P := P) (w := re w₁ τ (d + n)) (rest := (crowd gs (re w τ d) sl).rest) rfl hnp g₂ cases blocking shape
    rw [runT_crowd_comm (i := 0) hq.1 (show stepG P (0 == 0) g (re w τ d) = _ from e)]
    refine ⟨_, ?_, qml (qdr (fn := g.frame.fn) (pos := g.frame.place) h3) (qtb k2)⟩
    show (_, _) = (_, _)
    congr 1
    rw [k1]
    cases commG P g₂ cases blocking shape (re w₁ τ (d + n)) <;> simp [qec]
   have hsolo : ∃ ops, runT P (solo g w) 0 = (qec #[g] (solo g w).rest (commG P g₂ cases blocking shape w₁), ops) := by
    obtain ⟨ops, h, _⟩ := hcom w.tape w.drawn (fun _ _ _ => rfl) #[g] none (qjw g)
    have e1 : re w w.tape w.drawn = w := rfl
    have e2 : re w₁ w.tape (w.drawn + n) = w₁ := by
     have h1' : w₁.tape = w.tape := h1
     have h2' : w₁.drawn = w.drawn + n := h2
     rw [← h1', ← h2']; rfl
    rw [e1, e2] at h
    exact ⟨ops, h⟩
   obtain ⟨ops0, hsolo⟩ := hsolo
   rw [hsolo]
   rcases qmj (P := P) hk hst cases blocking shape (w := w₁) with he | ⟨m, c1, c2, c3, c4, c5⟩
   ·left
    dsimp only at he ⊢
    cases hc : commG P g₂ cases blocking shape w₁ <;> rw [hc] at he <;> first | exact he.elim | trivial
   ·dsimp only at c1 c2 c3 c4 c5 ⊢
    cases hc : commG P g₂ cases blocking shape w₁ with
    | go g' w' es' =>
     rw [hc] at c1 c2 c4
     obtain ⟨hk', hst'⟩ := c4
     rcases qmm hst' with hr | hr
     ·right
      refine ⟨g', w', by simp [qec, solo], hk', hr, n + m, ?_, ?_, fun τ d hA gs sl hq => ?_⟩
      ·exact (show w'.tape = w₁.tape from c1).trans h1
      ·have : w'.drawn = w₁.drawn + m := c2
       have h2' : w₁.drawn = w.drawn + n := h2
       rw [this, h2', Nat.add_assoc]
      ·obtain ⟨A1, A2⟩ := qim hA (show w₁.tape = w.tape from h1) (show w₁.drawn = w.drawn + n from h2)
       obtain ⟨ops, h, hok⟩ := hcom τ d A1 gs sl hq
       refine ⟨ops, ?_, hok⟩
       rw [h, c5 τ (d + n) A2, hc, Nat.add_assoc]
       rfl
     ·left
      exact qdx hr
    | _ => left; trivial
  | spawn g' c w' es =>
   left
   rw [runT_solo_spawn hs]
   exact qmk (by simp [duo])
  | coroswitch g' c b w' es =>
   rw [hs] at h1 h2 h3 h4
   obtain ⟨hk, rfl⟩ := h4
   have hw : ∀ τ d, (re w' τ d).heap[c]? = w'.heap[c]? := fun _ _ => rfl
   have hcr : ∀ τ d, Agree w n τ d → ∀ gs sl, Quiet gs g → runT P (crowd gs (re w τ d) sl) 0 = (coroG g' c gs (crowd gs (re w τ d) sl).rest (re w' τ (d + n)), MemOp.ofEvents 0 g.frame.fn g.frame.place es) := by
    intro τ d hA gs sl hq
    have e := h5 τ d hA
    rw [hs] at e
    exact qfc hq.1 e
   have hsolo : runT P (solo g w) 0 = (coroG g' c #[g] (solo g w).rest w', MemOp.ofEvents 0 g.frame.fn g.frame.place es) := by rw [solo_eq_crowd]; exact qfc rfl hs
   rw [hsolo]
   cases ho : w'.heap[c]? with
   | none => left; unfold coroG; rw [ho]; trivial
   | some o =>
    cases o <;> first
     | (left; unfold coroG; rw [ho]; trivial)
     | skip
    rename_i x
    cases x with
    | none =>
     right
     cases ht : endThrow g'.frame "coroswitch on exited coro" w' with
     | go g₃ w₃ es₃ =>
      have hg3 : okG g₃ ∧ g₃.status = .running ∧ w₃ = w' ∧ ∀ v, endThrow g'.frame "coroswitch on exited coro" v = .go g₃ v #[] := by
       unfold endThrow dieOf at ht
       cases ht
       exact ⟨⟨hk.1, fun c hc => by cases hc⟩, rfl, rfl, fun v => rfl⟩
      obtain ⟨k1, k2, rfl, k4⟩ := hg3
      refine ⟨g₃, w₃, ?_, k1, k2, n, h1, h2, fun τ d hA gs sl hq => ⟨_, ?_, qdr (fn := g.frame.fn) (pos := g.frame.place) h3⟩⟩
      ·unfold coroG
       rw [ho]
       dsimp only
       rw [k4]
       simp [solo]
      ·rw [hcr τ d hA gs sl hq]
       unfold coroG
       rw [hw, ho]
       dsimp only
       rw [k4]
       rfl
     | _ => unfold endThrow dieOf at ht; cases ht
    | some h =>
     cases h with
     | zero =>
      right
      refine ⟨{ g' with status := .running }, { w' with heap := w'.heap.setIfInBounds c (.coro none) }, ?_, hk, rfl, n, h1, h2, fun τ d hA gs sl hq => ⟨_, ?_, qdr (fn := g.frame.fn) (pos := g.frame.place) h3⟩⟩
      ·unfold coroG
       rw [ho]
       simp [solo]
      ·rw [hcr τ d hA gs sl hq]
       unfold coroG
       rw [hw, ho]
       dsimp only
       have e : (gs.setIfInBounds 0 { g' with status := .finished }).modify 0 (fun o => { o with status := .running }) = gs.setIfInBounds 0 { g' with status := .running } := by
        have hlt : 0 < gs.size := (Array.getElem?_eq_some_iff.1 hq.1).1
        apply Array.ext_getElem?
        intro i
        rw [Array.getElem?_modify]
        by_cases hi : 0 = i
        ·subst hi; simp [hlt]
        ·simp [hi, Array.getElem?_setIfInBounds_ne hi]
       rw [e]
       rfl
     | succ h =>
      left
      unfold coroG
      rw [ho]
      have e : (#[g].setIfInBounds 0 { g' with status := .finished }).modify (h + 1) (fun o => { o with status := .running }) = #[{ g' with status := .finished }] := by
       apply Array.ext_getElem?
       intro i
       rw [Array.getElem?_modify]
       by_cases hi : h + 1 = i
       ·subst hi; simp
       ·simp [hi]
      dsimp only
      rw [e]
      exact qdx (P := P) (g := { g' with status := .finished }) (w' := { w' with heap := w'.heap.setIfInBounds c (.coro none) }) (.inr rfl)
  | ended o w' es =>
   left
   rw [solo_eq_crowd, runT_many_ended (i := 0) rfl hs]
   trivial
  | _ => rw [hs] at h4; exact h4.elim
end
end Go.Ride

/- A goroutine whose run alone comes to a stop on every tape comes to that stop beside goroutines that only leave, on every tape. -/
namespace Go.Ride
open Go.Conc
open Go.ConcN (sumTo upd sumTo_upd upd_ne upd_same)
section
variable {P : Program} {K : Goroutine → World → Prop}
def LeadN (P : Program) (g : Goroutine) (w : World) (g' : Goroutine) (w' : World) (n : Nat) : Prop :=
 w'.tape = w.tape ∧ w'.drawn = w.drawn + n ∧ ∀ τ d, Agree w n τ d → ∀ gs sl, Quiet gs g →
  ∃ ops, runT P (crowd gs (re w τ d) sl) 0 = (.next (crowd (gs.setIfInBounds 0 g') (re w' τ (d + n)) sl), ops) ∧ okOps ops
def Rides (P : Program) (K : Goroutine → World → Prop) (g : Goroutine) (w : World) : Prop :=
 ∀ X : Goroutine → World → Prop,
  (∀ g w, okG g → g.status = .running → (∃ τ d, K g (re w τ d)) → X g w) →
  (∀ g w, okG g → g.status = .running → (∀ τ d, ∃ g' w' n, okG g' ∧ g'.status = .running ∧ LeadN P g (re w τ d) g' w' n ∧ X g' w') → X g w) → X g w
theorem Rides.stop {g : Goroutine} {w : World} (h1 : okG g) (h2 : g.status = .running) (h : ∃ τ d, K g (re w τ d)) : Rides P K g w := fun X s _ => s g w h1 h2 h
theorem Rides.step {g : Goroutine} {w : World} (h1 : okG g) (h2 : g.status = .running) (h : ∀ τ d, ∃ g' w' n, okG g' ∧ g'.status = .running ∧ LeadN P g (re w τ d) g' w' n ∧ Rides P K g' w') : Rides P K g w :=
 fun X s k => k g w h1 h2 fun τ d => let ⟨g', w', n, a, b, c, e⟩ := h τ d; ⟨g', w', n, a, b, c, e X s k⟩
theorem Rides.re {g : Goroutine} {w : World} (h : Rides P K g w) : ∀ τ d, Rides P K g (Ride.re w τ d) :=
 h (fun g w => ∀ τ d, Rides P K g (Ride.re w τ d)) (fun g w h1 h2 ⟨τ', d', hk⟩ τ d => Rides.stop h1 h2 ⟨τ', d', hk⟩)
  (fun g w h1 h2 h τ d => Rides.step h1 h2 fun τ' d' => let ⟨g', w', n, a, b, c, e⟩ := h τ' d'; ⟨g', w', n, a, b, c, e w'.tape w'.drawn⟩)
theorem qvg {g g' : Goroutine} {w w' : World} {n : Nat} (h : LeadN P g w g' w' n) {τ : Nat → Question → Nat} {d : Nat} (hA : Agree w n τ d) : LeadN P g (re w τ d) g' (re w' τ (d + n)) n :=
 ⟨rfl, rfl, fun τ' d' hA' gs sl hq => h.2.2 τ' d' (fun i hi q => (hA' i hi q).trans (hA i hi q)) gs sl hq⟩
theorem qjx {g g' : Goroutine} {w w' : World} {n : Nat} (h : LeadN P g w g' w' n) (hrun : g.status = .running) {τ : Nat → Question → Nat} {d : Nat} (hA : Agree w n τ d) : step P (solo g (re w τ d)) = .next (solo g' (re w' τ (d + n))) := by
 obtain ⟨ops, e, _⟩ := h.2.2 τ d hA #[g] none (qjw g)
 rw [step, stepT_solo hrun, solo_eq_crowd, e]
 simp [solo, crowd]
structure Pt where
 pre : Nat → Question → Nat
 L : Nat
 k : Nat
 g : Goroutine
 w : World
structure PtOk (P : Program) (K : Goroutine → World → Prop) (g0 : Goroutine) (w0 : World) (p : Pt) : Prop where
 ok : okG p.g
 run : p.g.status = .running
 bad : ¬ Rides P K p.g p.w
 comes : ∀ τ : Nat → Question → Nat, (∀ j, j < p.L → ∀ q, τ j q = p.pre j q) → runN P p.k (solo g0 (re w0 τ 0)) = .next (solo p.g (re p.w τ p.L))
 none : ∀ τ : Nat → Question → Nat, (∀ j, j < p.L → ∀ q, τ j q = p.pre j q) → ∀ n, n ≤ p.k → ∀ g' w', runN P n (solo g0 (re w0 τ 0)) = .next (solo g' w') → ¬ K g' w'
theorem qgm {n : Nat} {m m' : Machine} (h : runN P n m = .next m') : runN P (n + 1) m = step P m' := by
 rw [runN_add P n 1, h]
 simp only [runN]
 cases step P m' <;> rfl
theorem qxa (hM : Mild P) {g0 : Goroutine} {w0 : World} (hK : ∀ τ d, ∃ n g' w', runN P n (solo g0 (re w0 τ d)) = .next (solo g' w') ∧ g'.status = .running ∧ K g' w') (p : Pt) (h : PtOk P K g0 w0 p) :
  ∃ p' : Pt, PtOk P K g0 w0 p' ∧ p'.k = p.k + 1 ∧ p.L ≤ p'.L ∧ ∀ j, j < p.L → ∀ q, p'.pre j q = p.pre j q := by
 have h1 : ¬ ∀ τ d, ∃ g' w' n, okG g' ∧ g'.status = .running ∧ LeadN P p.g (re p.w τ d) g' w' n ∧ Rides P K g' w' := fun hh => h.bad (Rides.step h.ok h.run hh)
 obtain ⟨τ₁, h2⟩ := Classical.not_forall.1 h1
 obtain ⟨d₁, h3⟩ := Classical.not_forall.1 h2
 let τ₂ : Nat → Question → Nat := fun j q => if j < p.L then p.pre j q else τ₁ (d₁ + (j - p.L)) q
 have hpre : ∀ j, j < p.L → ∀ q, τ₂ j q = p.pre j q := fun j hj q => by simp [τ₂, hj]
 rcases step0 hM h.ok h.run (w := re p.w τ₂ p.L) with hd | ⟨g', w', hs, hk', hr', n, t1, t2, t3⟩
 · -- it dies: on this tape the run alone comes nowhere
  exfalso
  obtain ⟨n, g', w', e1, e2, e3⟩ := hK τ₂ 0
  rcases Nat.lt_or_ge p.k n with hn | hn
  ·have e4 := runN_add P (p.k + 1) (n - (p.k + 1)) (solo g0 (re w0 τ₂ 0))
   rw [show p.k + 1 + (n - (p.k + 1)) = n by omega, qgm (h.comes τ₂ hpre), e1] at e4
   cases hst : step P (solo p.g (re p.w τ₂ p.L)) with
   | ended o w => rw [hst] at e4; cases e4
   | next m =>
    rw [hst] at e4 hd
    exact hd _ g' w' e2 e4.symm
  ·exact h.none τ₂ hpre n hn g' w' e1 e3
 ·have hL : LeadN P p.g (re p.w τ₂ p.L) g' w' n := ⟨t1, t2, t3⟩
  have hbad : ¬ Rides P K g' w' := by
   intro hr
   refine h3 ⟨g', re w' τ₁ (d₁ + n), n, hk', hr', ?_, hr.re _ _⟩
   have hA : Agree (re p.w τ₂ p.L) n τ₁ d₁ := fun i hi q => by
    show τ₁ (d₁ + i) q = τ₂ (p.L + i) q
    simp only [τ₂]
    rw [if_neg (by omega), show p.L + i - p.L = i by omega]
   exact qvg hL hA
  have hag : ∀ τ : Nat → Question → Nat, (∀ j, j < p.L + n → ∀ q, τ j q = τ₂ j q) → Agree (re p.w τ₂ p.L) n τ p.L := fun τ hτ i hi q => hτ (p.L + i) (by omega) q
  have hpre' : ∀ τ : Nat → Question → Nat, (∀ j, j < p.L + n → ∀ q, τ j q = τ₂ j q) → ∀ j, j < p.L → ∀ q, τ j q = p.pre j q := fun τ hτ j hj q => (hτ j (by omega) q).trans (hpre j hj q)
  refine ⟨{ pre := τ₂, L := p.L + n, k := p.k + 1, g := g', w := w' }, ⟨hk', hr', hbad, fun τ hτ => ?_, fun τ hτ m hm g'' w'' he hk => ?_⟩, rfl, Nat.le_add_right _ _, hpre⟩
  ·rw [qgm (h.comes τ (hpre' τ hτ))]
   exact qjx hL h.run (hag τ hτ)
  ·rcases Nat.lt_or_ge p.k m with hlt | hge
   ·obtain rfl : m = p.k + 1 := by dsimp only at hm; omega
    rw [qgm (h.comes τ (hpre' τ hτ)), show step P (solo p.g (re p.w τ p.L)) = _ from qjx hL h.run (hag τ hτ)] at he
    simp only [solo, Stepped.next.injEq, Machine.mk.injEq] at he
    obtain ⟨rfl, he, _⟩ := he
    have : g' = g'' := by simpa using he
    subst this
    exact hbad (Rides.stop hk' hr' ⟨τ, p.L + n, hk⟩)
   ·exact h.none τ (hpre' τ hτ) m hge g'' w'' he hk
theorem qvh (hM : Mild P) {g : Goroutine} {w : World} (hg : okG g) (hrun : g.status = .running) (hK : ∀ τ d, ∃ n g' w', runN P n (solo g (re w τ d)) = .next (solo g' w') ∧ g'.status = .running ∧ K g' w') : Rides P K g w := by
 apply Classical.byContradiction
 intro hbad
 let S := { p : Pt // PtOk P K g w p }
 have p0 : S := ⟨{ pre := fun _ _ => 0, L := 0, k := 0, g := g, w := w }, hg, hrun, hbad, fun τ _ => rfl, fun τ _ n hn g' w' he hk => by
  obtain rfl : n = 0 := by dsimp only at hn; omega
  simp only [runN, solo, Stepped.next.injEq, Machine.mk.injEq] at he
  obtain ⟨rfl, he, _⟩ := he
  have : g = g' := by simpa using he
  subst this
  exact hbad (Rides.stop hg hrun ⟨τ, 0, hk⟩)⟩
 have nx : ∀ s : S, ∃ s' : S, s'.1.k = s.1.k + 1 ∧ s.1.L ≤ s'.1.L ∧ ∀ j, j < s.1.L → ∀ q, s'.1.pre j q = s.1.pre j q := fun s => by
  obtain ⟨p', hp', h⟩ := qxa hM hK s.1 s.2
  exact ⟨⟨p', hp'⟩, h⟩
 let seq : Nat → S := fun n => Nat.rec p0 (fun _ s => Classical.choose (nx s)) n
 have hseq : ∀ n, (seq (n + 1)).1.k = (seq n).1.k + 1 ∧ (seq n).1.L ≤ (seq (n + 1)).1.L ∧ ∀ j, j < (seq n).1.L → ∀ q, (seq (n + 1)).1.pre j q = (seq n).1.pre j q := fun n => Classical.choose_spec (nx (seq n))
 have hk : ∀ n, n ≤ (seq n).1.k := by
  intro n
  induction n with
  | zero => exact Nat.zero_le _
  | succ n ih => rw [(hseq n).1]; omega
 have hext : ∀ m n, (seq n).1.L ≤ (seq (n + m)).1.L ∧ ∀ j, j < (seq n).1.L → ∀ q, (seq (n + m)).1.pre j q = (seq n).1.pre j q := by
  intro m n
  induction m with
  | zero => exact ⟨Nat.le_refl _, fun _ _ _ => rfl⟩
  | succ m ih =>
   have h1 := hseq (n + m)
   refine ⟨Nat.le_trans ih.1 h1.2.1, fun j hj q => ?_⟩
   exact (h1.2.2 j (Nat.lt_of_lt_of_le hj ih.1) q).trans (ih.2 j hj q)
 -- the tape that all of them begin
 let τ : Nat → Question → Nat := fun j q => (seq (Classical.epsilon fun n => j < (seq n).1.L)).1.pre j q
 have hτ : ∀ n j, j < (seq n).1.L → ∀ q, τ j q = (seq n).1.pre j q := by
  intro n j hj q
  have hx : ∃ n, j < (seq n).1.L := ⟨n, hj⟩
  have hc := Classical.epsilon_spec hx
  simp only [τ]
  generalize (Classical.epsilon fun n => j < (seq n).1.L) = m at hc
  rcases Nat.le_total m n with h | h
  ·obtain ⟨d, rfl⟩ := Nat.exists_eq_add_of_le h
   exact ((hext d m).2 j hc q).symm
  ·obtain ⟨d, rfl⟩ := Nat.exists_eq_add_of_le h
   exact (hext d n).2 j hj q
 obtain ⟨n, g', w', e1, e2, e3⟩ := hK τ 0
 exact (seq n).2.none τ (hτ n) n (hk n) g' w' e1 e3
/-! ### beside goroutines that only leave -/
def Past0 (t : Trace) : Prop := ∃ B, Past (fun _ => False) B t
theorem qxb (x : MemAct) : ∃ B, x.low B := by
 cases x with
 | access e =>
  obtain ⟨loc, wr, sy⟩ := e
  cases loc with
  | cell a => exact ⟨a.block + 1, Nat.lt_succ_self _⟩
  | obj r => exact ⟨r + 1, Nat.lt_succ_self _⟩
  | _ => exact ⟨0, trivial⟩
 | mark m => cases m <;> first | exact ⟨0, trivial⟩ | exact ⟨_, Nat.lt_succ_self _⟩
 | go _ => exact ⟨0, trivial⟩
 | start => exact ⟨0, trivial⟩
 | _ => exact ⟨_, Nat.lt_succ_self _⟩
theorem qmn : ∀ ops : List MemOp, ∃ B, ∀ op ∈ ops, op.act.low B
 | [] => ⟨0, fun _ h => by cases h⟩
 | x :: l => by
  obtain ⟨B, h⟩ := qxb x.act
  obtain ⟨B', h'⟩ := qmn l
  refine ⟨max B B', fun op hop => ?_⟩
  rcases List.mem_cons.1 hop with rfl | hop
  ·exact MemAct.low_mono (Nat.le_max_left ..) h
  ·exact MemAct.low_mono (Nat.le_max_right ..) (h' op hop)
theorem Past0.app0 {t u : Trace} (h : Past0 t) (hu : okOps u) : Past0 (t ++ u) := by
 obtain ⟨B, h⟩ := h
 obtain ⟨B', hB⟩ := qmn u.toList
 refine ⟨max B B', (h.mono (Nat.le_max_left ..)).app0 hu.1 (fun _ _ _ _ hf => hf.elim) (hu.2 t) (fun op hop => MemAct.low_mono (Nat.le_max_right ..) (hB op (by simpa using hop)))⟩
theorem Past0.mute {t : Trace} (h : Past0 t) {g : Nat} (hg : g ≠ 0) {fn : FuncId} {pos : String} {es : Array Event} (hm : ∀ e ∈ es, e.mute = true) : Past0 (t ++ MemOp.ofEvents g fn pos es) :=
 let ⟨B, h⟩ := h; ⟨B, h.mute hg hm⟩
theorem ql1 {t : Trace} {gs : Array Goroutine} {q : Nat → Nat} {a : Goroutine} (h0 : gs[0]? = some a) (hL : Leavers P t gs q) : Quiet gs a :=
 ⟨h0, fun i x hi hx => (hL.old i x hi hx).status⟩
def qtc (P : Program) (K : Goroutine → World → Prop) (gs : Array Goroutine) (w : World) (sl : Option (Nat × Nat)) (t : Trace) : Prop :=
 ∃ (N : Nat) (gs' : Array Goroutine) (a' : Goroutine) (w' : World) (sl' : Option (Nat × Nat)) (t' : Trace) (q' : Nat → Nat),
  runNT P N (crowd gs w sl) t = (.next (crowd gs' w' sl'), t') ∧ gs'[0]? = some a' ∧ okG a' ∧ a'.status = .running ∧ (∃ τ d, K a' (re w' τ d)) ∧ w'.tape = w.tape ∧ Leavers P t' gs' q' ∧ Past0 t'
theorem qn6 {g : Goroutine} {w : World} (h : Rides P K g w) : ∀ (M : Nat) (gs : Array Goroutine) (w₁ : World) (sl : Option (Nat × Nat)) (t : Trace) (q : Nat → Nat), (∃ d, w₁ = re w w₁.tape d) → sumTo gs.size q ≤ M → gs[0]? = some g → Leavers P t gs q → Past0 t → qtc P K gs w₁ sl t := by
 refine h (fun g w => ∀ (M : Nat) (gs : Array Goroutine) (w₁ : World) (sl : Option (Nat × Nat)) (t : Trace) (q : Nat → Nat), (∃ d, w₁ = re w w₁.tape d) → sumTo gs.size q ≤ M → gs[0]? = some g → Leavers P t gs q → Past0 t → qtc P K gs w₁ sl t) ?_ ?_
 ·intro g w hk hr hK M gs w₁ sl t q hw _ h0 hL hP
  obtain ⟨d, hw⟩ := hw
  refine ⟨0, gs, g, w₁, sl, t, q, rfl, h0, hk, hr, ?_, rfl, hL, hP⟩
  rw [hw]; exact hK
 ·intro g w hk hrun hnext M
  induction M using Nat.strongRecOn with
  | _ M ih =>
  intro gs w₁ sl t q hw hM' h0 hL hP
  obtain ⟨d₀, hw⟩ := hw
  have haw : ∀ x ∈ gs, awake x := by
   intro x hx
   obtain ⟨i, hi, rfl⟩ := Array.mem_iff_getElem.1 hx
   rcases Nat.eq_zero_or_pos i with rfl | hpos
   ·have : gs[0] = g := by simpa [Array.getElem?_eq_getElem hi] using h0
    rw [this]; exact awake_of (.inl hrun)
   ·exact awake_of ((hL.old i _ hpos (Array.getElem?_eq_getElem hi)).status.elim .inl fun x => .inr (.inr x))
  obtain ⟨i, x, d, sl', hi, hx, hst⟩ := crowd_pick (P := P) (w := w₁) (sl := sl) haw ⟨0, g, h0, hrun⟩
  rcases Nat.eq_zero_or_pos i with rfl | hpos
  · -- goroutine 0 takes a step
   obtain rfl : x = g := by rw [h0] at hi; exact (Option.some.inj hi).symm
   obtain ⟨g', w', n, hk', hr', hlead, hX⟩ := hnext w₁.tape d
   obtain ⟨ops, hrunT, hok⟩ := hlead.2.2 w₁.tape d (fun _ _ _ => rfl) gs sl' (ql1 h0 hL)
   have ew : re (re w w₁.tape d) w₁.tape d = w₁.at d := by rw [hw]; rfl
   rw [ew] at hrunT
   have hlt : 0 < gs.size := (Array.getElem?_eq_some_iff.1 h0).1
   obtain ⟨N, gs', a', w'', sl'', t', q', c1, c2, c3, c4, c5, c6, c7, c8⟩ := hX (sumTo (gs.setIfInBounds 0 g').size q) (gs.setIfInBounds 0 g') (re w' w₁.tape (d + n)) sl' (t ++ ops) q ⟨d + n, rfl⟩ (Nat.le_refl _) (by simp [hlt])
    ⟨fun j y hj hy => by
     rw [Array.getElem?_setIfInBounds_ne (by omega)] at hy
     rw [Deaf_other t (by omega) _ hok.1]
     exact hL.old j y hj hy, fun j hj => by
     rw [Deaf_other t (g' := 0) (by simp at hj; omega) _ hok.1]
     exact hL.above j (by simpa using hj)⟩ (hP.app0 hok)
   exact ⟨N + 1, gs', a', w'', sl'', t', q', by simp only [runNT, hst, hrunT]; exact c1, c2, c3, c4, c5, c6, c7, c8⟩
  · -- a leaver slips
   have hq := hL.old i x hpos hi
   have hi0 : (i == 0) = false := by simp; omega
   have hlt : i < gs.size := (Array.getElem?_eq_some_iff.1 hi).1
   cases hqi : q i with
   | zero => rw [hqi] at hq; rw [hq.1] at hx; cases hx
   | succ k =>
    rw [hqi] at hq
    rcases hq with ⟨hf, _⟩ | ⟨_, g', es, hm, hstp, hq'⟩
    ·rw [hf] at hx; cases hx
    have hrunT := runT_crowd_go (P := P) (sl := sl') (i := i) hi (by rw [hi0]; exact hstp (w₁.at d))
    have hsz : ((gs.map (woken P x g' (w₁.at d))).setIfInBounds i g').size = gs.size := by simp
    have hsum : sumTo gs.size (upd q i k) + (k + 1) = sumTo gs.size q + k := by
     have := sumTo_upd q k id hlt
     simpa [hqi] using this
    obtain ⟨N, gs', a', w'', sl'', t', q', c1, c2, c3, c4, c5, c6, c7, c8⟩ := ih (sumTo gs.size (upd q i k)) (by omega) ((gs.map (woken P x g' (w₁.at d))).setIfInBounds i g') (w₁.at d) sl' (t ++ MemOp.ofEvents i x.frame.fn x.frame.place es) (upd q i k) ⟨d, by rw [hw]; rfl⟩ (by rw [hsz]; exact Nat.le_refl _)
     (by
      rw [Array.getElem?_setIfInBounds_ne (by omega), Array.getElem?_map, h0]
      simp [woken_run hrun])
     ⟨fun j y hj hy => by
      by_cases hji : i = j
      ·subst hji
       rw [Array.getElem?_setIfInBounds_self_of_lt (by simpa using hlt)] at hy
       obtain rfl := Option.some.inj hy
       rw [upd_same, Deaf_own]
       exact hq'
      ·rw [Array.getElem?_setIfInBounds_ne hji, Array.getElem?_map] at hy
       obtain ⟨z, hz, rfl⟩ := Option.map_eq_some_iff.1 hy
       have hqj := hL.old j z hj hz
       rw [woken_quitsD hqj, upd_ne q k (Ne.symm hji), Deaf_other t hji _ (fun op hop => by obtain ⟨e, _, rfl⟩ := Go.Conc.mem_ofEvents hop; rfl)]
       exact hqj, fun j hj => by
      rw [Deaf_other t (g' := i) (by simp at hj; omega) _ (fun op hop => by obtain ⟨e, _, rfl⟩ := Go.Conc.mem_ofEvents hop; rfl)]
      exact hL.above j (by simpa using hj)⟩ (hP.mute (by omega) hm)
    exact ⟨N + 1, gs', a', w'', sl'', t', q', by simp only [runNT, hst, hrunT]; exact c1, c2, c3, c4, c5, c6, c7, c8⟩
end
end Go.Ride
