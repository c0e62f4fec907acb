/-
  A call that works over an arena of the specification that was there, with blocks of its own.
-/
import Derived.Test.YtlefjlclhmapaaaTwin
import Derived.Test.YtlefjlclhmapaaaPair
namespace Go.Proofs.Ytlefjlclhmapaaa
open Go.RowKit
set_option linter.unusedVariables false
set_option maxRecDepth 100000
/-- From w0 on, where the arena's blocks lay in F: the arena, and blocks of the call's own. -/
def WkR (w0 : World) (F : Nat → Prop) (w : World) (bs : Bks) (p : Nat) (C : List (BitVec 64)) (E : List Ev) : Prop :=
  ∃ F1, Rf w F1 p C E ∧ (∀ k, F1 k → F k ∨ w0.heap.size ≤ k) ∧ Off F w0 w ∧ (∀ k, F k → k < w0.heap.size) ∧ (∀ x ∈ bs, Blk w x.1 x.2.1 x.2.2 ∧ ¬ F1 x.1 ∧ w0.heap.size ≤ x.1) ∧ (bs.map Prod.fst).Nodup
section
variable {w0 w w' : World} {F : Nat → Prop} {bs : Bks} {p : Nat} {C C2 : List (BitVec 64)} {E E2 : List Ev}
theorem WkR.start (h : Rf w F p C E) : WkR w F w [] p C E := ⟨F, h, fun k hk => .inl hk, Off.refl _ _, h.lt, (fun x hx => (by cases hx)), List.nodup_nil⟩
theorem WkR.done (h : WkR w0 F w bs p C E) : RfTo w0 F p C E w := by
  obtain ⟨F1, ha, hf, ho, hl, hb, hn⟩ := h
  exact ⟨ha.mono (fun k hk => (hf k hk).elim (fun h => .inl h) (fun h => .inr ⟨h, ha.lt k hk⟩)) (Grow.lt hl ho.size), ho⟩
theorem WkR.ar (h : WkR w0 F w bs p C E) : ∃ F1, Rf w F1 p C E := by obtain ⟨F1, ha, _⟩ := h; exact ⟨F1, ha⟩
theorem WkR.n2 (h : WkR w0 F w bs p C E) : C.length ≤ 65536 := by obtain ⟨F1, ha, _⟩ := h; exact ha.n2
theorem WkR.blk (h : WkR w0 F w bs p C E) {b : Nat} {t : TypeId} {cs : Array Value} (hm : (b, t, cs) ∈ bs) : Blk w b t cs := by
  obtain ⟨F1, ha, hf, ho, hl, hb, hn⟩ := h
  exact (hb _ hm).1
theorem WkR.off (h : WkR w0 F w bs p C E) (o : Off Nob w w') : WkR w0 F w' bs p C E := by
  obtain ⟨F1, ha, hf, ho, hl, hb, hn⟩ := h
  exact ⟨F1, ha.keep o (fun _ _ hn => hn), hf, ho.also o.ofNob, hl, fun x hx => ⟨(hb x hx).1.to (o.block _ (hb x hx).1.lt (fun h => h)), (hb x hx).2⟩, hn⟩
theorem WkR.push (h : WkR w0 F w bs p C E) (t : TypeId) (cs : Array Value) : WkR w0 F (w.alloc (.cells cs t)) ((w.heap.size, t, cs) :: bs) p C E := by
  have hk := h
  obtain ⟨F1, ha, hf, ho, hl, hb, hn⟩ := h
  refine ⟨F1, ha.box _, hf, ho.alloc _, hl, fun x hx => ?_, ?_⟩
  · rcases List.mem_cons.1 hx with rfl | hx
    · exact ⟨Blk.new _ _ _, fun hk => by have := ha.lt _ hk; simp at this, ho.size⟩
    · exact ⟨(hb x hx).1.alloc _, (hb x hx).2⟩
  · rw [List.map_cons, List.nodup_cons]
    refine ⟨fun hm => ?_, hn⟩
    obtain ⟨x, hx, he⟩ := List.mem_map.1 hm
    have := (hb x hx).1.lt
    simp at he
    omega
theorem WkR.call (h : WkR w0 F w bs p C E) {P : Program} {f : FuncId} {xs : Array Value} {e0 : Ending}
    (hc : ∀ w F, Rf w F p C E → Calls P f xs w fun e w' => e = e0 ∧ RfTo w F p C2 E2 w') : Calls P f xs w fun e w' => e = e0 ∧ WkR w0 F w' bs p C2 E2 := by
  obtain ⟨F1, ha, hf, ho, hl, hb, hn⟩ := h
  refine (hc w F1 ha).mono fun e w' ⟨he, a3, o3⟩ => ⟨he, _, a3, fun k hk => ?_, ?_, hl, fun x hx => ?_, hn⟩
  · rcases hk with hk | hk
    · exact hf k hk
    · exact .inr (Nat.le_trans ho.size hk.1)
  · exact ⟨o3.os.trans ho.os, o3.tape.trans ho.tape, o3.output.trans ho.output, Nat.le_trans ho.size o3.size, fun i hi hn => (o3.block i (Nat.lt_of_lt_of_le hi ho.size) (fun hf1 => by rcases hf i hf1 with h | h; exact hn h; omega)).trans (ho.block i hi hn)⟩
  · obtain ⟨g1, g2, g3⟩ := hb x hx
    exact ⟨g1.to (o3.block _ g1.lt g2), fun h => h.elim g2 (fun h => by have := g1.lt; omega), g3⟩
/-- A cell of the first block, written. -/
theorem WkR.put {g : Nat} {t : TypeId} {cs : Array Value} (h : WkR w0 F w ((g, t, cs) :: bs) p C E) (i : Nat) (u : Value) : WkR w0 F (w.setCell ⟨g, i, none⟩ u) ((g, t, cs.setIfInBounds i u) :: bs) p C E := by
  obtain ⟨F1, ha, hf, ho, hl, hb, hn⟩ := h
  obtain ⟨g1, g2, g3⟩ := hb _ (List.mem_cons_self ..)
  have off : Off (fun k => k = g) w (w.setCell ⟨g, i, none⟩ u) := Off.put (F := fun k => k = g) (p := ⟨g, i, none⟩) (Off.refl _ w) (Or.inl (Eq.refl g)) u
  have hn2 := hn
  rw [List.map_cons, List.nodup_cons] at hn2
  refine ⟨F1, ha.keep off (fun k hk hn => g2 (by have e : k = g := hn; rw [e] at hk; exact hk)), hf, ?_, hl, fun x hx => ?_, hn⟩
  · exact ⟨rfl |>.trans ho.os, ho.tape, ho.output, by simpa using ho.size, fun k hk hnf => (off.block k (Nat.lt_of_lt_of_le hk ho.size) (fun e => by have e2 : k = g := e; have : w0.heap.size ≤ g := g3; omega)).trans (ho.block k hk hnf)⟩
  · rcases List.mem_cons.1 hx with rfl | hx2
    · exact ⟨g1.put i u, g2, g3⟩
    · obtain ⟨k1, k2, k3⟩ := hb x (List.mem_cons_of_mem _ hx2)
      exact ⟨k1.far (p := ⟨g, i, none⟩) (fun e => hn2.1 (List.mem_map.2 ⟨x, hx2, e⟩)) u, k2, k3⟩
theorem WkR.drop {a : Nat × TypeId × Array Value} (h : WkR w0 F w (a :: bs) p C E) : WkR w0 F w bs p C E := by
  obtain ⟨F1, ha, hf, ho, hl, hb, hn⟩ := h
  rw [List.map_cons, List.nodup_cons] at hn
  exact ⟨F1, ha, hf, ho, hl, fun x hx => hb x (List.mem_cons_of_mem _ hx), hn.2⟩
theorem WkR.sub {bs2 : Bks} (h : WkR w0 F w bs p C E) (hs : ∀ x ∈ bs2, x ∈ bs) (hn2 : (bs2.map Prod.fst).Nodup) : WkR w0 F w bs2 p C E := by
  obtain ⟨F1, ha, hf, ho, hl, hb, hn⟩ := h
  exact ⟨F1, ha, hf, ho, hl, fun x hx => hb x (hs x hx), hn2⟩
theorem WkR.nodup (h : WkR w0 F w bs p C E) : (bs.map Prod.fst).Nodup := by obtain ⟨F1, ha, hf, ho, hl, hb, hn⟩ := h; exact hn
end
end Go.Proofs.Ytlefjlclhmapaaa
