/-
  step, Load and Store of an arena, where the step may be made.
-/
import Derived.Test.YtlefjlclhmapaaaStep
namespace Go.Proofs.Ytlefjlclhmapaaa
open Go.RowKit
set_option maxRecDepth 100000

section
variable {w : World} {F : Nat → Prop} {p : Nat} {C : List (BitVec 64)} {E : List Ev}
set_option maxHeartbeats 400000 in
theorem step_ok (h : Ar w F p C E) (k : Nat) (hk : k < 4) (x : Int) (h0 : 0 ≤ x) (h1 : x < C.length) (he : E.length < 8388608) :
    Calls Try.prog 43 #[.pointer (some ⟨p, 0, none⟩), .int .i64 k, .int .i64 x] w fun e w' => e = .returned (.int .i64 0) ∧ ArTo w F p C (E ++ [(k, x.toNat)]) w' := by
  obtain ⟨x, rfl⟩ := Int.eq_ofNat_of_zero_le h0
  have h2 := h.n2
  have HN := Lib.hid (none_ok h)
  have HA := Lib.hid (add_any h he k x (by omega) hk)
  obtain ⟨cb, pv, ps, rg, hpl, h⟩ := h
  have c1 := h.top.cell 1
  have c2 := h.top.cell 2
  simp only [List.getElem?_toArray, List.getElem?_cons_succ, List.getElem?_cons_zero] at c1 c2
  have hz : ((E.length : Int) == 8388608) = false := by rw [beq_eq_false_iff_ne]; omega
  have hx : ¬ (C.length : Int) ≤ x := by omega
  clear h hpl
  go_enter Try.func43, Try.ntmps43
  go_wp2_with (first | (go_at_call 54; refine HN.out.mono ?_; rintro e w' ⟨rfl, rfl⟩) | (go_at_call 65; refine HA.out.mono ?_; rintro e w' ⟨rfl, hw⟩))
  go_ret
  exact ⟨rfl, hw⟩

set_option maxHeartbeats 400000 in
theorem load_ok (h : Ar w F p C E) (x : Int) (h0 : 0 ≤ x) (h1 : x < C.length) (he : E.length < 8388608) :
    Calls Try.prog 66 #[.pointer (some ⟨p, 0, none⟩), .int .i64 x] w fun e w' => e = .returned (.tuple #[.int .u64 (n64 (cl C x.toNat)), .int .i64 0]) ∧ ArTo w F p C (E ++ [(1, x.toNat)]) w' := by
  have HS := Lib.hid (step_ok h 1 (by decide) x h0 h1 he)
  obtain ⟨x, rfl⟩ := Int.eq_ofNat_of_zero_le h0
  go_enter Try.func66, Try.ntmps66
  go_wp2_with fail
  refine HS.out.mono ?_
  rintro e w1 ⟨rfl, hw⟩
  have HW := Lib.hid hw
  obtain ⟨⟨cb, pv, ps, rg, hpl, h⟩, ho⟩ := hw
  have c2 := h.top.cell 2
  have hx : x < C.length := by omega
  have cx := h.cel.cell x
  rw [List.getElem?_toArray, getElem_u64s _ _ hx] at cx
  simp only [List.getElem?_toArray, List.getElem?_cons_succ, List.getElem?_cons_zero] at c2
  clear h ho hpl
  go_wp2
  go_ret2
  exact ⟨rfl, HW.out⟩

theorem Ar.stored (h : Ar w F p C E) (x : Nat) (v : BitVec 64) (hx : x < C.length) : ∃ cb, w.cell? ⟨p, 2, none⟩ = some (.slice (some ⟨cb, 0, none⟩) C.length C.length) ∧ w.cell? ⟨cb, x, none⟩ = some (.int .u64 (n64 (cl C x))) ∧ w.frozen? ⟨cb, x, none⟩ = false ∧
    Ar (w.setCell ⟨cb, x, none⟩ (.int .u64 (n64 v))) F p (C.set x v) E ∧ F cb := by
  obtain ⟨cb, pv, ps, rg, hpl, h⟩ := h
  have cx := h.cel.cell x
  rw [List.getElem?_toArray, getElem_u64s _ _ hx] at cx
  refine ⟨cb, h.top.cell 2, cx, h.cel.frozen x, ⟨cb, pv, ps, rg, hpl, ?_⟩, h.fc⟩
  have n1 : p ≠ cb := h.top.diff h.cel (by decide)
  refine { h with top := ?_, cel := ?_, own := ?_, n1 := ?_, n2 := ?_, pg := ?_, fl := ?_ }
  · rw [List.length_set]; exact h.top.far (p := ⟨cb, x, none⟩) n1 _
  · have := h.cel.put x (.int .u64 (n64 v))
    have e1 : (u64s C).toArray.setIfInBounds x (.int .u64 (n64 v)) = (u64s (C.set x v)).toArray := by simp [u64s, List.map_set]
    rwa [e1] at this
  · exact own_to h.own fun g hg => Below.heap_setCell _ ⟨cb, x, none⟩ _ _ (fun e => by subst e; exact own_diff h.own h.cel (by decide) hg)
  · rw [List.length_set]; exact h.n1
  · rw [List.length_set]; exact h.n2
  · intro i hi
    exact (h.pg i hi).far (p := ⟨cb, x, none⟩) ((h.pg i hi).diff h.cel (by decide)) _
  · intro k hk; simpa using h.fl k hk

set_option maxHeartbeats 400000 in
theorem store_ok (h : Ar w F p C E) (x : Int) (v : BitVec 64) (h0 : 0 ≤ x) (h1 : x < C.length) (he : E.length < 8388608) :
    Calls Try.prog 23 #[.pointer (some ⟨p, 0, none⟩), .int .i64 x, .int .u64 (n64 v)] w fun e w' => e = .returned (.int .i64 0) ∧ ArTo w F p (C.set x.toNat v) (E ++ [(2, x.toNat)]) w' := by
  have HS := Lib.hid (step_ok h 2 (by decide) x h0 h1 he)
  obtain ⟨x, rfl⟩ := Int.eq_ofNat_of_zero_le h0
  go_enter Try.func23, Try.ntmps23
  go_wp2_with fail
  refine HS.out.mono ?_
  rintro e w1 ⟨rfl, hw⟩
  have hx : x < C.length := by omega
  obtain ⟨hw1, ho⟩ := hw
  obtain ⟨cb, c2, cx, fx, h3, hf⟩ := hw1.stored x v hx
  have H3 := Lib.hid h3
  have HO := Lib.hid ho
  have HF := Lib.hid hf
  clear h3 ho hf hw1
  go_wp2
  go_ret
  refine ⟨rfl, H3.out.mono (fun k hk => ?_) ?_, HO.out.trans (Off.put (Off.refl _ _) (.inl HF.out) _)⟩
  · rcases hk with hk | hk
    · exact .inl hk
    · exact .inr ⟨hk.1, by simpa using hk.2⟩
  · intro k hk
    rcases hk with hk | hk
    · exact H3.out.lt k (.inl hk)
    · exact hk.2
def ErPost (w : World) (F : Nat → Prop) (p : Nat) (c : Int) (r : List (BitVec 64) × List Ev) (e : Ending) (w' : World) : Prop :=
  e = .returned (.int .i64 c) ∧ ArTo w F p r.1 r.2 w'
/-- The arena behind the boxes of a call's own. -/
theorem Ar.box (h : Ar w F p C E) (o : Obj) : Ar (w.alloc o) F p C E := h.keep (Off.alloc (Off.refl Nob w) o) (fun _ _ hn => hn)
theorem ArTo.box {o : Obj} {w' : World} {C' : List (BitVec 64)} {E' : List Ev} (h : Ar w F p C E) (k : ArTo (w.alloc o) F p C' E' w') : ArTo w F p C' E' w' := by
  have ho : Off F w w' := (Off.alloc (Off.refl _ _) o).also k.2
  refine ⟨k.1.mono (fun i hi => ?_) (Grow.lt h.lt ho.size), ho⟩
  rcases hi with hi | hi
  · exact .inl hi
  · exact .inr ⟨by have := hi.1; simp at this; omega, hi.2⟩


end
end Go.Proofs.Ytlefjlclhmapaaa
