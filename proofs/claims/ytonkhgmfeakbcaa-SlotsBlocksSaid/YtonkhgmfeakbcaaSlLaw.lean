/-
  What Write, Fill and Read do to single cells; hits of slots of hits.
-/
import Derived.Test.YtonkhgmfeakbcaaSlOf
import Derived.Test.YtonkhgmfeakbcaaSlOpen
import Derived.Laws.BitsLemmas
namespace Go.Proofs.Ytonkhgmfeakbcaa
open Go.RowKit
set_option linter.unusedVariables false
set_option linter.unusedSimpArgs false
/-- A cell of a slot. -/
def slc (v : Sl) (c : Nat) : BitVec 64 := if c = 0 then v.1 else if c = 1 then v.2.1 else v.2.2
theorem cl_set (C : List (BitVec 64)) (x i : Nat) (v : BitVec 64) : cl (C.set x v) i = if x = i ∧ x < C.length then v else cl C i := by
  unfold cl
  simp only [List.getD, List.getElem?_set]
  by_cases h : x = i
  · subst h
    by_cases h2 : x < C.length
    · simp [h2]
    · simp [h2]
  · simp [h]
theorem cl_stS (s : St) (x i : Nat) (v : Sl) (h : x + 3 ≤ s.1.length) : cl (stS s x v).1 i = if x ≤ i ∧ i < x + 3 then slc v (i - x) else cl s.1 i := by
  unfold stS slc
  simp only [cl_set, List.length_set]
  by_cases h0 : i = x
  · subst h0
    rw [if_neg (by omega), if_neg (by omega), if_pos (by omega), if_pos (by omega), if_pos (by omega)]
  by_cases h1 : i = x + 1
  · subst h1
    rw [if_neg (by omega), if_pos (by omega), if_pos (by omega), if_neg (by omega), if_pos (by omega)]
  by_cases h2 : i = x + 2
  · subst h2
    rw [if_pos (by omega), if_pos (by omega), if_neg (by omega), if_neg (by omega)]
  rw [if_neg (by omega), if_neg (by omega), if_neg (by omega), if_neg (by omega)]
theorem cl_wrS (base : Nat) (L : Nat → Sl) (s : St) (n i : Nat) (h : base + 3 * n ≤ s.1.length) : cl (wrS base L s n).1 i = if base ≤ i ∧ i < base + 3 * n then slc (L ((i - base) / 3)) ((i - base) % 3) else cl s.1 i := by
  induction n with
  | zero => rw [if_neg (by omega)]; rfl
  | succ n ih =>
    have hl := (wrS_len base L s n).1
    show cl (stS (wrS base L s n) (base + 3 * n) (L n)).1 i = _
    rw [cl_stS _ _ _ _ (by rw [hl]; omega), ih (by omega)]
    by_cases h0 : base + 3 * n ≤ i ∧ i < base + 3 * n + 3
    · rw [if_pos h0, if_pos (by omega)]
      rw [show (i - base) / 3 = n by omega, show (i - base) % 3 = i - (base + 3 * n) by omega]
    · rw [if_neg h0]
      by_cases h1 : base ≤ i ∧ i < base + 3 * n
      · rw [if_pos h1, if_pos (by omega)]
      · rw [if_neg h1, if_neg (by omega)]
theorem cl_fiS (hits first : Nat) (b : Bool) (e : BitVec 64) (s : St) (p i : Nat) (h : first + 3 * p ≤ s.1.length) (hd : hits + p ≤ first ∨ first + 3 * p ≤ hits) : cl (fiS hits first b e s p).1 i = if first ≤ i ∧ i < first + 3 * p then slc (fiV b e ((i - first) / 3) (cl s.1 (hits + (i - first) / 3))) ((i - first) % 3) else cl s.1 i := by
  induction p generalizing i with
  | zero => rw [if_neg (by omega)]; rfl
  | succ n ih =>
    have hl := (fiS_len hits first b e s n).1
    show cl (stS ((fiS hits first b e s n).1, (fiS hits first b e s n).2 ++ [(1, hits + n)]) (first + 3 * n) (fiV b e n (cl (fiS hits first b e s n).1 (hits + n)))).1 i = _
    rw [cl_stS _ _ _ _ (by dsimp only; rw [hl]; omega), ih _ (by omega) (by omega), ih _ (by omega) (by omega)]
    rw [if_neg (show ¬ (first ≤ hits + n ∧ hits + n < first + 3 * n) by omega)]
    by_cases h0 : first + 3 * n ≤ i ∧ i < first + 3 * n + 3
    · rw [if_pos h0, if_pos (by omega)]
      rw [show (i - first) / 3 = n by omega, show (i - first) % 3 = i - (first + 3 * n) by omega]
    · rw [if_neg h0]
      by_cases h1 : first ≤ i ∧ i < first + 3 * n
      · rw [if_pos h1, if_pos (by omega)]
      · rw [if_neg h1, if_neg (by omega)]
theorem slc_all (v : Sl) : (slc v 0, slc v 1, slc v 2) = v := rfl
theorem rdL_ext (base : Nat) (C : List (BitVec 64)) (L : List Sl) (h : ∀ k, k < L.length → ∀ c, c < 3 → cl C (base + 3 * k + c) = slc (sl L k) c) : rdL base C L.length = L := by
  apply List.ext_getElem
  · simp [rdL]
  · intro k h1 h2
    simp only [rdL, List.getElem_map, List.getElem_range]
    unfold rdV
    have e := h k h2
    have e0 := e 0 (by omega)
    rw [Nat.add_zero] at e0
    rw [e0, e 1 (by omega), e 2 (by omega), slc_all]
    simp [sl, List.getD, h2]
theorem rd_wr (base : Nat) (s : St) (L : List Sl) (h : base + 3 * L.length ≤ s.1.length) : rdL base (wrS base (sl L) s L.length).1 L.length = L := by
  apply rdL_ext
  intro k hk c hc
  rw [cl_wrS _ _ _ _ _ h, if_pos (by omega), show (base + 3 * k + c - base) / 3 = k by omega, show (base + 3 * k + c - base) % 3 = c by omega]
theorem cl_ext {A B : List (BitVec 64)} (hl : A.length = B.length) (h : ∀ i, i < A.length → cl A i = cl B i) : A = B := by
  apply List.ext_getElem hl
  intro i h1 h2
  have := h i h1
  simpa [cl, List.getD, h1, h2] using this
theorem cl_take (A : List (BitVec 64)) (k i : Nat) (h : i < k) : cl (A.take k) i = cl A i := by
  unfold cl; simp [List.getD, List.getElem?_take, h]
theorem cl_drop (A : List (BitVec 64)) (k i : Nat) : cl (A.drop k) i = cl A (k + i) := by
  unfold cl; simp [List.getD, List.getElem?_drop]
theorem wr_take (base : Nat) (L : Nat → Sl) (s : St) (n : Nat) (h : base + 3 * n ≤ s.1.length) : (wrS base L s n).1.take base = s.1.take base := by
  have hl := (wrS_len base L s n).1
  apply cl_ext
  · rw [List.length_take, List.length_take, hl]
  · intro i hi
    rw [List.length_take] at hi
    rw [cl_take _ _ _ (by omega), cl_take _ _ _ (by omega), cl_wrS _ _ _ _ _ h, if_neg (by omega)]
theorem wr_drop (base : Nat) (L : Nat → Sl) (s : St) (n : Nat) (h : base + 3 * n ≤ s.1.length) : (wrS base L s n).1.drop (base + 3 * n) = s.1.drop (base + 3 * n) := by
  have hl := (wrS_len base L s n).1
  apply cl_ext
  · rw [List.length_drop, List.length_drop, hl]
  · intro i hi
    rw [cl_drop, cl_drop, cl_wrS _ _ _ _ _ h, if_neg (by omega)]
theorem wrap_bv {x : Int} (h : -9223372036854775808 ≤ x ∧ x ≤ 9223372036854775807) : IntKind.i64.wrap (n64 (bv x)) = x := by
  have e : n64 (bv x) = IntKind.u64.wrap x := (wrap_u64 x).symm
  rw [e, IntKind.wrap_u64]
  rw [IntKind.wrap_i64]
  omega
theorem hiL_append (A B : List Sl) : hiL (A ++ B) = hiL A ++ hiL B := by unfold hiL; rw [List.filter_append, List.map_append]
theorem hiL_ofV (H : List Hi) (h : ∀ x ∈ H, InI x.1 ∧ InI x.2) : hiL (H.map ofV) = H := by
  induction H with
  | nil => rfl
  | cons x H ih =>
    have hx := h x (List.mem_cons_self ..)
    have e : hiL ((x :: H).map ofV) = hiV (ofV x) :: hiL (H.map ofV) := by
      unfold hiL
      rw [List.map_cons, List.filter_cons, if_pos (show vaB (ofV x) = true by show decide ((msk true).toNat % 2 = 1) = true; decide), List.map_cons]
    rw [e, ih (fun y hy => h y (List.mem_cons_of_mem _ hy))]
    congr 1
    unfold hiV ofV
    dsimp only
    rw [wrap_bv hx.1, wrap_bv hx.2]
theorem hiL_zero (n : Nat) : hiL (List.replicate n sl0) = [] := by
  unfold hiL
  rw [List.filter_eq_nil_iff.2 (fun x hx => by rw [List.eq_of_mem_replicate hx]; decide)]
  rfl
theorem hi_of (H : List Hi) (n : Nat) (h : ∀ x ∈ H, InI x.1 ∧ InI x.2) : hiL (ofL H n) = H := by
  unfold ofL ofK
  rw [hiL_append, List.take_length, hiL_ofV H h, hiL_zero, List.append_nil]
end Go.Proofs.Ytonkhgmfeakbcaa
