/-
  What exchanged and moved rows are, cell by cell.
-/
import Derived.Test.YtdgehacbpjgmcaaMaskRows
namespace Go.Proofs.Ytdgehacbpjgmcaa
theorem cl_set (C : List (BitVec 64)) (i j : Nat) (v : BitVec 64) (hi : i < C.length) : cl (C.set i v) j = if i = j then v else cl C j := by
  unfold cl
  simp only [List.getD, List.getElem?_set]
  by_cases h : i = j
  · subst h; simp [hi]
  · rw [if_neg h, if_neg h]
theorem cl_ext {A B : List (BitVec 64)} (hl : A.length = B.length) (h : ∀ j, j < A.length → cl A j = cl B j) : A = B := by
  apply List.ext_getElem hl
  intro j h1 h2
  have := h j h1
  simpa [cl, List.getD, h1, h2] using this
theorem xor_ones (u v : BitVec 64) : u ^^^ (msk true &&& (u ^^^ v)) = v ∧ v ^^^ (msk true &&& (u ^^^ v)) = u := by
  rw [msk_true, BitVec.allOnes_and]
  constructor
  · rw [← BitVec.xor_assoc, BitVec.xor_self, BitVec.zero_xor]
  · rw [BitVec.xor_comm u v, ← BitVec.xor_assoc, BitVec.xor_self, BitVec.zero_xor]
theorem xor_none (u v : BitVec 64) : u ^^^ (msk false &&& v) = u := by
  rw [msk_false, BitVec.zero_and, BitVec.xor_zero]
theorem cl_swC (C : List (BitVec 64)) (b : Bool) (x y j : Nat) (hx : x < C.length) (hy : y < C.length) (hxy : x ≠ y) :
    cl (swC C (msk b) x y) j = if b = true then (if j = x then cl C y else if j = y then cl C x else cl C j) else cl C j := by
  unfold swC
  rw [cl_set _ _ _ _ (by simpa using hy), cl_set _ _ _ _ hx]
  cases b
  · rw [xor_none, xor_none]
    simp only [Bool.false_eq_true, if_false]
    by_cases h1 : y = j
    · rw [if_pos h1, h1]
    · rw [if_neg h1]
      by_cases h2 : x = j
      · rw [if_pos h2, h2]
      · rw [if_neg h2]
  · rw [(xor_ones _ _).1, (xor_ones _ _).2]
    simp only [if_true]
    by_cases h1 : y = j
    · subst h1; rw [if_pos rfl, if_neg (fun h => hxy h.symm), if_pos rfl]
    · rw [if_neg h1]
      by_cases h2 : x = j
      · subst h2; rw [if_pos rfl, if_pos rfl]
      · rw [if_neg h2, if_neg (fun h => h2 h.symm), if_neg (fun h => h1 h.symm)]
/-- The cells behind an exchange of the first k cells of two rows that are apart. -/
theorem cl_swap (C : List (BitVec 64)) (E : List Ev) (b : Bool) (x y n : Nat) (hx : x + n ≤ C.length) (hy : y + n ≤ C.length) (hap : x + n ≤ y ∨ y + n ≤ x) :
    ∀ k, k ≤ n → ∀ j, cl (rep (swF (msk b) x y) (C, E) k).1 j = if b = true then (if x ≤ j ∧ j < x + k then cl C (j - x + y) else if y ≤ j ∧ j < y + k then cl C (j - y + x) else cl C j) else cl C j := by
  intro k
  induction k with
  | zero =>
    intro _ j
    rw [rep_zero, if_neg (show ¬ (x ≤ j ∧ j < x + 0) by omega), if_neg (show ¬ (y ≤ j ∧ j < y + 0) by omega)]
    split <;> rfl
  | succ k ih =>
    intro hk j
    have ih1 := ih (by omega)
    have hl := (rep_sw_len (msk b) x y (C, E) k).1
    rw [rep_succ]
    show cl (swC (rep (swF (msk b) x y) (C, E) k).1 (msk b) (x + k) (y + k)) j = _
    rw [cl_swC _ _ _ _ _ (by rw [hl]; show x + k < C.length; omega) (by rw [hl]; show y + k < C.length; omega) (by omega), ih1 (x + k), ih1 (y + k), ih1 j]
    cases b
    · rfl
    · simp only [if_true]
      by_cases h1 : j = x + k
      · subst h1
        rw [if_pos rfl, if_neg (by omega), if_neg (by omega), if_pos (by omega)]
        congr 1; omega
      · rw [if_neg h1]
        by_cases h2 : j = y + k
        · subst h2
          rw [if_pos rfl, if_neg (by omega), if_neg (by omega), if_neg (by omega), if_pos (by omega)]
          congr 1; omega
        · rw [if_neg h2]
          by_cases h3 : x ≤ j ∧ j < x + k
          · rw [if_pos h3, if_pos (by omega)]
          · rw [if_neg h3, if_neg (show ¬ (x ≤ j ∧ j < x + (k + 1)) by omega)]
            by_cases h4 : y ≤ j ∧ j < y + k
            · rw [if_pos h4, if_pos (by omega)]
            · rw [if_neg h4, if_neg (by omega)]
theorem cl_move (C : List (BitVec 64)) (E : List Ev) (b : Bool) (x y n : Nat) (hy : y + n ≤ C.length) (hap : x + n ≤ y ∨ y + n ≤ x) :
    ∀ k, k ≤ n → ∀ j, cl (rep (mvF (msk b) x y) (C, E) k).1 j = if b = true ∧ y ≤ j ∧ j < y + k then cl C (j - y + x) else cl C j := by
  intro k
  induction k with
  | zero => intro _ j; rw [rep_zero, if_neg (by omega)]
  | succ k ih =>
    intro hk j
    have ih1 := ih (by omega)
    have hl := (rep_mv_len (msk b) x y (C, E) k).1
    rw [rep_succ]
    show cl (mvC (rep (mvF (msk b) x y) (C, E) k).1 (msk b) (x + k) (y + k)) j = _
    unfold mvC
    rw [cl_set _ _ _ _ (by rw [hl]; show y + k < C.length; omega), sel_msk, ih1 (x + k), ih1 (y + k), ih1 j]
    cases b
    · simp only [Bool.false_eq_true, false_and, if_false]
      by_cases h1 : y + k = j
      · rw [if_pos h1, h1]
      · rw [if_neg h1]
    · simp only [true_and, if_true]
      by_cases h1 : y + k = j
      · subst h1
        rw [if_pos rfl, if_neg (by omega), if_pos (by omega)]
        congr 1; omega
      · rw [if_neg h1]
        by_cases h3 : y ≤ j ∧ j < y + k
        · rw [if_pos h3, if_pos (by omega)]
        · rw [if_neg h3, if_neg (by omega)]
/-- Twice is nothing. -/
theorem swap_twice (C : List (BitVec 64)) (E E' : List Ev) (b : Bool) (x y n : Nat) (hx : x + n ≤ C.length) (hy : y + n ≤ C.length) (hap : x + n ≤ y ∨ y + n ≤ x) :
    (rep (swF (msk b) x y) ((rep (swF (msk b) x y) (C, E) n).1, E') n).1 = C := by
  have hl := (rep_sw_len (msk b) x y (C, E) n).1
  have hl2 := (rep_sw_len (msk b) x y ((rep (swF (msk b) x y) (C, E) n).1, E') n).1
  apply cl_ext (hl2.trans hl)
  intro j _
  rw [cl_swap _ _ _ _ _ n (by rw [hl]; exact hx) (by rw [hl]; exact hy) hap n (Nat.le_refl _), cl_swap C E b x y n hx hy hap n (Nat.le_refl _) (j - x + y), cl_swap C E b x y n hx hy hap n (Nat.le_refl _) (j - y + x), cl_swap C E b x y n hx hy hap n (Nat.le_refl _) j]
  cases b
  · rfl
  · simp only [if_true]
    by_cases h1 : x ≤ j ∧ j < x + n
    · rw [if_pos h1, if_neg (by omega), if_pos (by omega)]; congr 1; omega
    · rw [if_neg h1, if_neg h1]
      by_cases h2 : y ≤ j ∧ j < y + n
      · rw [if_pos h2, if_pos (by omega)]; congr 1; omega
      · rw [if_neg h2, if_neg h2]
end Go.Proofs.Ytdgehacbpjgmcaa
