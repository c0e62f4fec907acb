/-
  Packed, and packed again without some: as packed without these at once. Nothing of the program is named here.
-/
import Derived.Test.YtlefjlclhmapaaaNetPacked
namespace Go.Proofs.Ytlefjlclhmapaaa
open Go.RowKit
set_option linter.unusedVariables false
set_option maxRecDepth 100000
theorem apL_still (l : List Sl) (n : Nat) (ms : List Mv) : apL l (List.replicate n 0) ms = (l, List.replicate n 0) := by
  unfold apL
  induction ms with
  | nil => rfl
  | cons m ms ih =>
    rw [List.foldl_cons]
    have : apM (l, List.replicate n 0) m = (l, List.replicate n 0) := by
      unfold apM
      have h0 : (List.replicate n 0).getD m.2.1 0 = 0 := by
        simp only [List.getD, List.getElem?_replicate]
        split <;> rfl
      dsimp only
      rw [h0, Nat.zero_div]
      rfl
    rw [this]
    exact ih
section
variable (V O : List Bool) (S : List Sl) (n : Nat)
/-- Behind i places, k of them valid: the slots that are left, the places that are, what is valid still. -/
def lfL (k : Nat) : List Sl := (List.range n).map fun x => if x < k ∧ O.getD x false = true then (0#64, 0#64, 0#64) else sl S x
def isL (k : Nat) : List Bool := (List.range n).map fun x => decide (x < k) && !(O.getD x false)
def reL (i : Nat) : List Bool := (List.range n).map fun j => V.getD j false && !(decide (j < i) && O.getD (rk V j) false)
theorem lfL_at (k x : Nat) (h : x < n) : sl (lfL O S n k) x = if x < k ∧ O.getD x false = true then (0#64, 0#64, 0#64) else sl S x := by simp [sl, lfL, h]
theorem isL_at (k x : Nat) (h : x < n) : (isL O n k).getD x false = (decide (x < k) && !(O.getD x false)) := by simp [isL, h]
theorem reL_at (i j : Nat) (h : j < n) : (reL V O n i).getD j false = (V.getD j false && !(decide (j < i) && O.getD (rk V j) false)) := by simp [reL, h]
theorem lfL_len (k : Nat) : (lfL O S n k).length = n := by simp [lfL]
theorem isL_len (k : Nat) : (isL O n k).length = n := by simp [isL]
theorem reL_len (i : Nat) : (reL V O n i).length = n := by simp [reL]
theorem lfL_zero (h : S.length = n) : lfL O S n 0 = S := by
  apply List.ext_getElem
  · simp [lfL, h]
  · intro x h1 h2; simp [lfL, sl, h2]
theorem isL_zero : isL O n 0 = List.replicate n false := by
  apply List.ext_getElem
  · simp [isL]
  · intro x h1 h2; simp [isL]
theorem reL_zero (h : V.length = n) : reL V O n 0 = V := by
  apply List.ext_getElem
  · simp [reL, h]
  · intro x h1 h2; simp [reL, List.getD, h2]
theorem lfL_yes (k : Nat) (hk : k < n) (h : O.getD k false = true) : lfL O S n (k + 1) = (lfL O S n k).set k (0#64, 0#64, 0#64) := by
  apply List.ext_getElem
  · simp [lfL]
  · intro x h1 h2
    rw [List.getElem_set]
    simp only [lfL, List.getElem_map, List.getElem_range]
    by_cases e : k = x
    · subst e; rw [if_pos rfl, if_pos ⟨by omega, h⟩]
    · rw [if_neg e]
      by_cases h3 : x < k ∧ O.getD x false = true
      · rw [if_pos h3, if_pos ⟨by omega, h3.2⟩]
      · rw [if_neg h3, if_neg (fun hh => h3 ⟨by omega, hh.2⟩)]
theorem lfL_no (k : Nat) (h : O.getD k false = false) : lfL O S n (k + 1) = lfL O S n k := by
  unfold lfL
  apply List.map_congr_left
  intro x _
  by_cases e : x = k
  · subst e; rw [if_neg (fun hh => by rw [h] at hh; exact Bool.false_ne_true hh.2), if_neg (fun hh => by rw [h] at hh; exact Bool.false_ne_true hh.2)]
  · by_cases h3 : x < k ∧ O.getD x false = true
    · rw [if_pos h3, if_pos ⟨by omega, h3.2⟩]
    · rw [if_neg h3, if_neg (fun hh => h3 ⟨by omega, hh.2⟩)]
theorem isL_yes (k : Nat) (hk : k < n) (h : O.getD k false = true) : isL O n (k + 1) = isL O n k := by
  unfold isL
  apply List.map_congr_left
  intro x _
  by_cases e : x = k
  · subst e; rw [h]; simp
  · rw [show decide (x < k + 1) = decide (x < k) from decide_eq_decide.2 (by omega)]
theorem isL_no (k : Nat) (hk : k < n) (h : O.getD k false = false) : isL O n (k + 1) = (isL O n k).set k true := by
  apply List.ext_getElem
  · simp [isL]
  · intro x h1 h2
    rw [List.getElem_set]
    simp only [isL, List.getElem_map, List.getElem_range]
    by_cases e : k = x
    · subst e; rw [if_pos rfl, h]; simp
    · rw [if_neg e, show decide (x < k + 1) = decide (x < k) from decide_eq_decide.2 (by omega)]
theorem reL_same (i : Nat) (h : V.getD i false = false ∨ O.getD (rk V i) false = false) : reL V O n (i + 1) = reL V O n i := by
  unfold reL
  apply List.map_congr_left
  intro x _
  by_cases e : x = i
  · subst e
    rcases h with h | h
    · rw [h]; rfl
    · rw [h]; simp
  · rw [show decide (x < i + 1) = decide (x < i) from decide_eq_decide.2 (by omega)]
theorem reL_yes (i : Nat) (hi : i < n) (h : O.getD (rk V i) false = true) : reL V O n (i + 1) = (reL V O n i).set i false := by
  apply List.ext_getElem
  · simp [reL]
  · intro x h1 h2
    rw [List.getElem_set]
    simp only [reL, List.getElem_map, List.getElem_range]
    by_cases e : i = x
    · subst e; rw [if_pos rfl, h]; simp
    · rw [if_neg e, show decide (x < i + 1) = decide (x < i) from decide_eq_decide.2 (by omega)]
/-- The places that count: as many as what is valid still. -/
theorem cnt_again (hV : V.length = n) (i : Nat) (hi : i ≤ n) : cnt (fun x => (isL O n (rk V n)).getD x false) (rk V i) = cnt (fun j => (reL V O n n).getD j false) i := by
  have mono : ∀ a b, a ≤ b → b ≤ n → rk V a ≤ rk V b := fun a b h hb => by
    rw [rk_cnt V a (by omega), rk_cnt V b (by omega)]; exact (cnt_step h).1
  induction i with
  | zero => rw [rk_zero]; rfl
  | succ i ih =>
    have ih := ih (by omega)
    have hs := rk_succ V i (by omega)
    have hr := reL_at V O n n i (by omega)
    rw [cnt_succ, hr]
    cases hv : V.getD i false
    · rw [hv, if_neg (by decide)] at hs
      rw [hs, Nat.add_zero, ih]
      simp
    · rw [hv, if_pos rfl] at hs
      rw [hs, cnt_succ, ih]
      have hlt : rk V i < rk V n := by have := mono (i + 1) n (by omega) (Nat.le_refl _); omega
      have hle := rk_le V n
      rw [isL_at O n _ _ (by omega)]
      rw [decide_eq_true hlt, decide_eq_true (show i < n by omega)]
      simp
theorem cnt_flat {v : Nat → Bool} {a b : Nat} (h : a ≤ b) (hf : ∀ x, a ≤ x → x < b → v x = false) : cnt v b = cnt v a := by
  induction b with
  | zero => rw [show a = 0 by omega]
  | succ b ih =>
    by_cases e : a = b + 1
    · rw [e]
    · rw [cnt_succ, hf b (by omega) (by omega), ih (by omega) (fun x h1 h2 => hf x h1 (by omega))]; rfl
theorem cnt_onto {v : Nat → Bool} {m y : Nat} (h : y < cnt v m) : ∃ i, i < m ∧ v i = true ∧ cnt v i = y := by
  induction m with
  | zero => exact absurd h (Nat.not_lt_zero _)
  | succ m ih =>
    rw [cnt_succ] at h
    by_cases hy : y < cnt v m
    · obtain ⟨i, h1, h2, h3⟩ := ih hy
      exact ⟨i, by omega, h2, h3⟩
    · cases hv : v m
      · rw [hv, if_neg (by decide)] at h; omega
      · rw [hv, if_pos rfl] at h
        exact ⟨m, by omega, hv, by omega⟩
theorem sl_ext {l m : List Sl} (h1 : l.length = n) (h2 : m.length = n) (h : ∀ x, x < n → sl l x = sl m x) : l = m := by
  apply List.ext_getElem
  · omega
  · intro x a b
    have := h x (by omega)
    simpa [sl, List.getD, a, b] using this
/-- THE SAME. -/
theorem packs_twice (hV : V.length = n) (h1 : 1 ≤ n) (h2 : n ≤ 288) (hS : S = (apL (pkT V n n) (farN V n) (moves n)).1) :
    (apL (lfL O S n (rk V n)) (farN (isL O n (rk V n)) n) (moves n)).1 = (apL (pkT (reL V O n n) n n) (farN (reL V O n n) n) (moves n)).1 := by
  obtain ⟨s1, s2, s3⟩ := packs_of V n hV h1 h2
  rw [← hS] at s1 s2 s3
  obtain ⟨b1, b2, b3⟩ := packs_of (reL V O n n) n (reL_len _ _ _ _) h1 h2
  have hIl := isL_len O n (rk V n)
  obtain ⟨a1, a2, a3⟩ := apL_packs (v := fun x => (isL O n (rk V n)).getD x false) (l := lfL O S n (rk V n)) (far := farN (isL O n (rk V n)) n) h1 h2 (lfL_len _ _ _ _) (farN_len _ _) (fun i hi => by rw [farN_at _ _ _ hi, rk_cnt _ i (by omega)]) (fun x hx hv => by
    rw [lfL_at _ _ _ _ _ hx]
    rw [isL_at _ _ _ _ hx] at hv
    by_cases hk : x < rk V n
    · rw [decide_eq_true hk] at hv
      rw [if_pos ⟨hk, by simpa using hv⟩]
    · rw [if_neg (fun h => hk h.1)]
      exact s3 x hx (by omega))
  have hK : cnt (fun x => (isL O n (rk V n)).getD x false) n = cnt (fun j => (reL V O n n).getD j false) n := by
    rw [← cnt_again V O n hV n (Nat.le_refl _)]
    exact cnt_flat (rk_le V n) (fun x hx1 hx2 => by rw [isL_at _ _ _ _ hx2, decide_eq_false (by omega)]; rfl)
  refine sl_ext n a1 b1 fun y hy => ?_
  by_cases hyk : y < cnt (fun j => (reL V O n n).getD j false) n
  · obtain ⟨j, hj, hvj, hcj⟩ := cnt_onto hyk
    have e1 := b2 j hj hvj
    rw [rk_cnt _ j (by rw [reL_len]; omega), hcj] at e1
    rw [e1, pkT_at _ _ _ _ hj, if_pos hj]
    have hv2 := reL_at V O n n j hj
    rw [hvj, decide_eq_true hj] at hv2
    have hVj : V.getD j false = true := by cases e : V.getD j false <;> rw [e] at hv2 <;> simp at hv2 ⊢
    have hOj : O.getD (rk V j) false = false := by cases e : O.getD (rk V j) false <;> rw [e] at hv2 <;> simp at hv2 ⊢
    have hlt : rk V j < rk V n := by
      rw [rk_cnt V j (by omega), rk_cnt V n (by omega)]
      exact cnt_lt hj hVj
    have hrn := rk_le V n
    have hI : (isL O n (rk V n)).getD (rk V j) false = true := by
      rw [isL_at _ _ _ _ (by omega), decide_eq_true hlt, hOj]; rfl
    have e2 := a2 (rk V j) (by omega) hI
    rw [cnt_again V O n hV j (by omega), hcj] at e2
    rw [e2, lfL_at _ _ _ _ _ (by omega), if_neg (fun h => by rw [hOj] at h; exact Bool.false_ne_true h.2), s2 j hj hVj, pkT_at _ _ _ _ hj, if_pos hj]
    unfold pkS
    rw [hVj, hvj]
  · rw [a3 y hy (by rw [hK]; omega), b3 y hy (by rw [rk_cnt _ n (by rw [reL_len]; omega)]; omega)]
end
end Go.Proofs.Ytlefjlclhmapaaa
