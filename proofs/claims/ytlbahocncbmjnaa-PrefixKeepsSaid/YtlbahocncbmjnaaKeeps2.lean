/-
  PrefixKeeps: the three passes over the cells that made lays.
-/
import Derived.Test.YtlbahocncbmjnaaKeeps1
import Derived.Test.YtlbahocncbmjnaaPrefOf
namespace Go.Proofs.Ytlbahocncbmjnaa
open Go.RowKit
set_option linter.unusedVariables false
set_option maxRecDepth 100000
theorem ofM_par (i : Nat) (b : Bool) (h : i < 1000000) : ofM (BitVec.ofNat 64 (2 * i + (if b = true then 1 else 0))) = msk b := by
  unfold ofM
  rw [BitVec.toNat_ofNat]
  cases b
  · rw [if_neg (by decide), Nat.mod_eq_of_lt (show 2 * i + 0 < 2 ^ 64 by omega), decide_eq_false (by omega)]
  · rw [if_pos rfl, Nat.mod_eq_of_lt (show 2 * i + 1 < 2 ^ 64 by omega), decide_eq_true (by omega)]
theorem msk_one (b : Bool) : msk b &&& 1#64 = BitVec.ofNat 64 (if b = true then 1 else 0) := by cases b <;> rfl
/-- The cells behind Ranks of the first i slots. -/
def f1C (l : List Bool) (i j : Nat) : BitVec 64 := if 3 * l.length ≤ j ∧ j < 3 * l.length + i then BitVec.ofNat 64 (rk l (j - 3 * l.length)) else mkC l l.length j
theorem mkC_at (l : List Bool) (i : Nat) (h : i < l.length) : mkC l l.length (3 * i) = BitVec.ofNat 64 (2 * i + (if l.getD i false = true then 1 else 0)) := by
  unfold mkC
  rw [if_pos (by omega), if_pos (by omega), show 3 * i / 3 = i by omega]
theorem ranks_state (l : List Bool) (hn : l.length ≤ 288) (E : List Ev) : ∀ i, i ≤ l.length → (repS (rkF 0 (3 * l.length)) (mkL l l.length, E, 0#64) i).1 = fL (4 * l.length) (f1C l i) ∧ (repS (rkF 0 (3 * l.length)) (mkL l l.length, E, 0#64) i).2.2 = BitVec.ofNat 64 (rk l i) := by
  intro i
  induction i with
  | zero =>
    intro _
    refine ⟨?_, by rw [rk_zero]; rfl⟩
    rw [repS_zero, mkL_fL]
    exact fL_ext _ _ _ (fun j hj => by unfold f1C; rw [if_neg (by omega)])
  | succ i ih =>
    intro hi
    obtain ⟨h1, h2⟩ := ih (by omega)
    rw [repS_succ]
    revert h1 h2
    generalize repS (rkF 0 (3 * l.length)) (mkL l l.length, E, 0#64) i = q
    obtain ⟨D, E1, m⟩ := q
    rintro h1 h2
    have h1' : D = fL (4 * l.length) (f1C l i) := h1
    have h2' : m = BitVec.ofNat 64 (rk l i) := h2
    subst h1' h2'
    clear h1 h2
    unfold rkF
    have hv : cl (fL (4 * l.length) (f1C l i)) (0 + 3 * i) = BitVec.ofNat 64 (2 * i + (if l.getD i false = true then 1 else 0)) := by
      rw [cl_fL _ _ _ (by omega), Nat.zero_add]
      unfold f1C
      rw [if_neg (by omega), mkC_at l i (by omega)]
    refine ⟨?_, ?_⟩
    · show (fL (4 * l.length) (f1C l i)).set (3 * l.length + i) _ = _
      rw [fL_set]
      apply fL_ext
      intro j hj
      by_cases hji : j = 3 * l.length + i
      · rw [if_pos hji]
        unfold f1C
        rw [if_pos (by omega), show j - 3 * l.length = i by omega]
      · rw [if_neg hji]
        unfold f1C
        by_cases h3 : 3 * l.length ≤ j ∧ j < 3 * l.length + i
        · rw [if_pos h3, if_pos (by omega)]
        · rw [if_neg h3, if_neg (by omega)]
    · show BitVec.ofNat 64 (rk l i) + (ofM (cl (fL (4 * l.length) (f1C l i)) (0 + 3 * i)) &&& 1#64) = _
      rw [hv, ofM_par i _ (by omega), msk_one, rk_succ l i (by omega)]
      apply BitVec.eq_of_toNat_eq
      rw [BitVec.toNat_add]
      simp only [BitVec.toNat_ofNat]
      omega
/-- The slot i is kept. -/
def kpt (l : List Bool) (K i : Nat) : Bool := l.getD i false && decide (rk l i < K)
/-- The cells behind Split of the first i slots; behind Distances. -/
def f2C (l : List Bool) (K i j : Nat) : BitVec 64 := if j % 3 = 0 ∧ j < 3 * i then msk (kpt l K (j / 3)) else f1C l l.length j
def f3C (l : List Bool) (K i j : Nat) : BitVec 64 := if 3 * l.length ≤ j ∧ j < 3 * l.length + i then (if kpt l K (j - 3 * l.length) = true then BitVec.ofNat 64 (j - 3 * l.length - rk l (j - 3 * l.length)) else 0#64) else f2C l K l.length j
theorem f1C_rank (l : List Bool) (i : Nat) (h : i < l.length) : f1C l l.length (3 * l.length + i) = BitVec.ofNat 64 (rk l i) := by
  unfold f1C
  rw [if_pos (by omega), show 3 * l.length + i - 3 * l.length = i by omega]
theorem f1C_mk (l : List Bool) (j : Nat) (h : j < 3 * l.length) : f1C l l.length j = mkC l l.length j := by unfold f1C; rw [if_neg (by omega)]
theorem lt_msk (a b : Nat) (ha : a < 1000000) (hb : b < 1000000) : ltM (BitVec.ofNat 64 a) (BitVec.ofNat 64 b) = msk (decide (a < b)) := by
  unfold ltM
  rw [BitVec.toNat_ofNat, BitVec.toNat_ofNat, Nat.mod_eq_of_lt (show a < 2 ^ 64 by omega), Nat.mod_eq_of_lt (show b < 2 ^ 64 by omega)]
theorem split_state (l : List Bool) (hn : l.length ≤ 288) (K : Nat) (hK : K < 300) (E : List Ev) : ∀ i, i ≤ l.length → (repS (spF (BitVec.ofNat 64 K) 0 (3 * l.length)) (fL (4 * l.length) (f1C l l.length), E, 0#64) i).1 = fL (4 * l.length) (f2C l K i) ∧ (repS (spF (BitVec.ofNat 64 K) 0 (3 * l.length)) (fL (4 * l.length) (f1C l l.length), E, 0#64) i).2.2 = BitVec.ofNat 64 (rk l i - min (rk l i) K) := by
  intro i
  induction i with
  | zero =>
    intro _
    refine ⟨?_, by rw [rk_zero]; rfl⟩
    rw [repS_zero]
    exact fL_ext _ _ _ (fun j hj => by unfold f2C; rw [if_neg (by omega)])
  | succ i ih =>
    intro hi
    obtain ⟨h1, h2⟩ := ih (by omega)
    rw [repS_succ]
    revert h1 h2
    generalize repS (spF (BitVec.ofNat 64 K) 0 (3 * l.length)) (fL (4 * l.length) (f1C l l.length), E, 0#64) i = q
    obtain ⟨D, E1, m⟩ := q
    rintro h1 h2
    have h1' : D = fL (4 * l.length) (f2C l K i) := h1
    have h2' : m = BitVec.ofNat 64 (rk l i - min (rk l i) K) := h2
    subst h1' h2'
    clear h1 h2
    have hrl := rk_le l i
    have hv : ofM (cl (fL (4 * l.length) (f2C l K i)) (0 + 3 * i)) = msk (l.getD i false) := by
      rw [cl_fL _ _ _ (by omega), Nat.zero_add]
      unfold f2C
      rw [if_neg (by omega), f1C_mk l _ (by omega), mkC_at l i (by omega), ofM_par i _ (by omega)]
    have hr : cl (fL (4 * l.length) (f2C l K i)) (3 * l.length + i) = BitVec.ofNat 64 (rk l i) := by
      rw [cl_fL _ _ _ (by omega)]
      unfold f2C
      rw [if_neg (by omega), f1C_rank l i (by omega)]
    have hs : spK (BitVec.ofNat 64 K) 0 (3 * l.length) (fL (4 * l.length) (f2C l K i)) i = msk (kpt l K i) := by
      unfold spK
      rw [hv, hr, lt_msk _ _ (by omega) (by omega), msk_and]
      rfl
    unfold spF
    refine ⟨?_, ?_⟩
    · show (fL (4 * l.length) (f2C l K i)).set (0 + 3 * i) _ = _
      rw [hs, fL_set, Nat.zero_add]
      apply fL_ext
      intro j hj
      by_cases hji : j = 3 * i
      · rw [if_pos hji]
        unfold f2C
        rw [if_pos (by omega), show j / 3 = i by omega]
      · rw [if_neg hji]
        unfold f2C
        by_cases h3 : j % 3 = 0 ∧ j < 3 * i
        · rw [if_pos h3, if_pos (by omega)]
        · rw [if_neg h3, if_neg (by omega)]
    · show BitVec.ofNat 64 (rk l i - min (rk l i) K) + ((ofM (cl (fL (4 * l.length) (f2C l K i)) (0 + 3 * i)) &&& ~~~ spK (BitVec.ofNat 64 K) 0 (3 * l.length) (fL (4 * l.length) (f2C l K i)) i) &&& 1#64) = _
      rw [hs, hv, msk_not, msk_and, msk_one, rk_succ l i (by omega)]
      apply BitVec.eq_of_toNat_eq
      rw [BitVec.toNat_add]
      simp only [BitVec.toNat_ofNat]
      unfold kpt
      cases l.getD i false
      · simp
      · by_cases hlt : rk l i < K
        · rw [decide_eq_true hlt]; simp; omega
        · rw [decide_eq_false hlt]; simp; omega
theorem ofM_msk (b : Bool) : ofM (msk b) = msk b := by cases b <;> rfl
theorem dist_state (l : List Bool) (hn : l.length ≤ 288) (K : Nat) (E : List Ev) : ∀ i, i ≤ l.length → (repS (diF 0 (3 * l.length)) (fL (4 * l.length) (f2C l K l.length), E, 0#64) i).1 = fL (4 * l.length) (f3C l K i) := by
  intro i
  induction i with
  | zero =>
    intro _
    rw [repS_zero]
    exact fL_ext _ _ _ (fun j hj => by unfold f3C; rw [if_neg (by omega)])
  | succ i ih =>
    intro hi
    have h1 := ih (by omega)
    rw [repS_succ]
    revert h1
    generalize repS (diF 0 (3 * l.length)) (fL (4 * l.length) (f2C l K l.length), E, 0#64) i = q
    obtain ⟨D, E1, m⟩ := q
    rintro h1
    have h1' : D = fL (4 * l.length) (f3C l K i) := h1
    subst h1'
    clear h1
    have hrl := rk_le l i
    have hv : ofM (cl (fL (4 * l.length) (f3C l K i)) (0 + 3 * i)) = msk (kpt l K i) := by
      rw [cl_fL _ _ _ (by omega), Nat.zero_add]
      unfold f3C
      rw [if_neg (by omega)]
      unfold f2C
      rw [if_pos (by omega), show 3 * i / 3 = i by omega, ofM_msk]
    have hr : cl (fL (4 * l.length) (f3C l K i)) (3 * l.length + i) = BitVec.ofNat 64 (rk l i) := by
      rw [cl_fL _ _ _ (by omega)]
      unfold f3C
      rw [if_neg (by omega)]
      unfold f2C
      rw [if_neg (by omega), f1C_rank l i (by omega)]
    unfold diF
    show (fL (4 * l.length) (f3C l K i)).set (3 * l.length + i) (ofM (cl (fL (4 * l.length) (f3C l K i)) (0 + 3 * i)) &&& (BitVec.ofNat 64 i - cl (fL (4 * l.length) (f3C l K i)) (3 * l.length + i))) = _
    rw [hv, hr, fL_set]
    apply fL_ext
    intro j hj
    by_cases hji : j = 3 * l.length + i
    · rw [if_pos hji]
      unfold f3C
      rw [if_pos (by omega), show j - 3 * l.length = i by omega]
      cases kpt l K i
      · rw [if_neg (by decide)]
        show 0#64 &&& _ = _
        rw [BitVec.zero_and]
      · rw [if_pos rfl, msk_true, BitVec.allOnes_and]
        apply BitVec.eq_of_toNat_eq
        rw [BitVec.toNat_sub]
        simp only [BitVec.toNat_ofNat]
        omega
    · rw [if_neg hji]
      unfold f3C
      by_cases h3 : 3 * l.length ≤ j ∧ j < 3 * l.length + i
      · rw [if_pos h3, if_pos (show 3 * l.length ≤ j ∧ j < 3 * l.length + (i + 1) by omega)]
      · rw [if_neg h3, if_neg (by omega)]

end Go.Proofs.Ytlbahocncbmjnaa
