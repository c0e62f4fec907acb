/-
  The network compacts: with the distances of the slots that are valid, these come to the first places, in their order. Nothing of the program is named here.
-/
import Derived.Test.YtlefjlclhmapaaaNetAp
namespace Go.Proofs.Ytlefjlclhmapaaa
open Go.RowKit
set_option linter.unusedVariables false
set_option maxRecDepth 100000
/-- How many of the first i are valid. -/
def cnt (v : Nat → Bool) : Nat → Nat
  | 0 => 0
  | i + 1 => cnt v i + (if v i then 1 else 0)
section
variable {v : Nat → Bool}
theorem cnt_succ (i : Nat) : cnt v (i + 1) = cnt v i + (if v i then 1 else 0) := rfl
theorem cnt_le (i : Nat) : cnt v i ≤ i := by
  induction i with
  | zero => exact Nat.le_refl _
  | succ i ih => rw [cnt_succ]; split <;> omega
theorem cnt_step {i k : Nat} (h : i ≤ k) : cnt v i ≤ cnt v k ∧ i - cnt v i ≤ k - cnt v k := by
  induction k with
  | zero => rw [show i = 0 by omega]; exact ⟨Nat.le_refl _, Nat.le_refl _⟩
  | succ k ih =>
    by_cases e : i = k + 1
    · subst e; exact ⟨Nat.le_refl _, Nat.le_refl _⟩
    · obtain ⟨h1, h2⟩ := ih (by omega)
      have h3 := cnt_le (v := v) k
      rw [cnt_succ]
      split <;> (constructor <;> omega)
theorem cnt_lt {i k : Nat} (h : i < k) (hv : v i = true) : cnt v i < cnt v k := by
  have := (cnt_step (v := v) (show i + 1 ≤ k by omega)).1
  rw [cnt_succ, if_pos hv] at this
  omega
/-- Where the slot of the place i lies behind j rounds. -/
def ps (v : Nat → Bool) (j i : Nat) : Nat := cnt v i + 2 ^ j * ((i - cnt v i) / 2 ^ j)
theorem ps_zero (i : Nat) : ps v 0 i = i := by unfold ps; have := cnt_le (v := v) i; simp; omega
theorem ps_lt {i k : Nat} (j : Nat) (h : i < k) (hv : v i = true) : ps v j i < ps v j k := by
  unfold ps
  have h1 := cnt_lt h hv
  have h2 := Nat.mul_le_mul_left (2 ^ j) (Nat.div_le_div_right (c := 2 ^ j) (cnt_step (v := v) (Nat.le_of_lt h)).2)
  omega
theorem ps_le (j i : Nat) : ps v j i ≤ i := by
  unfold ps
  have h1 := cnt_le (v := v) i
  have h2 := Nat.mul_div_le (i - cnt v i) (2 ^ j)
  omega
theorem ps_top {j i n : Nat} (h : i < n) (hn : n ≤ 2 ^ j) : ps v j i = cnt v i := by
  unfold ps
  rw [Nat.div_eq_of_lt (by have := cnt_le (v := v) i; omega)]
  simp
theorem ps_succ (j i : Nat) : ps v (j + 1) i = (if (i - cnt v i) / 2 ^ j % 2 = 1 then ps v j i - 2 ^ j else ps v j i) ∧ ((i - cnt v i) / 2 ^ j % 2 = 1 → 2 ^ j ≤ ps v j i) := by
  unfold ps
  generalize i - cnt v i = d
  rw [show d / 2 ^ (j + 1) = d / 2 ^ j / 2 by rw [Nat.div_div_eq_div_mul, Nat.pow_succ]]
  generalize d / 2 ^ j = q
  generalize cnt v i = c
  have e : 2 ^ (j + 1) * (q / 2) = 2 ^ j * (2 * (q / 2)) := by rw [Nat.pow_succ, Nat.mul_assoc]
  rw [e]
  generalize 2 ^ j = P
  by_cases h : q % 2 = 1
  · rw [if_pos h]
    obtain ⟨r, rfl⟩ : ∃ r, q = 2 * r + 1 := ⟨q / 2, by omega⟩
    rw [show (2 * r + 1) / 2 = r by omega, Nat.mul_add]
    generalize P * (2 * r) = z
    omega
  · rw [if_neg h, show 2 * (q / 2) = q by omega]
    exact ⟨rfl, fun hh => absurd hh h⟩
theorem ps_dec (j i : Nat) : ps v (j + 1) i ≤ ps v j i := by
  rw [(ps_succ j i).1]
  split
  · exact Nat.sub_le _ _
  · exact Nat.le_refl _
/-- In the middle of round j: the places below c are done. -/
def qs (v : Nat → Bool) (j c i : Nat) : Nat := if ps v j i < c then ps v (j + 1) i else ps v j i
end
/-- The slots that are valid, at the places pos, with their distances; all else empty. -/
def HoldP (v : Nat → Bool) (n : Nat) (l : List Sl) (pos : Nat → Nat) (s : List Sl × List Nat) : Prop :=
  s.1.length = n ∧ s.2.length = n ∧ (∀ i, i < n → v i = true → sl s.1 (pos i) = sl l i ∧ s.2.getD (pos i) 0 = i - cnt v i) ∧ ∀ x, x < n → (∀ i, i < n → v i = true → pos i ≠ x) → sl s.1 x = (0#64, 0#64, 0#64) ∧ s.2.getD x 0 = 0
theorem HoldP.congr {v : Nat → Bool} {n : Nat} {l : List Sl} {pos pos' : Nat → Nat} {s : List Sl × List Nat} (h : HoldP v n l pos s) (e : ∀ i, i < n → v i = true → pos' i = pos i) : HoldP v n l pos' s := by
  obtain ⟨h1, h2, h3, h4⟩ := h
  exact ⟨h1, h2, fun i hi hv => by rw [e i hi hv]; exact h3 i hi hv, fun x hx hh => h4 x hx fun i hi hv => by rw [← e i hi hv]; exact hh i hi hv⟩
theorem sl_set (l : List Sl) (i j : Nat) (x : Sl) : sl (l.set i x) j = if i = j ∧ i < l.length then x else sl l j := by
  simp only [sl, List.getD, List.getElem?_set]
  by_cases h : i = j
  · subst h
    by_cases h2 : i < l.length
    · simp [h2]
    · simp [h2]
  · simp [h]
theorem sl_set2 (l : List Sl) (a b : Nat) (x y : Sl) (hne : a ≠ b) (ha : a < l.length) (hb : b < l.length) : sl ((l.set a x).set b y) a = x ∧ sl ((l.set a x).set b y) b = y ∧ ∀ j, a ≠ j → b ≠ j → sl ((l.set a x).set b y) j = sl l j := by
  refine ⟨?_, ?_, fun j h1 h2 => ?_⟩
  · rw [sl_set, if_neg (fun h => hne h.1.symm), sl_set, if_pos ⟨rfl, ha⟩]
  · rw [sl_set, if_pos ⟨rfl, by simpa using hb⟩]
  · rw [sl_set, if_neg (fun h => h2 h.1), sl_set, if_neg (fun h => h1 h.1)]
theorem getD_set2 (l : List Nat) (a b : Nat) (x y : Nat) (hne : a ≠ b) (ha : a < l.length) (hb : b < l.length) : ((l.set a x).set b y).getD a 0 = x ∧ ((l.set a x).set b y).getD b 0 = y ∧ ∀ j, a ≠ j → b ≠ j → ((l.set a x).set b y).getD j 0 = l.getD j 0 := by
  refine ⟨?_, ?_, fun j h1 h2 => ?_⟩
  · rw [getD_set, if_neg (fun h => hne h.1.symm), getD_set, if_pos ⟨rfl, ha⟩]
  · rw [getD_set, if_pos ⟨rfl, by simpa using hb⟩]
  · rw [getD_set, if_neg (fun h => h2 h.1), getD_set, if_neg (fun h => h1 h.1)]
theorem holdP_step {v : Nat → Bool} {n : Nat} {l : List Sl} {j c : Nat} {s : List Sl × List Nat} (hc : 2 ^ j ≤ c) (hcn : c < n) (h : HoldP v n l (qs v j c) s) : HoldP v n l (qs v j (c + 1)) (apM s (j, c, c - 2 ^ j)) := by
  obtain ⟨h1, h2, h3, h4⟩ := h
  have hp := Nat.one_le_two_pow (n := j)
  by_cases hx : ∃ t, t < n ∧ v t = true ∧ ps v j t = c
  · obtain ⟨t, ht, hvt, hpt⟩ := hx
    have hq : qs v j c t = c := by unfold qs; rw [if_neg (by omega)]; exact hpt
    obtain ⟨g1, g2⟩ := h3 t ht hvt
    rw [hq] at g1 g2
    obtain ⟨k1, k2⟩ := ps_succ (v := v) j t
    have others : ∀ i, i < n → v i = true → i ≠ t → qs v j (c + 1) i = qs v j c i ∧ qs v j c i ≠ c ∧ qs v j c i ≠ ps v (j + 1) t := by
      intro i hi hvi hne
      rcases Nat.lt_or_gt_of_ne hne with hlt | hlt
      · have a1 := ps_lt (v := v) j hlt hvi
        have a2 := ps_lt (v := v) (j + 1) hlt hvi
        have a3 := ps_dec (v := v) j i
        unfold qs
        rw [if_pos (by omega), if_pos (by omega)]
        exact ⟨rfl, by omega, by omega⟩
      · have a1 := ps_lt (v := v) j hlt hvt
        have a3 := ps_dec (v := v) j t
        unfold qs
        rw [if_neg (by omega), if_neg (by omega)]
        exact ⟨rfl, by omega, by omega⟩
    have hq2 : qs v j (c + 1) t = ps v (j + 1) t := by unfold qs; rw [if_pos (by omega)]
    unfold apM
    dsimp only
    rw [g2]
    by_cases hb : (t - cnt v t) / 2 ^ j % 2 = 1
    · rw [if_pos hb]
      rw [if_pos hb, hpt] at k1
      have hne : c - 2 ^ j ≠ c := by omega
      obtain ⟨S1, S2, S3⟩ := sl_set2 s.1 (c - 2 ^ j) c (sl s.1 c) (0#64, 0#64, 0#64) hne (by omega) (by omega)
      obtain ⟨T1, T2, T3⟩ := getD_set2 s.2 (c - 2 ^ j) c (t - cnt v t) 0 hne (by omega) (by omega)
      refine ⟨by simpa using h1, by simpa using h2, fun i hi hvi => ?_, fun x hx hh => ?_⟩
      · by_cases e : i = t
        · rw [e, hq2, k1]
          exact ⟨S1.trans g1, T1⟩
        · obtain ⟨o1, o2, o3⟩ := others i hi hvi e
          rw [o1]
          rw [k1] at o3
          obtain ⟨z1, z2⟩ := h3 i hi hvi
          exact ⟨(S3 _ (Ne.symm o3) (Ne.symm o2)).trans z1, (T3 _ (Ne.symm o3) (Ne.symm o2)).trans z2⟩
      · have hxt := hh t ht hvt
        rw [hq2, k1] at hxt
        by_cases e : c = x
        · rw [← e]
          exact ⟨S2, T2⟩
        · obtain ⟨z1, z2⟩ := h4 x hx fun i hi hvi => by
            by_cases e2 : i = t
            · rw [e2, hq]; exact e
            · rw [← (others i hi hvi e2).1]; exact hh i hi hvi
          exact ⟨(S3 _ hxt e).trans z1, (T3 _ hxt e).trans z2⟩
    · rw [if_neg hb]
      rw [if_neg hb, hpt] at k1
      refine HoldP.congr ⟨h1, h2, h3, h4⟩ fun i hi hvi => ?_
      by_cases e : i = t
      · subst e; rw [hq2, k1, hq]
      · exact (others i hi hvi e).1
  · have hno : ∀ i, i < n → v i = true → ps v j i ≠ c := fun i hi hvi e => hx ⟨i, hi, hvi, e⟩
    have hsame : ∀ i, i < n → v i = true → qs v j (c + 1) i = qs v j c i := fun i hi hvi => by
      have := hno i hi hvi
      unfold qs
      by_cases e : ps v j i < c
      · rw [if_pos e, if_pos (by omega)]
      · rw [if_neg e, if_neg (by omega)]
    have h0 : s.2.getD c 0 = 0 := (h4 c hcn fun i hi hvi => by
      have a1 := hno i hi hvi
      have a2 := ps_dec (v := v) j i
      unfold qs
      split <;> omega).2
    have hap : apM s (j, c, c - 2 ^ j) = s := by
      unfold apM
      dsimp only
      rw [h0]
      simp
    rw [hap]
    exact HoldP.congr ⟨h1, h2, h3, h4⟩ hsame
theorem holdP_rd {v : Nat → Bool} {n : Nat} {l : List Sl} {j : Nat} (k : Nat) : ∀ (c : Nat) (s : List Sl × List Nat), c + k = n → 2 ^ j ≤ c → HoldP v n l (qs v j c) s → HoldP v n l (qs v j n) ((rd n j c).foldl apM s) := by
  induction k with
  | zero =>
    intro c s hk hc h
    obtain rfl : c = n := by omega
    rw [rd_nil (Nat.le_refl _)]
    exact h
  | succ k ih =>
    intro c s hk hc h
    rw [rd_cons (by omega), List.foldl_cons]
    exact ih (c + 1) _ (by omega) (by omega) (holdP_step hc (by omega) h)
theorem holdP_mvs {v : Nat → Bool} {n : Nat} {l : List Sl} (r : Nat) : ∀ (j : Nat) (s : List Sl × List Nat), (∀ i, i < j + r → 2 ^ i < n) → HoldP v n l (ps v j) s → HoldP v n l (ps v (j + r)) ((mvs n j r).foldl apM s) := by
  induction r with
  | zero => exact fun j s _ h => h
  | succ r ih =>
    intro j s hb h
    show HoldP v n l _ ((rd n j (2 ^ j) ++ mvs n (j + 1) r).foldl apM s)
    rw [List.foldl_append, show j + (r + 1) = j + 1 + r by omega]
    have hlt := hb j (by omega)
    refine ih (j + 1) _ (fun i hi => hb i (by omega)) ?_
    refine HoldP.congr (holdP_rd (n - 2 ^ j) (2 ^ j) s (by omega) (Nat.le_refl _) (h.congr fun i hi hv => ?_)) fun i hi hv => ?_
    · obtain ⟨k1, k2⟩ := ps_succ (v := v) j i
      unfold qs
      by_cases e : ps v j i < 2 ^ j
      · rw [if_pos e, k1]
        split
        · rename_i hb; have := k2 hb; omega
        · rfl
      · rw [if_neg e]
    · have := ps_le (v := v) j i
      unfold qs
      rw [if_pos (by omega)]
/-- THE COMPACTION. -/
theorem apL_packs {v : Nat → Bool} {n : Nat} {l : List Sl} {far : List Nat} (h1 : 1 ≤ n) (h2 : n ≤ 288) (hl : l.length = n) (hf : far.length = n)
    (hv : ∀ i, i < n → far.getD i 0 = if v i = true then i - cnt v i else 0) (hz : ∀ i, i < n → v i = false → sl l i = (0#64, 0#64, 0#64)) :
    (apL l far (moves n)).1.length = n ∧ (∀ i, i < n → v i = true → sl (apL l far (moves n)).1 (cnt v i) = sl l i) ∧ ∀ x, x < n → cnt v n ≤ x → sl (apL l far (moves n)).1 x = (0#64, 0#64, 0#64) := by
  obtain ⟨a, b, c⟩ := rn_ok h1 h2
  have h0 : HoldP v n l (ps v 0) (l, far) := by
    refine ⟨hl, hf, fun i hi hvi => ?_, fun x hx hh => ?_⟩
    · rw [ps_zero]
      exact ⟨rfl, by show far.getD i 0 = _; rw [hv i hi, if_pos hvi]⟩
    · have hvx : v x = false := by
        cases e : v x with
        | false => rfl
        | true => exact absurd (ps_zero x) (hh x hx e)
      exact ⟨hz x hx hvx, by show far.getD x 0 = _; rw [hv x hx, hvx]; rfl⟩
  obtain ⟨g1, g2, g3, g4⟩ := holdP_mvs (v := v) (l := l) (rn n) 0 (l, far) (fun i hi => c i (by omega)) h0
  rw [Nat.zero_add] at g3 g4
  refine ⟨g1, fun i hi hvi => ?_, fun x hx hx2 => ?_⟩
  · have := (g3 i hi hvi).1
    rw [ps_top hi b] at this
    exact this
  · refine (g4 x hx fun i hi hvi => ?_).1
    rw [ps_top hi b]
    have := cnt_lt (v := v) hi hvi
    omega
end Go.Proofs.Ytlefjlclhmapaaa
