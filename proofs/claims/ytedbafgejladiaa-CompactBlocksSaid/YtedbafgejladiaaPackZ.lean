import Derived.Test.YtedbafgejladiaaNetRoute
import Derived.Test.YtedbafgejladiaaSlPure
/-
  The network compacts: as XNetPack, XNetRel; slots that are not valid need not be empty. Nothing of the program is named here. (Written by gen-packz.py.)
-/
namespace Go.Proofs.Ytedbafgejladiaa.PackZ
open Go.RowKit
set_option linter.unusedVariables false
set_option maxRecDepth 100000
def apM (s : List Sl × List Nat) (m : Mv) : List Sl × List Nat :=
  if (s.2.getD m.2.1 0) / 2 ^ m.1 % 2 = 1 then ((s.1.set m.2.2 (sl s.1 m.2.1)).set m.2.1 (0#64, 0#64, 0#64), (s.2.set m.2.2 (s.2.getD m.2.1 0)).set m.2.1 0) else s
def apL (l : List Sl) (far : List Nat) (ms : List Mv) : List Sl × List Nat := ms.foldl apM (l, far)
theorem getD_set (l : List Nat) (i j x : Nat) : (l.set i x).getD j 0 = if i = j ∧ i < l.length then x else l.getD j 0 := by
  simp only [List.getD, List.getElem?_set]
  by_cases h : i = j
  · subst h
    by_cases h2 : i < l.length
    · simp [h2]
    · simp [h2]
  · simp [h]
/-- How many of the first i are valid. -/
def cnt (v : Nat → Bool) : Nat → Nat
  | 0 => 0
  | i + 1 => cnt v i + (if v i then 1 else 0)
section
variable {v : Nat → Bool}
theorem cnt_succ (i : Nat) : cnt v (i + 1) = cnt v i + (if v i then 1 else 0) := rfl
theorem cnt_le (i : Nat) : cnt v i ≤ i := by
  induction i with
  | zero => exact Nat.le_refl _
  | succ i ih => rw [cnt_succ]; split <;> omega
theorem cnt_step {i k : Nat} (h : i ≤ k) : cnt v i ≤ cnt v k ∧ i - cnt v i ≤ k - cnt v k := by
  induction k with
  | zero => rw [show i = 0 by omega]; exact ⟨Nat.le_refl _, Nat.le_refl _⟩
  | succ k ih =>
    by_cases e : i = k + 1
    · subst e; exact ⟨Nat.le_refl _, Nat.le_refl _⟩
    · obtain ⟨h1, h2⟩ := ih (by omega)
      have h3 := cnt_le (v := v) k
      rw [cnt_succ]
      split <;> (constructor <;> omega)
theorem cnt_lt {i k : Nat} (h : i < k) (hv : v i = true) : cnt v i < cnt v k := by
  have := (cnt_step (v := v) (show i + 1 ≤ k by omega)).1
  rw [cnt_succ, if_pos hv] at this
  omega
/-- Where the slot of the place i lies behind j rounds. -/
def ps (v : Nat → Bool) (j i : Nat) : Nat := cnt v i + 2 ^ j * ((i - cnt v i) / 2 ^ j)
theorem ps_zero (i : Nat) : ps v 0 i = i := by unfold ps; have := cnt_le (v := v) i; simp; omega
theorem ps_lt {i k : Nat} (j : Nat) (h : i < k) (hv : v i = true) : ps v j i < ps v j k := by
  unfold ps
  have h1 := cnt_lt h hv
  have h2 := Nat.mul_le_mul_left (2 ^ j) (Nat.div_le_div_right (c := 2 ^ j) (cnt_step (v := v) (Nat.le_of_lt h)).2)
  omega
theorem ps_le (j i : Nat) : ps v j i ≤ i := by
  unfold ps
  have h1 := cnt_le (v := v) i
  have h2 := Nat.mul_div_le (i - cnt v i) (2 ^ j)
  omega
theorem ps_top {j i n : Nat} (h : i < n) (hn : n ≤ 2 ^ j) : ps v j i = cnt v i := by
  unfold ps
  rw [Nat.div_eq_of_lt (by have := cnt_le (v := v) i; omega)]
  simp
theorem ps_succ (j i : Nat) : ps v (j + 1) i = (if (i - cnt v i) / 2 ^ j % 2 = 1 then ps v j i - 2 ^ j else ps v j i) ∧ ((i - cnt v i) / 2 ^ j % 2 = 1 → 2 ^ j ≤ ps v j i) := by
  unfold ps
  generalize i - cnt v i = d
  rw [show d / 2 ^ (j + 1) = d / 2 ^ j / 2 by rw [Nat.div_div_eq_div_mul, Nat.pow_succ]]
  generalize d / 2 ^ j = q
  generalize cnt v i = c
  have e : 2 ^ (j + 1) * (q / 2) = 2 ^ j * (2 * (q / 2)) := by rw [Nat.pow_succ, Nat.mul_assoc]
  rw [e]
  generalize 2 ^ j = P
  by_cases h : q % 2 = 1
  · rw [if_pos h]
    obtain ⟨r, rfl⟩ : ∃ r, q = 2 * r + 1 := ⟨q / 2, by omega⟩
    rw [show (2 * r + 1) / 2 = r by omega, Nat.mul_add]
    generalize P * (2 * r) = z
    omega
  · rw [if_neg h, show 2 * (q / 2) = q by omega]
    exact ⟨rfl, fun hh => absurd hh h⟩
theorem ps_dec (j i : Nat) : ps v (j + 1) i ≤ ps v j i := by
  rw [(ps_succ j i).1]
  split
  · exact Nat.sub_le _ _
  · exact Nat.le_refl _
/-- In the middle of round j: the places below c are done. -/
def qs (v : Nat → Bool) (j c i : Nat) : Nat := if ps v j i < c then ps v (j + 1) i else ps v j i
end
/-- The slots that are valid, at the places pos, with their distances; all else empty. -/
def HoldP (Z : Prop) (v : Nat → Bool) (n : Nat) (l : List Sl) (pos : Nat → Nat) (s : List Sl × List Nat) : Prop :=
  s.1.length = n ∧ s.2.length = n ∧ (∀ i, i < n → v i = true → sl s.1 (pos i) = sl l i ∧ s.2.getD (pos i) 0 = i - cnt v i) ∧ ∀ x, x < n → (∀ i, i < n → v i = true → pos i ≠ x) → (Z → sl s.1 x = (0#64, 0#64, 0#64)) ∧ s.2.getD x 0 = 0
theorem HoldP.congr {Z : Prop} {v : Nat → Bool} {n : Nat} {l : List Sl} {pos pos' : Nat → Nat} {s : List Sl × List Nat} (h : HoldP Z v n l pos s) (e : ∀ i, i < n → v i = true → pos' i = pos i) : HoldP Z v n l pos' s := by
  obtain ⟨h1, h2, h3, h4⟩ := h
  exact ⟨h1, h2, fun i hi hv => by rw [e i hi hv]; exact h3 i hi hv, fun x hx hh => h4 x hx fun i hi hv => by rw [← e i hi hv]; exact hh i hi hv⟩
theorem sl_set (l : List Sl) (i j : Nat) (x : Sl) : sl (l.set i x) j = if i = j ∧ i < l.length then x else sl l j := by
  simp only [sl, List.getD, List.getElem?_set]
  by_cases h : i = j
  · subst h
    by_cases h2 : i < l.length
    · simp [h2]
    · simp [h2]
  · simp [h]
theorem sl_set2 (l : List Sl) (a b : Nat) (x y : Sl) (hne : a ≠ b) (ha : a < l.length) (hb : b < l.length) : sl ((l.set a x).set b y) a = x ∧ sl ((l.set a x).set b y) b = y ∧ ∀ j, a ≠ j → b ≠ j → sl ((l.set a x).set b y) j = sl l j := by
  refine ⟨?_, ?_, fun j h1 h2 => ?_⟩
  · rw [sl_set, if_neg (fun h => hne h.1.symm), sl_set, if_pos ⟨rfl, ha⟩]
  · rw [sl_set, if_pos ⟨rfl, by simpa using hb⟩]
  · rw [sl_set, if_neg (fun h => h2 h.1), sl_set, if_neg (fun h => h1 h.1)]
theorem getD_set2 (l : List Nat) (a b : Nat) (x y : Nat) (hne : a ≠ b) (ha : a < l.length) (hb : b < l.length) : ((l.set a x).set b y).getD a 0 = x ∧ ((l.set a x).set b y).getD b 0 = y ∧ ∀ j, a ≠ j → b ≠ j → ((l.set a x).set b y).getD j 0 = l.getD j 0 := by
  refine ⟨?_, ?_, fun j h1 h2 => ?_⟩
  · rw [getD_set, if_neg (fun h => hne h.1.symm), getD_set, if_pos ⟨rfl, ha⟩]
  · rw [getD_set, if_pos ⟨rfl, by simpa using hb⟩]
  · rw [getD_set, if_neg (fun h => h2 h.1), getD_set, if_neg (fun h => h1 h.1)]
theorem holdP_step {Z : Prop} {v : Nat → Bool} {n : Nat} {l : List Sl} {j c : Nat} {s : List Sl × List Nat} (hc : 2 ^ j ≤ c) (hcn : c < n) (h : HoldP Z v n l (qs v j c) s) : HoldP Z v n l (qs v j (c + 1)) (apM s (j, c, c - 2 ^ j)) := by
  obtain ⟨h1, h2, h3, h4⟩ := h
  have hp := Nat.one_le_two_pow (n := j)
  by_cases hx : ∃ t, t < n ∧ v t = true ∧ ps v j t = c
  · obtain ⟨t, ht, hvt, hpt⟩ := hx
    have hq : qs v j c t = c := by unfold qs; rw [if_neg (by omega)]; exact hpt
    obtain ⟨g1, g2⟩ := h3 t ht hvt
    rw [hq] at g1 g2
    obtain ⟨k1, k2⟩ := ps_succ (v := v) j t
    have others : ∀ i, i < n → v i = true → i ≠ t → qs v j (c + 1) i = qs v j c i ∧ qs v j c i ≠ c ∧ qs v j c i ≠ ps v (j + 1) t := by
      intro i hi hvi hne
      rcases Nat.lt_or_gt_of_ne hne with hlt | hlt
      · have a1 := ps_lt (v := v) j hlt hvi
        have a2 := ps_lt (v := v) (j + 1) hlt hvi
        have a3 := ps_dec (v := v) j i
        unfold qs
        rw [if_pos (by omega), if_pos (by omega)]
        exact ⟨rfl, by omega, by omega⟩
      · have a1 := ps_lt (v := v) j hlt hvt
        have a3 := ps_dec (v := v) j t
        unfold qs
        rw [if_neg (by omega), if_neg (by omega)]
        exact ⟨rfl, by omega, by omega⟩
    have hq2 : qs v j (c + 1) t = ps v (j + 1) t := by unfold qs; rw [if_pos (by omega)]
    unfold apM
    dsimp only
    rw [g2]
    by_cases hb : (t - cnt v t) / 2 ^ j % 2 = 1
    · rw [if_pos hb]
      rw [if_pos hb, hpt] at k1
      have hne : c - 2 ^ j ≠ c := by omega
      obtain ⟨S1, S2, S3⟩ := sl_set2 s.1 (c - 2 ^ j) c (sl s.1 c) (0#64, 0#64, 0#64) hne (by omega) (by omega)
      obtain ⟨T1, T2, T3⟩ := getD_set2 s.2 (c - 2 ^ j) c (t - cnt v t) 0 hne (by omega) (by omega)
      refine ⟨by simpa using h1, by simpa using h2, fun i hi hvi => ?_, fun x hx hh => ?_⟩
      · by_cases e : i = t
        · rw [e, hq2, k1]
          exact ⟨S1.trans g1, T1⟩
        · obtain ⟨o1, o2, o3⟩ := others i hi hvi e
          rw [o1]
          rw [k1] at o3
          obtain ⟨z1, z2⟩ := h3 i hi hvi
          exact ⟨(S3 _ (Ne.symm o3) (Ne.symm o2)).trans z1, (T3 _ (Ne.symm o3) (Ne.symm o2)).trans z2⟩
      · have hxt := hh t ht hvt
        rw [hq2, k1] at hxt
        by_cases e : c = x
        · rw [← e]
          exact ⟨fun _ => S2, T2⟩
        · obtain ⟨z1, z2⟩ := h4 x hx fun i hi hvi => by
            by_cases e2 : i = t
            · rw [e2, hq]; exact e
            · rw [← (others i hi hvi e2).1]; exact hh i hi hvi
          exact ⟨fun hZ => (S3 _ hxt e).trans (z1 hZ), (T3 _ hxt e).trans z2⟩
    · rw [if_neg hb]
      rw [if_neg hb, hpt] at k1
      refine HoldP.congr ⟨h1, h2, h3, h4⟩ fun i hi hvi => ?_
      by_cases e : i = t
      · subst e; rw [hq2, k1, hq]
      · exact (others i hi hvi e).1
  · have hno : ∀ i, i < n → v i = true → ps v j i ≠ c := fun i hi hvi e => hx ⟨i, hi, hvi, e⟩
    have hsame : ∀ i, i < n → v i = true → qs v j (c + 1) i = qs v j c i := fun i hi hvi => by
      have := hno i hi hvi
      unfold qs
      by_cases e : ps v j i < c
      · rw [if_pos e, if_pos (by omega)]
      · rw [if_neg e, if_neg (by omega)]
    have h0 : s.2.getD c 0 = 0 := (h4 c hcn fun i hi hvi => by
      have a1 := hno i hi hvi
      have a2 := ps_dec (v := v) j i
      unfold qs
      split <;> omega).2
    have hap : apM s (j, c, c - 2 ^ j) = s := by
      unfold apM
      dsimp only
      rw [h0]
      simp
    rw [hap]
    exact HoldP.congr ⟨h1, h2, h3, h4⟩ hsame
theorem holdP_rd {Z : Prop} {v : Nat → Bool} {n : Nat} {l : List Sl} {j : Nat} (k : Nat) : ∀ (c : Nat) (s : List Sl × List Nat), c + k = n → 2 ^ j ≤ c → HoldP Z v n l (qs v j c) s → HoldP Z v n l (qs v j n) ((rd n j c).foldl apM s) := by
  induction k with
  | zero =>
    intro c s hk hc h
    obtain rfl : c = n := by omega
    rw [rd_nil (Nat.le_refl _)]
    exact h
  | succ k ih =>
    intro c s hk hc h
    rw [rd_cons (by omega), List.foldl_cons]
    exact ih (c + 1) _ (by omega) (by omega) (holdP_step hc (by omega) h)
theorem holdP_mvs {Z : Prop} {v : Nat → Bool} {n : Nat} {l : List Sl} (r : Nat) : ∀ (j : Nat) (s : List Sl × List Nat), (∀ i, i < j + r → 2 ^ i < n) → HoldP Z v n l (ps v j) s → HoldP Z v n l (ps v (j + r)) ((mvs n j r).foldl apM s) := by
  induction r with
  | zero => exact fun j s _ h => h
  | succ r ih =>
    intro j s hb h
    show HoldP Z v n l _ ((rd n j (2 ^ j) ++ mvs n (j + 1) r).foldl apM s)
    rw [List.foldl_append, show j + (r + 1) = j + 1 + r by omega]
    have hlt := hb j (by omega)
    refine ih (j + 1) _ (fun i hi => hb i (by omega)) ?_
    refine HoldP.congr (holdP_rd (n - 2 ^ j) (2 ^ j) s (by omega) (Nat.le_refl _) (h.congr fun i hi hv => ?_)) fun i hi hv => ?_
    · obtain ⟨k1, k2⟩ := ps_succ (v := v) j i
      unfold qs
      by_cases e : ps v j i < 2 ^ j
      · rw [if_pos e, k1]
        split
        · rename_i hb; have := k2 hb; omega
        · rfl
      · rw [if_neg e]
    · have := ps_le (v := v) j i
      unfold qs
      rw [if_pos (by omega)]
/-- THE COMPACTION. -/
theorem apL_packs {Z : Prop} {v : Nat → Bool} {n : Nat} {l : List Sl} {far : List Nat} (h1 : 1 ≤ n) (h2 : n ≤ 288) (hl : l.length = n) (hf : far.length = n)
    (hv : ∀ i, i < n → far.getD i 0 = if v i = true then i - cnt v i else 0) (hz : Z → ∀ i, i < n → v i = false → sl l i = (0#64, 0#64, 0#64)) :
    (apL l far (moves n)).1.length = n ∧ (∀ i, i < n → v i = true → sl (apL l far (moves n)).1 (cnt v i) = sl l i) ∧ (Z → ∀ x, x < n → cnt v n ≤ x → sl (apL l far (moves n)).1 x = (0#64, 0#64, 0#64)) := by
  obtain ⟨a, b, c⟩ := rn_ok h1 h2
  have h0 : HoldP Z v n l (ps v 0) (l, far) := by
    refine ⟨hl, hf, fun i hi hvi => ?_, fun x hx hh => ?_⟩
    · rw [ps_zero]
      exact ⟨rfl, by show far.getD i 0 = _; rw [hv i hi, if_pos hvi]⟩
    · have hvx : v x = false := by
        cases e : v x with
        | false => rfl
        | true => exact absurd (ps_zero x) (hh x hx e)
      exact ⟨fun hZ => hz hZ x hx hvx, by show far.getD x 0 = _; rw [hv x hx, hvx]; rfl⟩
  obtain ⟨g1, g2, g3, g4⟩ := holdP_mvs (v := v) (l := l) (rn n) 0 (l, far) (fun i hi => c i (by omega)) h0
  rw [Nat.zero_add] at g3 g4
  refine ⟨g1, fun i hi hvi => ?_, fun hZ x hx hx2 => ?_⟩
  · have := (g3 i hi hvi).1
    rw [ps_top hi b] at this
    exact this
  · refine (g4 x hx fun i hi hvi => ?_).1 hZ
    rw [ps_top hi b]
    have := cnt_lt (v := v) hi hvi
    omega
theorem cl_set (C : List (BitVec 64)) (i x : Nat) (u : BitVec 64) (h : i < C.length) : cl (C.set i u) x = if x = i then u else cl C x := by
  unfold cl
  simp only [List.getD, List.getElem?_set]
  by_cases e : i = x
  · subst e; simp [h]
  · rw [if_neg e, if_neg (Ne.symm e)]
theorem prS_no (s : List (BitVec 64) × List Ev) (f t : Nat) : (prS false s f t).1 = s.1 := by
  have hs : ∀ (l : List (BitVec 64)) (i : Nat), l.set i (cl l i) = l := fun l i => by
    apply List.ext_getElem?
    intro j
    rw [List.getElem?_set]
    by_cases e : i = j
    · subst e
      by_cases h : i < l.length
      · rw [if_pos rfl, if_pos h]; simp [cl, List.getD, h]
      · rw [if_pos rfl, if_neg h, List.getElem?_eq_none (by omega)]
    · rw [if_neg e]
  show (s.1.set t (cl s.1 t)).set f (cl s.1 f) = s.1
  rw [hs, hs]
theorem rcS_no (f t : Nat) (s : List (BitVec 64) × List Ev) (c : Nat) : (rcS false f t s c).1 = s.1 := by
  induction c with
  | zero => rfl
  | succ c ih => exact (prS_no _ _ _).trans ih
theorem prS_yes (s : List (BitVec 64) × List Ev) (f t x : Nat) (hf : f < s.1.length) (ht : t < s.1.length) : cl (prS true s f t).1 x = if x = f then 0#64 else if x = t then cl s.1 f else cl s.1 x := by
  show cl ((s.1.set t (cl s.1 f)).set f 0#64) x = _
  rw [cl_set _ _ _ _ (by simpa using hf), cl_set _ _ _ _ ht]
theorem rcS_yes (F T : Nat) (s : List (BitVec 64) × List Ev) (x : Nat) (hT : T + 3 ≤ F) (hF : F + 3 ≤ s.1.length) (c : Nat) : c ≤ 3 → cl (rcS true F T s c).1 x = if F ≤ x ∧ x < F + c then 0#64 else if T ≤ x ∧ x < T + c then cl s.1 (F + (x - T)) else cl s.1 x := by
  induction c generalizing x with
  | zero => intro _; rw [if_neg (by omega), if_neg (by omega)]; rfl
  | succ c ih =>
    intro hc
    have hl := (rcS_len true F T s c).1
    show cl (prS true (rcS true F T s c) (F + c) (T + c)).1 x = _
    rw [prS_yes _ _ _ _ (by omega) (by omega), ih x (by omega), ih (F + c) (by omega)]
    rw [if_neg (show ¬ (F ≤ F + c ∧ F + c < F + c) by omega), if_neg (show ¬ (T ≤ F + c ∧ F + c < T + c) by omega)]
    by_cases h1 : x = F + c
    · rw [if_pos h1, if_pos (by omega)]
    rw [if_neg h1]
    by_cases h2 : x = T + c
    · rw [if_pos h2, if_neg (by omega), if_pos (by omega), show F + (x - T) = F + c by omega]
    rw [if_neg h2]
    by_cases h3 : F ≤ x ∧ x < F + c
    · rw [if_pos h3, if_pos (by omega)]
    rw [if_neg h3, if_neg (show ¬ (F ≤ x ∧ x < F + (c + 1)) by omega)]
    by_cases h4 : T ≤ x ∧ x < T + c
    · rw [if_pos h4, if_pos (show T ≤ x ∧ x < T + (c + 1) by omega)]
    · rw [if_neg h4, if_neg (show ¬ (T ≤ x ∧ x < T + (c + 1)) by omega)]
/-- Slots and their distances in cells: three cells for each slot, and behind them the distances. -/
def RelC (n : Nat) (C : List (BitVec 64)) (s : List Sl × List Nat) : Prop :=
  4 * n ≤ C.length ∧ s.1.length = n ∧ s.2.length = n ∧ (∀ i, s.2.getD i 0 ≤ 288) ∧ ∀ i, i < n → cl C (3 * i) = (sl s.1 i).1 ∧ cl C (3 * i + 1) = (sl s.1 i).2.1 ∧ cl C (3 * i + 2) = (sl s.1 i).2.2 ∧ cl C (3 * n + i) = BitVec.ofNat 64 (s.2.getD i 0)
theorem sl_set_at (l : List Sl) (i j : Nat) (x : Sl) (h : i < l.length) : sl (l.set i x) j = if j = i then x else sl l j := by
  simp only [sl, List.getD, List.getElem?_set]
  by_cases e : i = j
  · subst e; simp [h]
  · rw [if_neg e, if_neg (Ne.symm e)]
theorem getD_set_at (l : List Nat) (i j x : Nat) (h : i < l.length) : (l.set i x).getD j 0 = if j = i then x else l.getD j 0 := by
  rw [getD_set]
  by_cases e : i = j
  · rw [if_pos ⟨e, h⟩, if_pos e.symm]
  · rw [if_neg (fun hh => e hh.1), if_neg (Ne.symm e)]
theorem relC_step {n : Nat} {c : List (BitVec 64) × List Ev} {s : List Sl × List Nat} {m : Mv} (h : RelC n c.1 s) (h1 : m.2.1 < n) (h2 : m.2.2 < m.2.1) : RelC n (rtM 0 (3 * n) c m).1 (apM s m) := by
  obtain ⟨j, f, t⟩ := m
  dsimp only at h1 h2
  obtain ⟨g0, g1, g2, g3, g4⟩ := h
  have hbit : bitB (cl c.1 (3 * n + f)) j = decide (s.2.getD f 0 / 2 ^ j % 2 = 1) := by
    rw [(g4 f h1).2.2.2]
    unfold bitB
    rw [BitVec.toNat_ofNat, show s.2.getD f 0 % 2 ^ 64 = s.2.getD f 0 from Nat.mod_eq_of_lt (by have := g3 f; omega)]
  have hlen := (rtM_len 0 (3 * n) c (j, f, t)).1
  unfold rtM apM at *
  dsimp only at *
  rw [hbit] at hlen ⊢
  by_cases hb : s.2.getD f 0 / 2 ^ j % 2 = 1
  · rw [if_pos hb]
    rw [decide_eq_true hb] at hlen ⊢
    have hP := (prS_len true c (3 * n + f) (3 * n + t)).1
    have key : ∀ x, cl (rcS true (0 + 3 * f) (0 + 3 * t) (prS true c (3 * n + f) (3 * n + t)) 3).1 x = if 3 * f ≤ x ∧ x < 3 * f + 3 then 0#64 else if 3 * t ≤ x ∧ x < 3 * t + 3 then cl c.1 (3 * f + (x - 3 * t)) else if x = 3 * n + f then 0#64 else if x = 3 * n + t then cl c.1 (3 * n + f) else cl c.1 x := fun x => by
      rw [Nat.zero_add, Nat.zero_add, rcS_yes _ _ _ _ (by omega) (by omega) 3 (Nat.le_refl _)]
      rw [prS_yes _ _ _ _ (by omega) (by omega), prS_yes _ _ _ _ (by omega) (by omega)]
      by_cases a1 : 3 * f ≤ x ∧ x < 3 * f + 3
      · rw [if_pos a1, if_pos a1]
      rw [if_neg a1, if_neg a1]
      by_cases a2 : 3 * t ≤ x ∧ x < 3 * t + 3
      · rw [if_pos a2, if_pos a2, if_neg (by omega), if_neg (by omega)]
      · rw [if_neg a2, if_neg a2]
    refine ⟨by omega, by simpa using g1, by simpa using g2, fun i => ?_, fun i hi => ?_⟩
    · rw [getD_set_at _ _ _ _ (by simp; omega), getD_set_at _ _ _ _ (by omega)]
      split
      · omega
      · split
        · exact g3 f
        · exact g3 i
    · rw [key, key, key, key]
      rw [sl_set_at _ _ _ _ (by simp; omega), sl_set_at _ _ _ _ (by omega), getD_set_at _ _ _ _ (by simp; omega), getD_set_at _ _ _ _ (by omega)]
      by_cases e1 : i = f
      · rw [e1]
        rw [if_pos (show 3 * f ≤ 3 * f ∧ 3 * f < 3 * f + 3 by omega), if_pos (show 3 * f ≤ 3 * f + 1 ∧ 3 * f + 1 < 3 * f + 3 by omega), if_pos (show 3 * f ≤ 3 * f + 2 ∧ 3 * f + 2 < 3 * f + 3 by omega), if_neg (show ¬ (3 * f ≤ 3 * n + f ∧ 3 * n + f < 3 * f + 3) by omega), if_neg (show ¬ (3 * t ≤ 3 * n + f ∧ 3 * n + f < 3 * t + 3) by omega), if_pos rfl, if_pos rfl, if_pos rfl]
        exact ⟨rfl, rfl, rfl, rfl⟩
      · rw [if_neg (show ¬ (3 * f ≤ 3 * i ∧ 3 * i < 3 * f + 3) by omega), if_neg (show ¬ (3 * f ≤ 3 * i + 1 ∧ 3 * i + 1 < 3 * f + 3) by omega), if_neg (show ¬ (3 * f ≤ 3 * i + 2 ∧ 3 * i + 2 < 3 * f + 3) by omega), if_neg (show ¬ (3 * f ≤ 3 * n + i ∧ 3 * n + i < 3 * f + 3) by omega), if_neg (show ¬ (3 * t ≤ 3 * n + i ∧ 3 * n + i < 3 * t + 3) by omega)]
        rw [if_neg e1, if_neg e1, if_neg (show ¬ 3 * n + i = 3 * n + f by omega)]
        by_cases e2 : i = t
        · rw [e2]
          rw [if_pos (show 3 * t ≤ 3 * t ∧ 3 * t < 3 * t + 3 by omega), if_pos (show 3 * t ≤ 3 * t + 1 ∧ 3 * t + 1 < 3 * t + 3 by omega), if_pos (show 3 * t ≤ 3 * t + 2 ∧ 3 * t + 2 < 3 * t + 3 by omega), if_pos rfl, if_pos rfl, if_pos rfl]
          obtain ⟨k0, k1, k2, k3⟩ := g4 f h1
          rw [show 3 * f + (3 * t - 3 * t) = 3 * f by omega, show 3 * f + (3 * t + 1 - 3 * t) = 3 * f + 1 by omega, show 3 * f + (3 * t + 2 - 3 * t) = 3 * f + 2 by omega]
          exact ⟨k0, k1, k2, k3⟩
        · rw [if_neg (show ¬ (3 * t ≤ 3 * i ∧ 3 * i < 3 * t + 3) by omega), if_neg (show ¬ (3 * t ≤ 3 * i + 1 ∧ 3 * i + 1 < 3 * t + 3) by omega), if_neg (show ¬ (3 * t ≤ 3 * i + 2 ∧ 3 * i + 2 < 3 * t + 3) by omega)]
          have w1 : ∀ y, y < 3 * n → ¬ y = 3 * n + f ∧ ¬ y = 3 * n + t := fun y hy => ⟨by omega, by omega⟩
          obtain ⟨y1, y2⟩ := w1 (3 * i) (by omega)
          obtain ⟨y3, y4⟩ := w1 (3 * i + 1) (by omega)
          obtain ⟨y5, y6⟩ := w1 (3 * i + 2) (by omega)
          rw [if_neg y1, if_neg y2, if_neg y3, if_neg y4, if_neg y5, if_neg y6, if_neg e2, if_neg e2, if_neg (show ¬ 3 * n + i = 3 * n + t by omega)]
          exact g4 i hi
  · rw [if_neg hb]
    rw [decide_eq_false hb, rcS_no, prS_no]
    exact ⟨g0, g1, g2, g3, g4⟩
theorem relC_route {n : Nat} {c : List (BitVec 64) × List Ev} {l : List Sl} {far : List Nat} (h : RelC n c.1 (l, far)) : RelC n (rtL 0 (3 * n) c (moves n)).1 (apL l far (moves n)) := by
  have : ∀ (ms : List Mv), (∀ m ∈ ms, m.2.1 < n ∧ m.2.2 < m.2.1) → ∀ (c : List (BitVec 64) × List Ev) (s : List Sl × List Nat), RelC n c.1 s → RelC n (ms.foldl (rtM 0 (3 * n)) c).1 (ms.foldl apM s) := by
    intro ms
    induction ms with
    | nil => exact fun _ c s h => h
    | cons m ms ih =>
      intro hm c s h
      obtain ⟨h1, h2⟩ := hm m (List.mem_cons_self ..)
      exact ih (fun m' h' => hm m' (List.mem_cons_of_mem _ h')) _ _ (relC_step h h1 h2)
  refine this (moves n) (fun m hm => ?_) c (l, far) h
  obtain ⟨a, b, cc, d⟩ := moves_mem hm
  have := Nat.one_le_two_pow (n := m.1)
  exact ⟨cc, by omega⟩
/-- What lies behind slots and distances stays. -/
theorem prS_keep (b : Bool) (s : List (BitVec 64) × List Ev) (f t m x : Nat) (hf : f < m) (ht : t < m) (hx : m ≤ x) : cl (prS b s f t).1 x = cl s.1 x := by
  unfold prS cl
  simp only [List.getD, List.getElem?_set]
  rw [if_neg (by omega), if_neg (by omega)]
theorem rcS_keep (b : Bool) (f t m x : Nat) (s : List (BitVec 64) × List Ev) (c : Nat) (hf : f + c ≤ m) (ht : t + c ≤ m) (hx : m ≤ x) : cl (rcS b f t s c).1 x = cl s.1 x := by
  induction c with
  | zero => rfl
  | succ c ih => exact (prS_keep b _ _ _ m x (by omega) (by omega) hx).trans (ih (by omega) (by omega))
theorem route_keep {n x : Nat} (c : List (BitVec 64) × List Ev) (hx : 4 * n ≤ x) : cl (rtL 0 (3 * n) c (moves n)).1 x = cl c.1 x := by
  have : ∀ (ms : List Mv), (∀ m ∈ ms, m.2.1 < n ∧ m.2.2 < n) → ∀ (c : List (BitVec 64) × List Ev), cl (ms.foldl (rtM 0 (3 * n)) c).1 x = cl c.1 x := by
    intro ms
    induction ms with
    | nil => exact fun _ c => rfl
    | cons m ms ih =>
      intro hm c
      obtain ⟨h1, h2⟩ := hm m (List.mem_cons_self ..)
      rw [List.foldl_cons, ih (fun m' h' => hm m' (List.mem_cons_of_mem _ h'))]
      unfold rtM
      rw [rcS_keep _ _ _ (4 * n) x _ 3 (by omega) (by omega) hx, prS_keep _ _ _ _ (4 * n) x (by omega) (by omega) hx]
  refine this (moves n) (fun m hm => ?_) c
  obtain ⟨a, b, cc, d⟩ := moves_mem hm
  have := Nat.one_le_two_pow (n := m.1)
  exact ⟨cc, by omega⟩
end Go.Proofs.Ytedbafgejladiaa.PackZ

