/-
  Route leaves in the cells the slots that Apply returns. Nothing of the program is named here.
-/
import Derived.Test.YtlefjlclhmapaaaNetRoute
import Derived.Test.YtlefjlclhmapaaaNetAp
namespace Go.Proofs.Ytlefjlclhmapaaa
open Go.RowKit
set_option linter.unusedVariables false
set_option maxRecDepth 100000
theorem cl_set (C : List (BitVec 64)) (i x : Nat) (u : BitVec 64) (h : i < C.length) : cl (C.set i u) x = if x = i then u else cl C x := by
  unfold cl
  simp only [List.getD, List.getElem?_set]
  by_cases e : i = x
  · subst e; simp [h]
  · rw [if_neg e, if_neg (Ne.symm e)]
theorem prS_no (s : List (BitVec 64) × List Ev) (f t : Nat) : (prS false s f t).1 = s.1 := by
  have hs : ∀ (l : List (BitVec 64)) (i : Nat), l.set i (cl l i) = l := fun l i => by
    apply List.ext_getElem?
    intro j
    rw [List.getElem?_set]
    by_cases e : i = j
    · subst e
      by_cases h : i < l.length
      · rw [if_pos rfl, if_pos h]; simp [cl, List.getD, h]
      · rw [if_pos rfl, if_neg h, List.getElem?_eq_none (by omega)]
    · rw [if_neg e]
  show (s.1.set t (cl s.1 t)).set f (cl s.1 f) = s.1
  rw [hs, hs]
theorem rcS_no (f t : Nat) (s : List (BitVec 64) × List Ev) (c : Nat) : (rcS false f t s c).1 = s.1 := by
  induction c with
  | zero => rfl
  | succ c ih => exact (prS_no _ _ _).trans ih
theorem prS_yes (s : List (BitVec 64) × List Ev) (f t x : Nat) (hf : f < s.1.length) (ht : t < s.1.length) : cl (prS true s f t).1 x = if x = f then 0#64 else if x = t then cl s.1 f else cl s.1 x := by
  show cl ((s.1.set t (cl s.1 f)).set f 0#64) x = _
  rw [cl_set _ _ _ _ (by simpa using hf), cl_set _ _ _ _ ht]
theorem rcS_yes (F T : Nat) (s : List (BitVec 64) × List Ev) (x : Nat) (hT : T + 3 ≤ F) (hF : F + 3 ≤ s.1.length) (c : Nat) : c ≤ 3 → cl (rcS true F T s c).1 x = if F ≤ x ∧ x < F + c then 0#64 else if T ≤ x ∧ x < T + c then cl s.1 (F + (x - T)) else cl s.1 x := by
  induction c generalizing x with
  | zero => intro _; rw [if_neg (by omega), if_neg (by omega)]; rfl
  | succ c ih =>
    intro hc
    have hl := (rcS_len true F T s c).1
    show cl (prS true (rcS true F T s c) (F + c) (T + c)).1 x = _
    rw [prS_yes _ _ _ _ (by omega) (by omega), ih x (by omega), ih (F + c) (by omega)]
    rw [if_neg (show ¬ (F ≤ F + c ∧ F + c < F + c) by omega), if_neg (show ¬ (T ≤ F + c ∧ F + c < T + c) by omega)]
    by_cases h1 : x = F + c
    · rw [if_pos h1, if_pos (by omega)]
    rw [if_neg h1]
    by_cases h2 : x = T + c
    · rw [if_pos h2, if_neg (by omega), if_pos (by omega), show F + (x - T) = F + c by omega]
    rw [if_neg h2]
    by_cases h3 : F ≤ x ∧ x < F + c
    · rw [if_pos h3, if_pos (by omega)]
    rw [if_neg h3, if_neg (show ¬ (F ≤ x ∧ x < F + (c + 1)) by omega)]
    by_cases h4 : T ≤ x ∧ x < T + c
    · rw [if_pos h4, if_pos (show T ≤ x ∧ x < T + (c + 1) by omega)]
    · rw [if_neg h4, if_neg (show ¬ (T ≤ x ∧ x < T + (c + 1)) by omega)]
/-- Slots and their distances in cells: three cells for each slot, and behind them the distances. -/
def RelC (n : Nat) (C : List (BitVec 64)) (s : List Sl × List Nat) : Prop :=
  4 * n ≤ C.length ∧ s.1.length = n ∧ s.2.length = n ∧ (∀ i, s.2.getD i 0 ≤ 288) ∧ ∀ i, i < n → cl C (3 * i) = (sl s.1 i).1 ∧ cl C (3 * i + 1) = (sl s.1 i).2.1 ∧ cl C (3 * i + 2) = (sl s.1 i).2.2 ∧ cl C (3 * n + i) = BitVec.ofNat 64 (s.2.getD i 0)
theorem sl_set_at (l : List Sl) (i j : Nat) (x : Sl) (h : i < l.length) : sl (l.set i x) j = if j = i then x else sl l j := by
  simp only [sl, List.getD, List.getElem?_set]
  by_cases e : i = j
  · subst e; simp [h]
  · rw [if_neg e, if_neg (Ne.symm e)]
theorem getD_set_at (l : List Nat) (i j x : Nat) (h : i < l.length) : (l.set i x).getD j 0 = if j = i then x else l.getD j 0 := by
  rw [getD_set]
  by_cases e : i = j
  · rw [if_pos ⟨e, h⟩, if_pos e.symm]
  · rw [if_neg (fun hh => e hh.1), if_neg (Ne.symm e)]
theorem relC_step {n : Nat} {c : List (BitVec 64) × List Ev} {s : List Sl × List Nat} {m : Mv} (h : RelC n c.1 s) (h1 : m.2.1 < n) (h2 : m.2.2 < m.2.1) : RelC n (rtM 0 (3 * n) c m).1 (apM s m) := by
  obtain ⟨j, f, t⟩ := m
  dsimp only at h1 h2
  obtain ⟨g0, g1, g2, g3, g4⟩ := h
  have hbit : bitB (cl c.1 (3 * n + f)) j = decide (s.2.getD f 0 / 2 ^ j % 2 = 1) := by
    rw [(g4 f h1).2.2.2]
    unfold bitB
    rw [BitVec.toNat_ofNat, show s.2.getD f 0 % 2 ^ 64 = s.2.getD f 0 from Nat.mod_eq_of_lt (by have := g3 f; omega)]
  have hlen := (rtM_len 0 (3 * n) c (j, f, t)).1
  unfold rtM apM at *
  dsimp only at *
  rw [hbit] at hlen ⊢
  by_cases hb : s.2.getD f 0 / 2 ^ j % 2 = 1
  · rw [if_pos hb]
    rw [decide_eq_true hb] at hlen ⊢
    have hP := (prS_len true c (3 * n + f) (3 * n + t)).1
    have key : ∀ x, cl (rcS true (0 + 3 * f) (0 + 3 * t) (prS true c (3 * n + f) (3 * n + t)) 3).1 x = if 3 * f ≤ x ∧ x < 3 * f + 3 then 0#64 else if 3 * t ≤ x ∧ x < 3 * t + 3 then cl c.1 (3 * f + (x - 3 * t)) else if x = 3 * n + f then 0#64 else if x = 3 * n + t then cl c.1 (3 * n + f) else cl c.1 x := fun x => by
      rw [Nat.zero_add, Nat.zero_add, rcS_yes _ _ _ _ (by omega) (by omega) 3 (Nat.le_refl _)]
      rw [prS_yes _ _ _ _ (by omega) (by omega), prS_yes _ _ _ _ (by omega) (by omega)]
      by_cases a1 : 3 * f ≤ x ∧ x < 3 * f + 3
      · rw [if_pos a1, if_pos a1]
      rw [if_neg a1, if_neg a1]
      by_cases a2 : 3 * t ≤ x ∧ x < 3 * t + 3
      · rw [if_pos a2, if_pos a2, if_neg (by omega), if_neg (by omega)]
      · rw [if_neg a2, if_neg a2]
    refine ⟨by omega, by simpa using g1, by simpa using g2, fun i => ?_, fun i hi => ?_⟩
    · rw [getD_set_at _ _ _ _ (by simp; omega), getD_set_at _ _ _ _ (by omega)]
      split
      · omega
      · split
        · exact g3 f
        · exact g3 i
    · rw [key, key, key, key]
      rw [sl_set_at _ _ _ _ (by simp; omega), sl_set_at _ _ _ _ (by omega), getD_set_at _ _ _ _ (by simp; omega), getD_set_at _ _ _ _ (by omega)]
      by_cases e1 : i = f
      · rw [e1]
        rw [if_pos (show 3 * f ≤ 3 * f ∧ 3 * f < 3 * f + 3 by omega), if_pos (show 3 * f ≤ 3 * f + 1 ∧ 3 * f + 1 < 3 * f + 3 by omega), if_pos (show 3 * f ≤ 3 * f + 2 ∧ 3 * f + 2 < 3 * f + 3 by omega), if_neg (show ¬ (3 * f ≤ 3 * n + f ∧ 3 * n + f < 3 * f + 3) by omega), if_neg (show ¬ (3 * t ≤ 3 * n + f ∧ 3 * n + f < 3 * t + 3) by omega), if_pos rfl, if_pos rfl, if_pos rfl]
        exact ⟨rfl, rfl, rfl, rfl⟩
      · rw [if_neg (show ¬ (3 * f ≤ 3 * i ∧ 3 * i < 3 * f + 3) by omega), if_neg (show ¬ (3 * f ≤ 3 * i + 1 ∧ 3 * i + 1 < 3 * f + 3) by omega), if_neg (show ¬ (3 * f ≤ 3 * i + 2 ∧ 3 * i + 2 < 3 * f + 3) by omega), if_neg (show ¬ (3 * f ≤ 3 * n + i ∧ 3 * n + i < 3 * f + 3) by omega), if_neg (show ¬ (3 * t ≤ 3 * n + i ∧ 3 * n + i < 3 * t + 3) by omega)]
        rw [if_neg e1, if_neg e1, if_neg (show ¬ 3 * n + i = 3 * n + f by omega)]
        by_cases e2 : i = t
        · rw [e2]
          rw [if_pos (show 3 * t ≤ 3 * t ∧ 3 * t < 3 * t + 3 by omega), if_pos (show 3 * t ≤ 3 * t + 1 ∧ 3 * t + 1 < 3 * t + 3 by omega), if_pos (show 3 * t ≤ 3 * t + 2 ∧ 3 * t + 2 < 3 * t + 3 by omega), if_pos rfl, if_pos rfl, if_pos rfl]
          obtain ⟨k0, k1, k2, k3⟩ := g4 f h1
          rw [show 3 * f + (3 * t - 3 * t) = 3 * f by omega, show 3 * f + (3 * t + 1 - 3 * t) = 3 * f + 1 by omega, show 3 * f + (3 * t + 2 - 3 * t) = 3 * f + 2 by omega]
          exact ⟨k0, k1, k2, k3⟩
        · rw [if_neg (show ¬ (3 * t ≤ 3 * i ∧ 3 * i < 3 * t + 3) by omega), if_neg (show ¬ (3 * t ≤ 3 * i + 1 ∧ 3 * i + 1 < 3 * t + 3) by omega), if_neg (show ¬ (3 * t ≤ 3 * i + 2 ∧ 3 * i + 2 < 3 * t + 3) by omega)]
          have w1 : ∀ y, y < 3 * n → ¬ y = 3 * n + f ∧ ¬ y = 3 * n + t := fun y hy => ⟨by omega, by omega⟩
          obtain ⟨y1, y2⟩ := w1 (3 * i) (by omega)
          obtain ⟨y3, y4⟩ := w1 (3 * i + 1) (by omega)
          obtain ⟨y5, y6⟩ := w1 (3 * i + 2) (by omega)
          rw [if_neg y1, if_neg y2, if_neg y3, if_neg y4, if_neg y5, if_neg y6, if_neg e2, if_neg e2, if_neg (show ¬ 3 * n + i = 3 * n + t by omega)]
          exact g4 i hi
  · rw [if_neg hb]
    rw [decide_eq_false hb, rcS_no, prS_no]
    exact ⟨g0, g1, g2, g3, g4⟩
theorem relC_route {n : Nat} {c : List (BitVec 64) × List Ev} {l : List Sl} {far : List Nat} (h : RelC n c.1 (l, far)) : RelC n (rtL 0 (3 * n) c (moves n)).1 (apL l far (moves n)) := by
  have : ∀ (ms : List Mv), (∀ m ∈ ms, m.2.1 < n ∧ m.2.2 < m.2.1) → ∀ (c : List (BitVec 64) × List Ev) (s : List Sl × List Nat), RelC n c.1 s → RelC n (ms.foldl (rtM 0 (3 * n)) c).1 (ms.foldl apM s) := by
    intro ms
    induction ms with
    | nil => exact fun _ c s h => h
    | cons m ms ih =>
      intro hm c s h
      obtain ⟨h1, h2⟩ := hm m (List.mem_cons_self ..)
      exact ih (fun m' h' => hm m' (List.mem_cons_of_mem _ h')) _ _ (relC_step h h1 h2)
  refine this (moves n) (fun m hm => ?_) c (l, far) h
  obtain ⟨a, b, cc, d⟩ := moves_mem hm
  have := Nat.one_le_two_pow (n := m.1)
  exact ⟨cc, by omega⟩
end Go.Proofs.Ytlefjlclhmapaaa
