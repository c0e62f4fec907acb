/-
 The plain law of shiftand's automaton: what a byte does to the words is what it does to the bits; the hits.
-/
import Derived.Test.YtlgjaefcfnndhaaGreatDoorL26
import Derived.Test.YtlgjaefcfnndhaaGreatDoorL34
set_option linter.unusedVariables false
set_option linter.unusedSimpArgs false
set_option maxHeartbeats 16000000
namespace Go.Proofs.YtlgjaefcfnndhaaGreatDoor
open Go.RowKit Go.Conc Go.Pip
theorem qug {X : List Nat} (hX64 : ∀ x ∈ X, x < 18446744073709551616) (j r : Nat) (hr : r < 64) :
  ((X.getD j 0 * 2) % 18446744073709551616 ||| cyN X j).testBit r = (decide (1 ≤ 64 * j + r) && bitAt X (64 * j + r - 1)) := by
 have e2 : X.getD j 0 * 2 = X.getD j 0 * 2 ^ 1 := by omega
 have em : (18446744073709551616 : Nat) = 2 ^ 64 := by decide
 have ed : (9223372036854775808 : Nat) = 2 ^ 63 := by decide
 have h0 : ∀ k, (X.getD k 0).testBit (64 + k * 0) = false := fun k => Nat.testBit_lt_two_pow (Nat.lt_of_lt_of_le (qbh hX64 k) (by rw [em]; exact Nat.pow_le_pow_right (by decide) (by omega)))
 rw [Nat.testBit_or, em, Nat.testBit_mod_two_pow, e2, Nat.testBit_mul_two_pow]
 unfold cyN bitAt
 by_cases hr0 : r = 0
 ·subst hr0
  by_cases hj : j = 0
  ·subst hj; simp
  ·have e1 : (64 * j + 0 - 1) / 64 = j - 1 := by omega
   have e3 : (64 * j + 0 - 1) % 64 = 63 := by omega
   rw [if_neg hj, e1, e3, ed, Nat.testBit_div_two_pow]
   have d : decide (1 ≤ 64 * j + 0) = true := dcT
   rw [d]
   simp
 ·have e1 : (64 * j + r - 1) / 64 = j := by omega
  have e3 : (64 * j + r - 1) % 64 = r - 1 := by omega
  have d : decide (1 ≤ 64 * j + r) = true := dcT
  have hc : (if j = 0 then 0 else X.getD (j - 1) 0 / 9223372036854775808).testBit r = false := by
   split
   ·simp
   ·rw [ed, Nat.testBit_div_two_pow]
    exact Nat.testBit_lt_two_pow (Nat.lt_of_lt_of_le (qbh hX64 _) (by rw [em]; exact Nat.pow_le_pow_right (by decide) (by omega)))
  rw [hc, e1, e3, d]
  have d1 : decide (r < 64) = true := decide_eq_true hr
  have d2 : decide (r ≥ 1) = true := dcT
  rw [d1, d2]
  simp
theorem qx4 {T S X : List Nat} {W b : Nat} (hX64 : ∀ x ∈ X, x < 18446744073709551616) (hT64 : ∀ x ∈ T, x < 18446744073709551616) : rdTo W T S X b W = stepX T S W X b := by
 have hl : (stepX T S W X b).length = W := by unfold stepX andX; exact qdc _ _
 refine qku (by rw [qcx, hl]) (qf7 hX64 hT64) (by unfold stepX andX; exact qgn _ _) fun i hi => ?_
 rw [qcx] at hi
 have hj : i / 64 < W := by omega
 unfold stepX andX orX shX
 rw [qee, qee, qee, qek hi]
 have d : decide (i < 64 * W) = true := decide_eq_true hi
 rw [d]
 simp only [Bool.true_and]
 have hs := qug hX64 (i / 64) (i % 64) (by omega)
 have e : 64 * (i / 64) + i % 64 = i := by omega
 rw [e] at hs
 rw [← hs]
 show ((rdTo W T S X b W).getD (i / 64) 0).testBit (i % 64) = _
 rw [qe4 hj, if_pos hj]
 unfold nxN
 rw [Nat.testBit_and, Nat.testBit_or]
 rfl
theorem qje {F X : List Nat} {W i : Nat} : ∀ (j r : Nat), (metN F X W i j).testBit r = true ↔ ∃ k, k < j ∧ (X.getD k 0).testBit r = true ∧ (F.getD (i * W + k) 0).testBit r = true
 | 0, r => by simp [metN]
 | j + 1, r => by
  unfold metN
  rw [Nat.testBit_or, Bool.or_eq_true, qje j r, Nat.testBit_and, Bool.and_eq_true]
  constructor
  ·rintro (⟨k, h1, h2⟩ | h)
   ·exact ⟨k, by omega, h2⟩
   ·exact ⟨j, by omega, h⟩
  ·rintro ⟨k, h1, h2⟩
   by_cases e : k = j
   ·subst e; exact .inr h2
   ·exact .inl ⟨k, by omega, h2⟩
theorem quh {F : List Nat} {W : Nat} {X : List Nat} {r : Nat} : hitR F W X r = true ↔ ∃ i, i < 64 * W ∧ bitAt X i = true ∧ bitAt (finL F W r) i = true := by
 unfold hitR
 rw [decide_eq_true_eq]
 have hl : (andX W X (finL F W r)).length = W := qdc _ _
 constructor
 ·intro h
  obtain ⟨i, hi⟩ := List.exists_mem_of_length_pos h
  have := qar.1 hi
  rw [hl] at this
  obtain ⟨h1, h2⟩ := this
  unfold andX at h2
  rw [qee, Bool.and_eq_true, Bool.and_eq_true] at h2
  exact ⟨i, h1, h2.2.1, h2.2.2⟩
 ·rintro ⟨i, h1, h2, h3⟩
  refine List.length_pos_of_mem (a := i) (qar.2 ⟨by rw [hl]; exact h1, ?_⟩)
  unfold andX
  rw [qee, decide_eq_true h1, h2, h3]
  rfl
theorem qp0 {F : List Nat} {W r k : Nat} (hk : k < W) : (finL F W r).getD k 0 = F.getD (r * W + k) 0 := by
 unfold finL
 rw [List.getD_eq_getElem?_getD, List.getElem?_take, if_pos hk, List.getElem?_drop, List.getD_eq_getElem?_getD]
theorem qp1 {F X : List Nat} {W r : Nat} (hX64 : ∀ x ∈ X, x < 18446744073709551616) : (metN F X W r W = 0) ↔ hitR F W X r = false := by
 rw [← Bool.not_eq_true, quh]
 constructor
 ·rintro h ⟨i, h1, h2, h3⟩
  have hb : (metN F X W r W).testBit (i % 64) = true := (qje W (i % 64)).2 ⟨i / 64, by omega, h2, by
   have := h3
   unfold bitAt at this
   rw [qp0 (by omega)] at this
   exact this⟩
  rw [h] at hb
  simp at hb
 ·intro h
  refine Nat.eq_of_testBit_eq fun q => ?_
  rw [Nat.zero_testBit]
  cases hb : (metN F X W r W).testBit q with
  | false => rfl
  | true =>
   obtain ⟨k, h1, h2, h3⟩ := (qje W q).1 hb
   have hq : q < 64 := by
    rcases Nat.lt_or_ge q 64 with h | h
    ·exact h
    ·have e : (X.getD k 0).testBit q = false := Nat.testBit_lt_two_pow (Nat.lt_of_lt_of_le (qbh hX64 k) (by rw [show (18446744073709551616 : Nat) = 2 ^ 64 by decide]; exact Nat.pow_le_pow_right (by decide) h))
     rw [e] at h2; cases h2
   refine absurd ⟨64 * k + q, by omega, ?_, ?_⟩ h
   ·unfold bitAt
    rw [show (64 * k + q) / 64 = k by omega, show (64 * k + q) % 64 = q by omega]
    exact h2
   ·unfold bitAt
    rw [show (64 * k + q) / 64 = k by omega, show (64 * k + q) % 64 = q by omega, qp0 h1]
    exact h3
theorem qlq {F X : List Nat} {W : Nat} (hX64 : ∀ x ∈ X, x < 18446744073709551616) : ∀ n, hitsN F X W n = qb3 F W X n
 | 0 => by simp [hitsN, qb3]
 | n + 1 => by
  unfold hitsN
  rw [qlq hX64 n]
  cases h : hitR F W X n with
  | true => rw [qj9 h, if_neg (fun e => by rw [(qp1 hX64).1 e] at h; cases h)]
  | false => rw [qlo h, if_pos ((qp1 hX64).2 h), List.append_nil]
end Go.Proofs.YtlgjaefcfnndhaaGreatDoor
