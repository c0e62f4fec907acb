/-
 What bits.Ones collects are the bits of a row.
-/
import Derived.Test.YtkflicifngohcaaGreatDoorM28
import Derived.Test.YtkflicifngohcaaGreatDoorM13
set_option linter.unusedVariables false
set_option linter.unusedSimpArgs false
namespace Go.Proofs.YtkflicifngohcaaGreatDoor
open Go.RowKit
theorem ctz_form {x : Nat} (h0 : x ≠ 0) (h : x < 18446744073709551616) : ∃ m, x = 2 ^ Lib.ctz 64 x * (2 * m + 1) ∧ Lib.ctz 64 x < 64 := by
 obtain ⟨m, h1, h2⟩ := Lib.ctzFrom_spec 64 x (by omega) (by simpa using h)
 have e : Lib.ctz 64 x = Lib.ctzFrom 64 x := by
  unfold Lib.ctz
  rw [if_neg h0]
 rw [e]
 exact ⟨m, h1, h2⟩
theorem bit_low {x k m j : Nat} (h : x = 2 ^ k * (2 * m + 1)) (hj : j < k) : x.testBit j = false := by
 rw [h, Nat.testBit_two_pow_mul]
 simp
 omega
theorem bit_at {x k m : Nat} (h : x = 2 ^ k * (2 * m + 1)) : x.testBit k = true := by
 rw [h, Nat.testBit_two_pow_mul]
 simp
theorem blsr_bit {x k m : Nat} (h : x = 2 ^ k * (2 * m + 1)) (j : Nat) : (x &&& (x - 1)).testBit j = (x.testBit j && decide (j ≠ k)) := by
 rw [Nat.testBit_and]
 by_cases hj : j < k
 ·rw [bit_low h hj]
  simp
 ·have hk : 1 ≤ 2 ^ k := Nat.one_le_two_pow
  have e1 : x - 1 = 2 ^ k * (2 * m) + (2 ^ k - 1) := by rw [h, Nat.mul_add]; omega
  have e2 : (x - 1) / 2 ^ k = 2 * m := by
   rw [e1, Nat.mul_add_div (by omega), Nat.div_eq_of_lt (by omega)]
   rfl
  have e3 : x / 2 ^ k = 2 * m + 1 := by rw [h, Nat.mul_div_cancel_left _ (by omega)]
  obtain ⟨d, rfl⟩ : ∃ d, j = k + d := ⟨j - k, by omega⟩
  have t1 : x.testBit (k + d) = (2 * m + 1).testBit d := by rw [← e3, Nat.testBit_div_two_pow, Nat.add_comm]
  have t2 : (x - 1).testBit (k + d) = (2 * m).testBit d := by rw [← e2, Nat.testBit_div_two_pow, Nat.add_comm]
  rw [t1, t2]
  cases d with
  | zero => simp
  | succ d =>
   rw [Nat.testBit_succ, Nat.testBit_succ]
   simp
   rw [show (2 * m + 1) / 2 = m from by omega]
   simp
theorem onesW_mem : ∀ (x : Nat) (i : Nat), x < 18446744073709551616 → (∀ p : Int, p ∈ onesW i x ↔ ∃ j : Nat, j < 64 ∧ x.testBit j = true ∧ p = ((64 * i + j : Nat) : Int)) ∧ (onesW i x).Pairwise (· < ·) := by
 intro x
 induction x using Nat.strongRecOn with
 | _ x ih =>
  intro i hx
  by_cases h0 : x = 0
  ·subst h0
   rw [onesW_zero]
   simp
  ·obtain ⟨m, h1, h2⟩ := ctz_form h0 hx
   rw [onesW_step i h0]
   revert h1 h2
   generalize Lib.ctz 64 x = k
   intro h1 h2
   have hlt := and_pred_lt h0
   obtain ⟨i1, i2⟩ := ih _ hlt i (by omega)
   refine ⟨fun p => ?_, List.pairwise_cons.2 ⟨fun p hp => ?_, i2⟩⟩
   ·rw [List.mem_cons, i1]
    constructor
    ·rintro (rfl | ⟨j, a, b, c⟩)
     ·exact ⟨k, h2, bit_at h1, rfl⟩
     ·rw [blsr_bit h1] at b
      simp only [Bool.and_eq_true] at b
      exact ⟨j, a, b.1, c⟩
    ·rintro ⟨j, a, b, c⟩
     by_cases e : j = k
     ·subst e
      exact .inl c
     ·refine .inr ⟨j, a, ?_, c⟩
      rw [blsr_bit h1, b]
      simpa using e
   ·obtain ⟨j, a, b, rfl⟩ := (i1 p).1 hp
    rw [blsr_bit h1] at b
    simp only [Bool.and_eq_true, decide_eq_true_eq] at b
    have : ¬ j < k := fun hjk => by rw [bit_low h1 hjk] at b; exact absurd b.1 (by simp)
    omega
theorem onesL_mem : ∀ (L : List Nat) (i : Nat), (∀ x ∈ L, x < 18446744073709551616) → (∀ p : Int, p ∈ onesL i L ↔ ∃ n : Nat, n < 64 * L.length ∧ bitAt L n = true ∧ p = ((64 * i + n : Nat) : Int)) ∧ (onesL i L).Pairwise (· < ·)
 | [], i, _ => by simp [onesL]
 | x :: L, i, h => by
  obtain ⟨a1, a2⟩ := onesW_mem x i (h x List.mem_cons_self)
  obtain ⟨b1, b2⟩ := onesL_mem L (i + 1) (fun y hy => h y (List.mem_cons_of_mem _ hy))
  rw [onesL]
  refine ⟨fun p => ?_, List.pairwise_append.2 ⟨a2, b2, fun p hp q hq => ?_⟩⟩
  ·rw [List.mem_append, a1, b1]
   constructor
   ·rintro (⟨j, hj, hb, rfl⟩ | ⟨n, hn, hb, rfl⟩)
    ·refine ⟨j, by rw [List.length_cons]; omega, ?_, rfl⟩
     unfold bitAt
     rw [show j / 64 = 0 from by omega, show j % 64 = j from by omega]
     exact hb
    ·refine ⟨64 + n, by rw [List.length_cons]; omega, ?_, by omega⟩
     unfold bitAt at hb ⊢
     rw [show (64 + n) / 64 = n / 64 + 1 from by omega, show (64 + n) % 64 = n % 64 from by omega, List.getD_cons_succ]
     exact hb
   ·rintro ⟨n, hn, hb, rfl⟩
    rw [List.length_cons] at hn
    by_cases hlt : n < 64
    ·refine .inl ⟨n, hlt, ?_, rfl⟩
     unfold bitAt at hb
     rw [show n / 64 = 0 from by omega, show n % 64 = n from by omega] at hb
     exact hb
    ·refine .inr ⟨n - 64, by omega, ?_, by omega⟩
     unfold bitAt at hb ⊢
     rw [show n / 64 = (n - 64) / 64 + 1 from by omega, show n % 64 = (n - 64) % 64 from by omega, List.getD_cons_succ] at hb
     exact hb
  ·obtain ⟨j, hj, _, rfl⟩ := (a1 p).1 hp
   obtain ⟨n, hn, _, rfl⟩ := (b1 q).1 hq
   omega
theorem asc_unique : ∀ {A B : List Int}, A.Pairwise (· < ·) → B.Pairwise (· < ·) → (∀ x, x ∈ A ↔ x ∈ B) → A = B
 | [], [], _, _, _ => rfl
 | [], b :: B, _, _, h => absurd ((h b).2 List.mem_cons_self) (by simp)
 | a :: A, [], _, _, h => absurd ((h a).1 List.mem_cons_self) (by simp)
 | a :: A, b :: B, hA, hB, h => by
  obtain ⟨a1, a2⟩ := List.pairwise_cons.1 hA
  obtain ⟨b1, b2⟩ := List.pairwise_cons.1 hB
  have e : a = b := by
   rcases List.mem_cons.1 ((h a).1 List.mem_cons_self) with e | e
   ·exact e
   ·rcases List.mem_cons.1 ((h b).2 List.mem_cons_self) with e' | e'
    ·exact e'.symm
    ·have := a1 b e'
     have := b1 a e
     omega
  subst e
  rw [asc_unique a2 b2 (fun x => by
   have := h x
   simp only [List.mem_cons] at this
   constructor
   ·intro hx
    rcases this.1 (.inr hx) with e | e
    ·subst e
     exact absurd (a1 x hx) (by omega)
    ·exact e
   ·intro hx
    rcases this.2 (.inr hx) with e | e
    ·subst e
     exact absurd (b1 x hx) (by omega)
    ·exact e)]
theorem onesL_onesN {L : List Nat} (h : ∀ x ∈ L, x < 18446744073709551616) : onesL 0 L = (onesN L).map Int.ofNat := by
 obtain ⟨a1, a2⟩ := onesL_mem L 0 h
 refine asc_unique a2 ?_ (fun x => ?_)
 ·rw [List.pairwise_map]
  exact (onesN_asc L).imp (fun h => by simpa using h)
 ·rw [a1, List.mem_map]
  constructor
  ·rintro ⟨n, h1, h2, rfl⟩
   exact ⟨n, mem_onesN.2 ⟨h1, h2⟩, by simp⟩
  ·rintro ⟨n, h1, rfl⟩
   obtain ⟨h2, h3⟩ := mem_onesN.1 h1
   exact ⟨n, h2, h3, by simp⟩
def natsV (l : List Nat) : List Value := l.map (fun x : Nat => Value.int .i64 (x : Int))
theorem natsV_snoc (l : List Nat) (x : Nat) : natsV (l ++ [x]) = natsV l ++ [.int .i64 (x : Int)] := by simp [natsV]
theorem natsV_get {l : List Nat} {q : Nat} (h : q < l.length) : (natsV l)[q]? = some (.int .i64 ((l.getD q 0 : Nat) : Int)) := by
 simp [natsV, List.getD_eq_getElem?_getD, List.getElem?_eq_getElem h]
theorem natsV_ones {L : List Nat} (h : ∀ x ∈ L, x < 18446744073709551616) : (onesL 0 L).map (Value.int .i64) = natsV (onesN L) ∧ (onesL 0 L).length = (onesN L).length := by
 rw [onesL_onesN h]
 refine ⟨?_, by simp⟩
 unfold natsV
 rw [List.map_map]
 rfl
theorem onesN_len (L : List Nat) : (onesN L).length ≤ 64 * L.length := by
 unfold onesN
 exact Nat.le_trans (List.length_filter_le _ _) (by simp)
end Go.Proofs.YtkflicifngohcaaGreatDoor
