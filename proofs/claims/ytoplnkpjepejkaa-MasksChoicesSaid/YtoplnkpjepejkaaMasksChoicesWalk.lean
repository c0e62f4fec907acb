/-
  The walk of dragnetlaw07.MasksChoices.
-/
import Derived.Test.YtoplnkpjepejkaaAwake07
import Derived.Test.YtoplnkpjepejkaaRef07
namespace Go.Proofs.Ytoplnkpjepejkaa
open Go.RowKit
attribute [local go_sem] bits_and_u64 bits_or_u64 bits_xor_u64 bits_andNot_u64 wrap_u64 bv_add bv_neg bv_sub bv_mul
set_option maxRecDepth 100000
theorem sel_ones (a b : BitVec 64) : selM 18446744073709551615#64 a b = a := sel_msk true a b
theorem sel_none (a b : BitVec 64) : selM 0#64 a b = b := sel_msk false a b
theorem sel_not (m a b : BitVec 64) : selM (~~~ m) a b = selM m b a := by
  rw [← select_eq, ← select_eq, BitVec.not_not, BitVec.or_comm]
theorem sel_self (m a : BitVec 64) : selM m a a = a := by unfold selM; rw [BitVec.xor_self, BitVec.and_zero, BitVec.xor_zero]
theorem of_next (m : BitVec 64) : ~~~ (ofM (m + 1#64)) = ofM m := by
  unfold ofM
  rw [msk_not]
  congr 1
  have := m.isLt
  rw [Bool.eq_iff_iff, BitVec.toNat_add]
  simp
  omega
theorem zero_bit (a : BitVec 64) : ofM (if a.toNat = 0 then 1#64 else 0#64) = zeM a := by
  unfold ofM zeM
  by_cases h : a.toNat = 0
  · rw [if_pos h, decide_eq_true h]; rfl
  · rw [if_neg h, decide_eq_false h]; rfl
theorem sel_and (m a b : BitVec 64) : selM m a b &&& m = a &&& m := by
  unfold selM
  ext i hi
  simp only [BitVec.getElem_and, BitVec.getElem_xor]
  cases m[i] <;> cases a[i] <;> cases b[i] <;> rfl
theorem sel_andNot (m a b : BitVec 64) : selM m a b &&& ~~~ m = b &&& ~~~ m := by
  unfold selM
  ext i hi
  simp only [BitVec.getElem_and, BitVec.getElem_xor, BitVec.getElem_not]
  cases m[i] <;> cases a[i] <;> cases b[i] <;> rfl
theorem isM_of (a : BitVec 64) : isM (ofM a) = true := isM_msk _
theorem isM_ze (a : BitVec 64) : isM (zeM a) = true := isM_msk _
theorem boolBit_any (b : Bool) (w : World) : Calls Try.prog 20 #[.bool b] w fun e w' => e = .returned (.int .u64 (if b = true then 1 else 0)) ∧ w = w' := by
  cases b
  all_goals
    go_enter Try.func20, Try.ntmps20
    go_wp2
    go_ret
    exact ⟨rfl, rfl⟩
set_option maxHeartbeats 2000000 in
theorem masksChoices_walk {w : World} (m a b : BitVec 64) : Calls Try.prog 4 #[.int .u64 (n64 m), .int .u64 (n64 a), .int .u64 (n64 b)] w (BoolNew true w) := by
  have h1 : (n64 (selM m a b &&& m) == n64 (a &&& m)) = true := by rw [sel_and]; simp
  have h2 : (n64 (selM m a b &&& ~~~ m) == n64 (b &&& ~~~ m)) = true := by rw [sel_andNot]; simp
  go_enter Try.func4, Try.ntmps4
  go_wp2_with fail
  refine (select_any m a b w).mono ?_
  rintro e w' ⟨rfl, rfl⟩
  go_wp2_with fail
  refine Calls.mono (R := fun e w' => e = .returned (.int .u64 (n64 a)) ∧ w = w') (by have := select_any 18446744073709551615#64 a b w; rwa [sel_ones] at this) ?_
  rintro e w' ⟨rfl, rfl⟩
  go_wp2_with fail
  refine Calls.mono (R := fun e w' => e = .returned (.int .u64 (n64 b)) ∧ w = w') (by have := select_any 0#64 a b w; rwa [sel_none] at this) ?_
  rintro e w' ⟨rfl, rfl⟩
  go_wp2_with fail
  refine (not_any m w).mono ?_
  rintro e w' ⟨rfl, rfl⟩
  go_wp2_with fail
  refine (select_any (~~~ m) a b w).mono ?_
  rintro e w' ⟨rfl, rfl⟩
  rw [sel_not]
  go_wp2_with fail
  refine (select_any m b a w).mono ?_
  rintro e w' ⟨rfl, rfl⟩
  go_wp2_with fail
  refine (select_any m a a w).mono ?_
  rintro e w' ⟨rfl, rfl⟩
  rw [sel_self]
  go_wp2_with fail
  refine (of_any m w).mono ?_
  rintro e w' ⟨rfl, rfl⟩
  go_wp2_with fail
  rw [bv_one]
  refine (of_any (m + 1#64) w).mono ?_
  rintro e w' ⟨rfl, rfl⟩
  go_wp2_with fail
  refine (not_any _ w).mono ?_
  rintro e w' ⟨rfl, rfl⟩
  rw [of_next]
  go_wp2_with fail
  refine (of_any a w).mono ?_
  rintro e w' ⟨rfl, rfl⟩
  go_wp2_with fail
  refine Calls.mono (R := fun e w' => e = .returned (.bool true) ∧ w = w') (by have := is_any (ofM a) w; rwa [isM_of] at this) ?_
  rintro e w' ⟨rfl, rfl⟩
  go_wp2_with fail
  refine (zero_any a w).mono ?_
  rintro e w' ⟨rfl, rfl⟩
  go_wp2_with fail
  refine Calls.mono (R := fun e w' => e = .returned (.bool true) ∧ w = w') (by have := is_any (zeM a) w; rwa [isM_ze] at this) ?_
  rintro e w' ⟨rfl, rfl⟩
  go_wp2_with fail
  refine (zero_any a w).mono ?_
  rintro e w' ⟨rfl, rfl⟩
  have hbit : ((if (n64 a == 0) = true then (1 : Int) else 0)) = n64 (if a.toNat = 0 then 1#64 else 0#64) := by
    by_cases h : a.toNat = 0
    · have : (n64 a == 0) = true := by rw [beq_iff_eq]; unfold n64; omega
      rw [if_pos h, if_pos this]; rfl
    · have : (n64 a == 0) = false := by rw [beq_eq_false_iff_ne]; unfold n64; omega
      rw [if_neg h, this]; rfl
  have HB := Lib.hid hbit
  clear hbit
  go_wp2_with fail
  refine Calls.mono (R := fun e w' => e = .returned (.int .u64 (n64 (if a.toNat = 0 then 1#64 else 0#64))) ∧ w = w') (by have := boolBit_any (n64 a == 0) w; rwa [HB.out] at this) ?_
  generalize hz : (if a.toNat = 0 then 1#64 else 0#64) = z
  have HZ := Lib.hid (show ofM z = zeM a by rw [← hz, zero_bit])
  clear hz
  rintro e w' ⟨rfl, rfl⟩
  go_wp2_with fail
  refine (of_any z w).mono ?_
  rintro e w' ⟨rfl, rfl⟩
  rw [HZ.out]
  go_wp2_with fail
  refine (awake_ok w).mono ?_
  rintro e w' ⟨rfl, ho⟩
  have HO := Lib.hid ho
  clear ho
  go_wp2
  go_ret
  exact ⟨rfl, HO.out⟩
end Go.Proofs.Ytoplnkpjepejkaa
