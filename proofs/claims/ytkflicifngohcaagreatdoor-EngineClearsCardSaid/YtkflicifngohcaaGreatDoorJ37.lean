/-
  compare's functions of numbers, and the specification's.
-/
import Derived.Test.YtkflicifngohcaaGreatDoorJ33
import Derived.IntWalk
namespace Go.Proofs.YtkflicifngohcaaGreatDoor
open Go.RowKit
attribute [local go_sem] bits_and_u64 bits_or_u64 bits_xor_u64 bits_andNot_u64 wrap_u64 bv_add bv_neg bv_sub bv_mul
attribute [local go_sem ↓] run_max_u64 run_min_u64
set_option linter.unusedVariables false
set_option maxRecDepth 100000
/-- The mask of equal numbers. -/
def eqM (a b : BitVec 64) : BitVec 64 := msk (decide (a = b))
theorem ze_xor (a b : BitVec 64) : zeM (a ^^^ b) = eqM a b := by
  unfold zeM eqM
  by_cases h : a = b
  · subst h; rw [decide_eq_true rfl, decide_eq_true (by simp)]
  · rw [decide_eq_false h, decide_eq_false]
    intro h2
    apply h
    have h3 : a ^^^ b = 0#64 := BitVec.eq_of_toNat_eq (by simpa using h2)
    exact BitVec.xor_eq_zero_iff.1 h3
theorem equal_any (a b : BitVec 64) (w : World) : Calls Tryz.prog 135 #[.int .u64 (n64 a), .int .u64 (n64 b)] w fun e w' => e = .returned (.int .u64 (n64 (eqM a b))) ∧ w = w' := by
  go_enter Tryz.func135, Tryz.ntmps135
  go_wp2_with fail
  refine (zero_any _ w).mono ?_
  rintro e w' ⟨rfl, rfl⟩
  go_wp2
  go_ret
  exact ⟨ret_int (by rw [ze_xor]), rfl⟩
end Go.Proofs.YtkflicifngohcaaGreatDoor
