/-
  counters.Sum, Rest, Next and their references.
-/
import Derived.Test.YtoobgfammippfaaMasks
namespace Go.Proofs.Ytoobgfammippfaa
open Go.RowKit
attribute [local go_sem] bits_and_u64 bits_or_u64 bits_xor_u64 bits_andNot_u64 wrap_u64 bv_add bv_neg bv_sub bv_mul
set_option maxRecDepth 100000

/-- A sum that is at most most. -/
def sumM (a b most : BitVec 64) : BitVec 64 := BitVec.ofNat 64 (min (a.toNat + b.toNat) most.toNat)
/-- A difference, or 0. -/
def restM (a b : BitVec 64) : BitVec 64 := BitVec.ofNat 64 (a.toNat - b.toNat)
theorem sumM_toNat (a b most : BitVec 64) : (sumM a b most).toNat = min (a.toNat + b.toNat) most.toNat := by
  unfold sumM
  have := most.isLt
  rw [BitVec.toNat_ofNat, Nat.mod_eq_of_lt (by omega)]
theorem restM_toNat (a b : BitVec 64) : (restM a b).toNat = a.toNat - b.toNat := by
  unfold restM
  have := a.isLt
  rw [BitVec.toNat_ofNat, Nat.mod_eq_of_lt (by omega)]
theorem sum_eq (a b most : BitVec 64) : selM (ltM (a + b) a ||| ltM most (a + b)) most (a + b) = sumM a b most := by
  unfold ltM
  rw [msk_or, sel_msk]
  have h1 := a.isLt
  have h2 := b.isLt
  have h3 := most.isLt
  apply BitVec.eq_of_toNat_eq
  rw [sumM_toNat, BitVec.toNat_add]
  by_cases hc : (a.toNat + b.toNat) % 2 ^ 64 < a.toNat
  · rw [decide_eq_true hc]
    show most.toNat = _
    omega
  · rw [decide_eq_false hc, Bool.false_or]
    by_cases hd : most.toNat < (a.toNat + b.toNat) % 2 ^ 64
    · rw [decide_eq_true hd]
      show most.toNat = _
      omega
    · rw [decide_eq_false hd]
      show (a + b).toNat = _
      rw [BitVec.toNat_add]
      omega
theorem rest_eq (a b : BitVec 64) : (a - b) &&& ~~~ ltM a b = restM a b := by
  unfold ltM
  rw [msk_not]
  have h1 := a.isLt
  have h2 := b.isLt
  apply BitVec.eq_of_toNat_eq
  rw [restM_toNat]
  by_cases hc : a.toNat < b.toNat
  · rw [decide_eq_true hc]
    show ((a - b) &&& 0#64).toNat = _
    rw [BitVec.and_zero]
    show 0 = _
    omega
  · rw [decide_eq_false hc]
    show ((a - b) &&& msk true).toNat = _
    rw [msk_true, BitVec.and_allOnes, BitVec.toNat_sub]
    omega

theorem plus_any (a b : BitVec 64) (w : World) :
    Calls Try.prog 31 #[.int .u64 (n64 a), .int .u64 (n64 b)] w fun e w' => e = .returned (.tuple #[.int .u64 (n64 (a + b)), .int .u64 (n64 (ltM (a + b) a))]) ∧ w = w' := by
  go_enter Try.func31, Try.ntmps31
  go_wp2_with fail
  refine (less_any (a + b) a w).mono ?_
  rintro e w' ⟨rfl, rfl⟩
  go_wp2
  go_ret2
  exact ⟨rfl, rfl⟩
theorem sum_any (a b c : BitVec 64) (w : World) :
    Calls Try.prog 10 #[.int .u64 (n64 a), .int .u64 (n64 b), .int .u64 (n64 c)] w fun e w' => e = .returned (.int .u64 (n64 (sumM a b c))) ∧ w = w' := by
  go_enter Try.func10, Try.ntmps10
  go_wp2_with fail
  refine (plus_any a b w).mono ?_
  rintro e w' ⟨rfl, rfl⟩
  go_wp2_with fail
  refine (less_any c (a + b) w).mono ?_
  rintro e w' ⟨rfl, rfl⟩
  go_wp2_with fail
  refine (select_any _ c (a + b) w).mono ?_
  rintro e w' ⟨rfl, rfl⟩
  go_wp2
  go_ret
  exact ⟨ret_int (by rw [sum_eq]), rfl⟩
theorem rest_any (a b : BitVec 64) (w : World) :
    Calls Try.prog 12 #[.int .u64 (n64 a), .int .u64 (n64 b)] w fun e w' => e = .returned (.int .u64 (n64 (restM a b))) ∧ w = w' := by
  go_enter Try.func12, Try.ntmps12
  go_wp2_with fail
  refine (less_any a b w).mono ?_
  rintro e w' ⟨rfl, rfl⟩
  go_wp2
  go_ret
  exact ⟨ret_int (by rw [rest_eq]), rfl⟩
theorem next_any (a m c : BitVec 64) (w : World) :
    Calls Try.prog 14 #[.int .u64 (n64 a), .int .u64 (n64 m), .int .u64 (n64 c)] w fun e w' => e = .returned (.int .u64 (n64 (sumM a (m &&& 1#64) c))) ∧ w = w' := by
  go_enter Try.func14, Try.ntmps14
  go_wp2_with fail
  rw [bv_one]
  refine (sum_any a _ c w).mono ?_
  rintro e w' ⟨rfl, rfl⟩
  go_wp2
  go_ret
  exact ⟨rfl, rfl⟩
end Go.Proofs.Ytoobgfammippfaa
