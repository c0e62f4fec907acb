/-
  masks.Of, masks.Is, masks.Select, compare.Less: their contracts.
-/
import Derived.Test.YtdgehacbpjgmcaaRows
import Derived.Test.YtdgehacbpjgmcaaWords
import Derived.Test.YtdgehacbpjgmcaaMem
namespace Go.Proofs.Ytdgehacbpjgmcaa
open Go.RowKit
attribute [local go_sem] bits_and_u64 bits_or_u64 bits_xor_u64 bits_andNot_u64 wrap_u64 bv_add bv_neg bv_sub bv_mul
set_option maxRecDepth 100000
theorem spread_any (a : BitVec 64) (w : World) :
    Calls Try.prog 68 #[.int .u64 (n64 a)] w fun e w' => e = .returned (.int .u64 (n64 (ofM a))) ∧ w = w' := by
  go_enter Try.func68, Try.ntmps68
  go_wp2
  go_ret
  exact ⟨ret_int (by rw [bv_one, of_eq]), rfl⟩
theorem of_any (a : BitVec 64) (w : World) :
    Calls Try.prog 63 #[.int .u64 (n64 a)] w fun e w' => e = .returned (.int .u64 (n64 (ofM a))) ∧ w = w' := by
  go_enter Try.func63, Try.ntmps63
  go_wp2_with fail
  refine (spread_any a w).mono ?_
  rintro e w' ⟨rfl, rfl⟩
  go_wp2
  go_ret
  exact ⟨rfl, rfl⟩
theorem is_any (a : BitVec 64) (w : World) :
    Calls Try.prog 85 #[.int .u64 (n64 a)] w fun e w' => e = .returned (.bool (isM a)) ∧ w = w' := by
  have HI := Lib.hid (show (n64 a == n64 (ofM a)) = isM a from by rw [isM_iff, n64_beq, Bool.eq_iff_iff]; simp)
  go_enter Try.func85, Try.ntmps85
  go_wp2_with fail
  refine (of_any a w).mono ?_
  rintro e w' ⟨rfl, rfl⟩
  go_wp2
  go_ret
  exact ⟨ret_bool HI.out, rfl⟩
theorem select_any (m a b : BitVec 64) (w : World) :
    Calls Try.prog 51 #[.int .u64 (n64 m), .int .u64 (n64 a), .int .u64 (n64 b)] w fun e w' => e = .returned (.int .u64 (n64 (selM m a b))) ∧ w = w' := by
  go_enter Try.func51, Try.ntmps51
  go_wp2
  go_ret
  exact ⟨rfl, rfl⟩
theorem borrow_any (a b : BitVec 64) (w : World) :
    Calls Try.prog 49 #[.int .u64 (n64 a), .int .u64 (n64 b)] w fun e w' => e = .returned (.int .u64 (n64 ((~~~ a &&& b) ||| ((~~~ a ||| b) &&& (a - b))))) ∧ w = w' := by
  go_enter Try.func49, Try.ntmps49
  go_wp2
  go_ret
  exact ⟨ret_int (by rw [bv_max, inv_eq]), rfl⟩
theorem order_less (a b : BitVec 64) (w : World) :
    Calls Try.prog 48 #[.func (.func 49) #[] #[], .int .u64 (n64 a), .int .u64 (n64 b)] w fun e w' => e = .returned (.int .u64 (n64 (ltM a b))) ∧ w = w' := by
  go_enter Try.func48, Try.ntmps48
  go_wp2_with fail
  refine (borrow_any a b w).mono ?_
  rintro e w' ⟨rfl, rfl⟩
  go_wp2_with fail
  rw [n64_shr63]
  refine (of_any _ w).mono ?_
  rintro e w' ⟨rfl, rfl⟩
  go_wp2
  go_ret
  exact ⟨ret_int (by rw [borrow_shr]), rfl⟩
theorem less_any (a b : BitVec 64) (w : World) :
    Calls Try.prog 20 #[.int .u64 (n64 a), .int .u64 (n64 b)] w fun e w' => e = .returned (.int .u64 (n64 (ltM a b))) ∧ w = w' := by
  go_enter Try.func20, Try.ntmps20
  go_wp2_with fail
  refine (order_less a b w).mono ?_
  rintro e w' ⟨rfl, rfl⟩
  go_wp2
  go_ret
  exact ⟨rfl, rfl⟩
end Go.Proofs.Ytdgehacbpjgmcaa
