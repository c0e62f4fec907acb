/-
  masks.Of, masks.Is, masks.Select, compare.Less: their contracts.
-/
import Derived.Test.YtonkhgmfeakbcaaRows
import Derived.Test.YtonkhgmfeakbcaaWords
import Derived.Test.YtonkhgmfeakbcaaMem
namespace Go.Proofs.Ytonkhgmfeakbcaa
open Go.RowKit
attribute [local go_sem] bits_and_u64 bits_or_u64 bits_xor_u64 bits_andNot_u64 wrap_u64 bv_add bv_neg bv_sub bv_mul
set_option maxRecDepth 100000
theorem spread_any (a : BitVec 64) (w : World) :
    Calls Try.prog 58 #[.int .u64 (n64 a)] w fun e w' => e = .returned (.int .u64 (n64 (ofM a))) ∧ w = w' := by
  go_enter Try.func58, Try.ntmps58
  go_wp2
  go_ret
  exact ⟨ret_int (by rw [bv_one, of_eq]), rfl⟩
theorem of_any (a : BitVec 64) (w : World) :
    Calls Try.prog 36 #[.int .u64 (n64 a)] w fun e w' => e = .returned (.int .u64 (n64 (ofM a))) ∧ w = w' := by
  go_enter Try.func36, Try.ntmps36
  go_wp2_with fail
  refine (spread_any a w).mono ?_
  rintro e w' ⟨rfl, rfl⟩
  go_wp2
  go_ret
  exact ⟨rfl, rfl⟩
theorem is_any (a : BitVec 64) (w : World) :
    Calls Try.prog 40 #[.int .u64 (n64 a)] w fun e w' => e = .returned (.bool (isM a)) ∧ w = w' := by
  have HI := Lib.hid (show (n64 a == n64 (ofM a)) = isM a from by rw [isM_iff, n64_beq, Bool.eq_iff_iff]; simp)
  go_enter Try.func40, Try.ntmps40
  go_wp2_with fail
  refine (of_any a w).mono ?_
  rintro e w' ⟨rfl, rfl⟩
  go_wp2
  go_ret
  exact ⟨ret_bool HI.out, rfl⟩
end Go.Proofs.Ytonkhgmfeakbcaa
