/-
  masks.Of, masks.Is, masks.Select, compare.Less: their contracts.
-/
import Derived.Test.YtlefjlclhmapaaaRows
import Derived.Test.YtlefjlclhmapaaaWords
import Derived.Test.YtlefjlclhmapaaaMem
namespace Go.Proofs.Ytlefjlclhmapaaa
open Go.RowKit
attribute [local go_sem] bits_and_u64 bits_or_u64 bits_xor_u64 bits_andNot_u64 wrap_u64 bv_add bv_neg bv_sub bv_mul
set_option maxRecDepth 100000
theorem spread_any (a : BitVec 64) (w : World) :
    Calls Try.prog 71 #[.int .u64 (n64 a)] w fun e w' => e = .returned (.int .u64 (n64 (ofM a))) ∧ w = w' := by
  go_enter Try.func71, Try.ntmps71
  go_wp2
  go_ret
  exact ⟨ret_int (by rw [bv_one, of_eq]), rfl⟩
theorem of_any (a : BitVec 64) (w : World) :
    Calls Try.prog 68 #[.int .u64 (n64 a)] w fun e w' => e = .returned (.int .u64 (n64 (ofM a))) ∧ w = w' := by
  go_enter Try.func68, Try.ntmps68
  go_wp2_with fail
  refine (spread_any a w).mono ?_
  rintro e w' ⟨rfl, rfl⟩
  go_wp2
  go_ret
  exact ⟨rfl, rfl⟩
theorem select_any (m a b : BitVec 64) (w : World) :
    Calls Try.prog 67 #[.int .u64 (n64 m), .int .u64 (n64 a), .int .u64 (n64 b)] w fun e w' => e = .returned (.int .u64 (n64 (selM m a b))) ∧ w = w' := by
  go_enter Try.func67, Try.ntmps67
  go_wp2
  go_ret
  exact ⟨rfl, rfl⟩
end Go.Proofs.Ytlefjlclhmapaaa
