/-
  The walk of dragnetlaw10.CountersPure.
-/
import Derived.Test.YtoobgfammippfaaAwake10
import Derived.Test.YtoobgfammippfaaRef10
namespace Go.Proofs.Ytoobgfammippfaa
open Go.RowKit
set_option maxRecDepth 100000
theorem countersPure_walk {w : World} (a b c : BitVec 64) : Calls Try.prog 3 #[.int .u64 (n64 a), .int .u64 (n64 b), .int .u64 (n64 c)] w (BoolNew true w) := by
  go_enter Try.func3, Try.ntmps3
  go_wp2_with fail
  refine (sum_any a b c w).mono ?_
  rintro e w' ⟨rfl, rfl⟩
  go_wp2_with fail
  refine (rsum_any a b c w).mono ?_
  rintro e w' ⟨rfl, rfl⟩
  go_wp2_with fail
  refine (rest_any a b w).mono ?_
  rintro e w' ⟨rfl, rfl⟩
  go_wp2_with fail
  refine (rrest_any a b w).mono ?_
  rintro e w' ⟨rfl, rfl⟩
  go_wp2_with fail
  refine (next_any a b c w).mono ?_
  rintro e w' ⟨rfl, rfl⟩
  go_wp2_with fail
  refine (rnext_any a b c w).mono ?_
  rintro e w' ⟨rfl, rfl⟩
  go_wp2_with fail
  refine (awake_ok w).mono ?_
  rintro e w' ⟨rfl, ho⟩
  have HO := Lib.hid ho
  clear ho
  go_wp2
  go_ret
  exact ⟨rfl, HO.out⟩
end Go.Proofs.Ytoobgfammippfaa
