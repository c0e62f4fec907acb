/-
  dragnetlaw21.EngineSteps returns true.
-/
import Derived.Test.YtkflicifngohcaaGreatDoorJ38
namespace Go.Proofs.YtkflicifngohcaaGreatDoor
open Go.RowKit
set_option linter.unusedVariables false
set_option maxRecDepth 100000
theorem engineSteps_walk {w : World} (hZ : TzT w) (a : Int) (ha : -9223372036854775808 ≤ a ∧ a ≤ 9223372036854775807) (b : Int) (hb : -9223372036854775808 ≤ b ∧ b ≤ 9223372036854775807) :
    Calls Tryz.prog 5 #[.int .i64 a, .int .i64 b] w fun e w' => e = .returned (.bool true) ∧ Off Nob w w' := by
  have HS := Lib.hid (shown_true w hZ)
  have HN : Hid (∃ x y z : Int, (Calls Tryz.prog 27 #[.int .i64 a, .int .i64 b] w fun e w' => e = .returned (.tuple #[.int .i64 x, .int .i64 y, .int .i64 z]) ∧ w = w') ∧ (Calls Tryz.prog 28 #[.int .i64 a, .int .i64 b] w fun e w' => e = .returned (.tuple #[.int .i64 x, .int .i64 y, .int .i64 z]) ∧ w = w')) := Lib.hid (by
    by_cases h : 1 ≤ a ∧ a ≤ 4 ∧ 1 ≤ b ∧ b ≤ 16
    · obtain ⟨h0, h1, h2, h3⟩ := h
      exact ⟨_, _, _, nsteps_yes a b h0 h1 h2 h3 w, rsteps_yes a b h0 h1 h2 h3 w⟩
    · exact ⟨_, _, _, nsteps_no a b h w, rsteps_no a b h w⟩)
  clear hZ ha hb
  obtain ⟨x, y, z, h1, h2⟩ := HN.out
  have H1 := Lib.hid h1
  have H2 := Lib.hid h2
  clear h1 h2 HN
  go_enter Tryz.func5, Tryz.ntmps5
  go_wp2_with fail
  refine H1.out.mono ?_
  rintro e w' ⟨rfl, rfl⟩
  go_wp2_with fail
  refine H2.out.mono ?_
  rintro e w' ⟨rfl, rfl⟩
  go_wp2_with fail
  refine HS.out.mono ?_
  rintro e w' ⟨rfl, o⟩
  have HO := Lib.hid o
  clear o
  go_wp2_with fail
  go_ret
  exact ⟨rfl, HO.out⟩
end Go.Proofs.YtkflicifngohcaaGreatDoor
