/-
  dragnetlaw21.EngineKnown returns true.
-/
import Derived.Test.YtkflicifngohcaaGreatDoorJ38
namespace Go.Proofs.YtkflicifngohcaaGreatDoor
open Go.RowKit
set_option linter.unusedVariables false
set_option maxRecDepth 100000
theorem engineKnown_walk {w : World} (hZ : TzT w) : Calls Tryz.prog 8 #[] w fun e w' => e = .returned (.bool true) ∧ Off Nob w w' := by
  have HS := Lib.hid (shown_true w hZ)
  go_enter Tryz.func8, Tryz.ntmps8
  go_wp2_with fail
  refine HS.out.mono ?_
  rintro e w' ⟨rfl, o⟩
  have HO := Lib.hid o
  clear o
  go_wp2_with fail
  go_ret
  exact ⟨rfl, HO.out⟩
end Go.Proofs.YtkflicifngohcaaGreatDoor
