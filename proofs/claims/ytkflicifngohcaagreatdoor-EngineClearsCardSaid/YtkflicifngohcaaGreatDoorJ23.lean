/-
  Maps whose keys are spots: the law of the key's type, and which key a spot is.
-/
import Derived.Test.YtkflicifngohcaaGreatDoorJ16
import Derived.DeepKeys4
import Derived.Maps.Keyed
import Derived.Maps.OwnSet
namespace Go.Proofs.YtkflicifngohcaaGreatDoor
open Go.RowKit Go.Maps
set_option linter.unusedVariables false
set_option maxRecDepth 100000
theorem Tryz.laidOut : laidOutB Tryz.prog = true := by kernel_rfl
theorem Tryz.rowSp : 233 < Tryz.prog.types.size := of_decide_eq_true (by kernel_rfl)
theorem spotLaw : WideMaps.KeyLaw Tryz.prog 233 := deep_law_laid Tryz.laidOut (m := 2) (by omega) Tryz.rowSp (by kernel_rfl) (by kernel_rfl)
theorem spotKeyed : Keyed Tryz.prog 233 := Keyed.of_law spotLaw
end Go.Proofs.YtkflicifngohcaaGreatDoor
