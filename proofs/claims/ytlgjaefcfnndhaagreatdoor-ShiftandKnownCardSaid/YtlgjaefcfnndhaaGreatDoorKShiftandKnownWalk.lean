/-
 ShiftandKnown: its walk (in the text of what all laws of shiftand's share).
-/
import Derived.Test.YtlgjaefcfnndhaaGreatDoorK49
set_option linter.unusedVariables false
set_option linter.unusedSimpArgs false
