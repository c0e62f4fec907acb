/-
  What the ways of MasksMoves import.
-/
import Derived.Test.YtoplnkpjepejkaaMasksBoth
import Derived.Test.YtoplnkpjepejkaaMaskPlain
import Derived.BigQuiet
import Derived.Deep.QuietTactic
import Derived.IntWalk
