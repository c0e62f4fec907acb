/-
 The library's table, out of what a row lists; a world in which it is laid.
-/
import Derived.Test.YtkflicifngohcaaGreatDoorTie
import Derived.Test.YtkflicifngohcaaGreatDoorM13
import Derived.Test.YtkflicifngohcaaGreatDoorM41
import Derived.Lib.LaidU8
import Derived.Lay
import Derived.LaidHandle
import Derived.MakeChecks
import Derived.ChangeVars
import Derived.LaidOnce
import Derived.SevenTiedAt
set_option linter.unusedVariables false
set_option linter.unusedSimpArgs false
namespace Go.Proofs.YtkflicifngohcaaGreatDoor
open Go.RowKit
set_option maxRecDepth 100000
abbrev laidTab : List (String × DataW Unit) := [("math/bits.deBruijn64tab", Rows.laid_math_bits_deBruijn64tab)]
theorem tab_named : Tryz.prog.globalNamed "math/bits.deBruijn64tab" = some 0 := by kernel_rfl
theorem tab_type : (Tryz.prog.globals[0]?).map (·.type) = some 262 := by kernel_rfl
theorem tab_data : (Rows.laid_math_bits_deBruijn64tab : DataW Unit) = Lib.tabData .u8 (Lib.deBruijn64tab.map fun n : Nat => (n : Int)) := by kernel_rfl
theorem tzt_of {W : World} (hL : laidMetH Tryz.prog laidTab W) : TzT W := by
 rw [MakeChecks.laidMetH_plain _ _ _ (by kernel_rfl)] at hL
 obtain ⟨g, t, cs, fuel, p, hg, hty, hvar, hd⟩ := Lib.laidMet.reads hL (List.mem_singleton.2 rfl)
 obtain rfl := Option.some.inj (tab_named.symm.trans hg)
 obtain rfl := Option.some.inj (tab_type.symm.trans hty)
 rw [tab_data] at hd
 have hcs := Lib.cells_of_tab Tryz.underlying262 Tryz.underlying5 (by kernel_rfl) (by kernel_rfl) hd
 have hT : TabAt 0 Lib.deBruijn64tab W := fun j hj => by
  rw [World.var?_cell hg hvar j, ← Array.getElem?_toList, hcs]
  simp [hj]
 refine ⟨hT, ?_⟩
 have h0 := hT 0 (by decide)
 refine Nat.pos_of_ne_zero fun e => ?_
 unfold World.cell? at h0
 have : W.heap[0]? = none := by simp [e]
 rw [this] at h0
 cases h0
end Go.Proofs.YtkflicifngohcaaGreatDoor
