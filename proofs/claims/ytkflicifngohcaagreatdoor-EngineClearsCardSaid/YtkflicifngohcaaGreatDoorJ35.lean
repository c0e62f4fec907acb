/-
  The functions that engine.Setup, Byte and Clear defer: they hand the machine's error over.
-/
import Derived.Test.YtkflicifngohcaaGreatDoorJ17
import Derived.Defers
namespace Go.Proofs.YtkflicifngohcaaGreatDoor
open Go.RowKit
set_option linter.unusedVariables false
set_option maxRecDepth 100000
theorem ndefer_setup (g c r : Nat) (u : FrameMode) (cs : Array Value) (w : World) (hc : w.cell? ⟨c, 0, none⟩ = some (.pointer (some ⟨g, 0, none⟩))) (hg : Blk w g 112 cs) (h9 : cs[9]? = some (.int .i64 0)) (hr : Blk w r 29 #[.int .i64 0]) :
    CallsD Tryz.prog 43 #[.pointer (some ⟨c, 0, none⟩), .pointer (some ⟨r, 0, none⟩)] u w fun e u' w' => u' = u ∧ e = .returned (.tuple #[]) ∧ Off Nob w w' ∧ w' = w.setCell ⟨r, 0, none⟩ (.int .i64 0) := by
  have c9 : w.cell? ⟨g, 9, none⟩ = some (.int .i64 0) := (hg.cell 9).trans h9
  have c0 := hg.cell 0
  have r0 : w.cell? ⟨r, 0, none⟩ = some (.int .i64 0) := hr.cell 0
  have fr := hr.frozen 0
  have HO := Lib.hid (off_same (i := 0) (u := .int .i64 0) hr rfl)
  clear hg h9 hr
  go_enter_d Tryz.func43, Tryz.ntmps43
  go_wp2
  go_end0
  exact ⟨rfl, HO.out, rfl⟩
theorem ndefer_byte (g c r : Nat) (u : FrameMode) (cs : Array Value) (w : World) (hc : w.cell? ⟨c, 0, none⟩ = some (.pointer (some ⟨g, 0, none⟩))) (hg : Blk w g 112 cs) (h9 : cs[9]? = some (.int .i64 0)) (hr : Blk w r 29 #[.int .i64 0]) :
    CallsD Tryz.prog 47 #[.pointer (some ⟨c, 0, none⟩), .pointer (some ⟨r, 0, none⟩)] u w fun e u' w' => u' = u ∧ e = .returned (.tuple #[]) ∧ Off Nob w w' ∧ w' = w.setCell ⟨r, 0, none⟩ (.int .i64 0) := by
  have c9 : w.cell? ⟨g, 9, none⟩ = some (.int .i64 0) := (hg.cell 9).trans h9
  have c0 := hg.cell 0
  have r0 : w.cell? ⟨r, 0, none⟩ = some (.int .i64 0) := hr.cell 0
  have fr := hr.frozen 0
  have HO := Lib.hid (off_same (i := 0) (u := .int .i64 0) hr rfl)
  clear hg h9 hr
  go_enter_d Tryz.func47, Tryz.ntmps47
  go_wp2
  go_end0
  exact ⟨rfl, HO.out, rfl⟩
theorem ndefer_clear (g c r : Nat) (u : FrameMode) (cs : Array Value) (w : World) (hc : w.cell? ⟨c, 0, none⟩ = some (.pointer (some ⟨g, 0, none⟩))) (hg : Blk w g 112 cs) (h9 : cs[9]? = some (.int .i64 0)) (hr : Blk w r 29 #[.int .i64 0]) :
    CallsD Tryz.prog 55 #[.pointer (some ⟨c, 0, none⟩), .pointer (some ⟨r, 0, none⟩)] u w fun e u' w' => u' = u ∧ e = .returned (.tuple #[]) ∧ Off Nob w w' ∧ w' = w.setCell ⟨r, 0, none⟩ (.int .i64 0) := by
  have c9 : w.cell? ⟨g, 9, none⟩ = some (.int .i64 0) := (hg.cell 9).trans h9
  have c0 := hg.cell 0
  have r0 : w.cell? ⟨r, 0, none⟩ = some (.int .i64 0) := hr.cell 0
  have fr := hr.frozen 0
  have HO := Lib.hid (off_same (i := 0) (u := .int .i64 0) hr rfl)
  clear hg h9 hr
  go_enter_d Tryz.func55, Tryz.ntmps55
  go_wp2
  go_end0
  exact ⟨rfl, HO.out, rfl⟩
end Go.Proofs.YtkflicifngohcaaGreatDoor
