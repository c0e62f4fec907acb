/-
  What engine.Setup and Byte ask (their functions without names).
-/
import Derived.Test.YtkflicifngohcaaGreatDoorJ25
import Derived.Test.YtkflicifngohcaaGreatDoorJ27
import Derived.Test.YtkflicifngohcaaGreatDoorJ33
namespace Go.Proofs.YtkflicifngohcaaGreatDoor
open Go.RowKit
set_option linter.unusedVariables false
set_option linter.unusedSimpArgs false
set_option maxRecDepth 100000
/-- The set of the example. -/
structure ExSet (w : World) (VI VT VS VF : Value) : Prop where
  i : Rd w (fun _ => True) 1 VI 2 [.int .i64 5, .int .i64 9]
  t : Rd w (fun _ => True) 1 VT 256 (tabV 256)
  s : Rd w (fun _ => True) 1 VS 1 [.int .u64 5]
  f : Rd w (fun _ => True) 1 VF 2 [.int .u64 2, .int .u64 4]
  ct : CapOk VT
  cf : CapOk VF
theorem ExSet.keep {w w' : World} {VI VT VS VF : Value} (h : ExSet w VI VT VS VF) (o : Off Nob w w') : ExSet w' VI VT VS VF := ⟨h.i.keepT o, h.t.keepT o, h.s.keepT o, h.f.keepT o, h.ct, h.cf⟩
set_option maxHeartbeats 1000000 in
theorem nask_setup (l : Lay) (h1 : l.a = 1) (h2 : l.b = 2) (w : World) (gs gl : Nat) (VI VT VS VF : Value) (h : ExSet w VI VT VS VF) (hs : Blk w gs 25 #[VI, .int .i64 1, VT, VS, VF]) (hl : Blk w gl 33 l.cells) (hZ : TzT w) :
    Calls Tryz.prog 41 #[.pointer (some ⟨gs, 0, none⟩), .pointer (some ⟨gl, 0, none⟩)] w (RetV w (.int .i64 0)) := by
  have HP := Lib.hid (tCheck_ex w VI VT VS VF h.i h.t h.s h.f h.ct h.cf hZ)
  obtain ⟨AI, ci, rfl, _⟩ := h.i.form
  obtain ⟨AT, ct, rfl, _⟩ := h.t.form
  obtain ⟨AS, cs, rfl, _⟩ := h.s.form
  obtain ⟨AF, cf, rfl, _⟩ := h.f.form
  obtain ⟨a, b, t, s, f, st, n, hh⟩ := l
  simp only at h1 h2
  subst h1 h2
  unfold Lay.cells at hl
  have HS := Lib.hid hs
  have HL := Lib.hid hl
  clear h hZ hs hl
  have s0 := HS.out.cell 0
  have s1 := HS.out.cell 1
  have s2 := HS.out.cell 2
  have s3 := HS.out.cell 3
  have s4 := HS.out.cell 4
  go_enter Tryz.func41, Tryz.ntmps41
  go_wp2_with fail
  refine HP.out.mono ?_
  rintro e w1 ⟨rfl, o1⟩
  clear s0 s1 s2 s3 s4
  have s0 := (HS.out.to (o1.block _ HS.out.lt id)).cell 0
  have s1 := (HS.out.to (o1.block _ HS.out.lt id)).cell 1
  have l0 := (HL.out.to (o1.block _ HL.out.lt id)).cell 0
  have l1 := (HL.out.to (o1.block _ HL.out.lt id)).cell 1
  have HO := Lib.hid o1
  clear o1
  go_wp2_with fail
  go_ret
  exact ⟨rfl, HO.out⟩
theorem nask_byte (m : BitVec 64) (hm : isM m = true) (w : World) (g : Nat) (h : w.cell? ⟨g, 0, none⟩ = some (.int .u64 (n64 m))) :
    Calls Tryz.prog 45 #[.pointer (some ⟨g, 0, none⟩)] w (RetV w (.int .i64 0)) := by
  have HI := Lib.hid (is_any m w)
  rw [hm] at HI
  go_enter Tryz.func45, Tryz.ntmps45
  go_wp2_with fail
  refine HI.out.mono ?_
  rintro e w1 ⟨rfl, rfl⟩
  go_wp2_with fail
  go_ret
  exact ⟨rfl, Off.refl _ _⟩
theorem nask_none (w : World) : Calls Tryz.prog 54 #[] w (RetV w (.int .i64 0)) := by
  refine (nnothing w).mono ?_
  rintro e w' ⟨rfl, rfl⟩
  exact ⟨rfl, Off.refl _ _⟩
end Go.Proofs.YtkflicifngohcaaGreatDoor
