/-
 The functions that engine.Setup, Byte and Clear defer: they hand the machine's error over.
-/
import Derived.Test.YtkflicifngohcaaGreatDoorM11
import Derived.Defers
import Derived.Test.YtkflicifngohcaaGreatDoorM20
import Derived.Test.YtkflicifngohcaaGreatDoorM21
import Derived.Deep.RegionHeld3
set_option linter.unusedVariables false
set_option linter.unusedSimpArgs false
namespace Go.Proofs.YtkflicifngohcaaGreatDoor
open Go.RowKit
set_option maxRecDepth 100000
theorem ndefer_setup (g c r : Nat) (u : FrameMode) (cs : Array Value) (w : World) (hc : w.cell? ⟨c, 0, none⟩ = some (.pointer (some ⟨g, 0, none⟩))) (hg : Blk w g 112 cs) (h9 : cs[9]? = some (.int .i64 0)) (hr : Blk w r 29 #[.int .i64 0]) :
  CallsD Tryz.prog 43 #[.pointer (some ⟨c, 0, none⟩), .pointer (some ⟨r, 0, none⟩)] u w fun e u' w' => u' = u ∧ e = .returned (.tuple #[]) ∧ Off Nob w w' ∧ w' = w.setCell ⟨r, 0, none⟩ (.int .i64 0) := by
 have c9 : w.cell? ⟨g, 9, none⟩ = some (.int .i64 0) := (hg.cell 9).trans h9
 have c0 := hg.cell 0
 have r0 : w.cell? ⟨r, 0, none⟩ = some (.int .i64 0) := hr.cell 0
 have fr := hr.frozen 0
 have HO := hID (off_same (i := 0) (u := .int .i64 0) hr rfl)
 clear hg h9 hr
 go_enter_d Tryz.func43, Tryz.ntmps43
 go_wp2
 go_end0
 exact ⟨rfl, HO.out, rfl⟩
theorem ndefer_byte (g c r : Nat) (u : FrameMode) (cs : Array Value) (w : World) (hc : w.cell? ⟨c, 0, none⟩ = some (.pointer (some ⟨g, 0, none⟩))) (hg : Blk w g 112 cs) (h9 : cs[9]? = some (.int .i64 0)) (hr : Blk w r 29 #[.int .i64 0]) :
  CallsD Tryz.prog 47 #[.pointer (some ⟨c, 0, none⟩), .pointer (some ⟨r, 0, none⟩)] u w fun e u' w' => u' = u ∧ e = .returned (.tuple #[]) ∧ Off Nob w w' ∧ w' = w.setCell ⟨r, 0, none⟩ (.int .i64 0) := by
 have c9 : w.cell? ⟨g, 9, none⟩ = some (.int .i64 0) := (hg.cell 9).trans h9
 have c0 := hg.cell 0
 have r0 : w.cell? ⟨r, 0, none⟩ = some (.int .i64 0) := hr.cell 0
 have fr := hr.frozen 0
 have HO := hID (off_same (i := 0) (u := .int .i64 0) hr rfl)
 clear hg h9 hr
 go_enter_d Tryz.func47, Tryz.ntmps47
 go_wp2
 go_end0
 exact ⟨rfl, HO.out, rfl⟩
theorem ndefer_clear (g c r : Nat) (u : FrameMode) (cs : Array Value) (w : World) (hc : w.cell? ⟨c, 0, none⟩ = some (.pointer (some ⟨g, 0, none⟩))) (hg : Blk w g 112 cs) (h9 : cs[9]? = some (.int .i64 0)) (hr : Blk w r 29 #[.int .i64 0]) :
  CallsD Tryz.prog 55 #[.pointer (some ⟨c, 0, none⟩), .pointer (some ⟨r, 0, none⟩)] u w fun e u' w' => u' = u ∧ e = .returned (.tuple #[]) ∧ Off Nob w w' ∧ w' = w.setCell ⟨r, 0, none⟩ (.int .i64 0) := by
 have c9 : w.cell? ⟨g, 9, none⟩ = some (.int .i64 0) := (hg.cell 9).trans h9
 have c0 := hg.cell 0
 have r0 : w.cell? ⟨r, 0, none⟩ = some (.int .i64 0) := hr.cell 0
 have fr := hr.frozen 0
 have HO := hID (off_same (i := 0) (u := .int .i64 0) hr rfl)
 clear hg h9 hr
 go_enter_d Tryz.func55, Tryz.ntmps55
 go_wp2
 go_end0
 exact ⟨rfl, HO.out, rfl⟩
end Go.Proofs.YtkflicifngohcaaGreatDoor

namespace Go.Proofs.YtkflicifngohcaaGreatDoor
open Go.RowKit
set_option maxRecDepth 100000
structure ExSet (w : World) (VI VT VS VF : Value) : Prop where
 i : Rd w (fun _ => True) 1 VI 2 [.int .i64 5, .int .i64 9]
 t : Rd w (fun _ => True) 1 VT 256 (tabV 256)
 s : Rd w (fun _ => True) 1 VS 1 [.int .u64 5]
 f : Rd w (fun _ => True) 1 VF 2 [.int .u64 2, .int .u64 4]
 ct : CapOk VT
 cf : CapOk VF
theorem ExSet.keep {w w' : World} {VI VT VS VF : Value} (h : ExSet w VI VT VS VF) (o : Off Nob w w') : ExSet w' VI VT VS VF := ⟨h.i.keepT o, h.t.keepT o, h.s.keepT o, h.f.keepT o, h.ct, h.cf⟩
set_option maxHeartbeats 1000000 in
theorem nask_setup (l : Lay) (h1 : l.a = 1) (h2 : l.b = 2) (w : World) (gs gl : Nat) (VI VT VS VF : Value) (h : ExSet w VI VT VS VF) (hs : Blk w gs 25 #[VI, .int .i64 1, VT, VS, VF]) (hl : Blk w gl 33 l.cells) (hZ : TzT w) :
  Calls Tryz.prog 41 #[.pointer (some ⟨gs, 0, none⟩), .pointer (some ⟨gl, 0, none⟩)] w (RetV w (.int .i64 0)) := by
 have HP := hID (tCheck_ex w VI VT VS VF h.i h.t h.s h.f h.ct h.cf hZ)
 obtain ⟨AI, ci, rfl, _⟩ := h.i.form
 obtain ⟨AT, ct, rfl, _⟩ := h.t.form
 obtain ⟨AS, cs, rfl, _⟩ := h.s.form
 obtain ⟨AF, cf, rfl, _⟩ := h.f.form
 obtain ⟨a, b, t, s, f, st, n, hh⟩ := l
 simp only at h1 h2
 subst h1 h2
 unfold Lay.cells at hl
 have HS := hID hs
 have HL := hID hl
 clear h hZ hs hl
 have s0 := HS.out.cell 0
 have s1 := HS.out.cell 1
 have s2 := HS.out.cell 2
 have s3 := HS.out.cell 3
 have s4 := HS.out.cell 4
 go_enter Tryz.func41, Tryz.ntmps41
 go_wp2_with fail
 refine HP.out.mono ?_
 rintro e w1 ⟨rfl, o1⟩
 clear s0 s1 s2 s3 s4
 have s0 := (HS.out.to (o1.block _ HS.out.lt id)).cell 0
 have s1 := (HS.out.to (o1.block _ HS.out.lt id)).cell 1
 have l0 := (HL.out.to (o1.block _ HL.out.lt id)).cell 0
 have l1 := (HL.out.to (o1.block _ HL.out.lt id)).cell 1
 have HO := hID o1
 clear o1
 go_wp2_with fail
 go_ret
 exact ⟨rfl, HO.out⟩
theorem nask_byte (m : BitVec 64) (hm : isM m = true) (w : World) (g : Nat) (h : w.cell? ⟨g, 0, none⟩ = some (.int .u64 (n64 m))) :
  Calls Tryz.prog 45 #[.pointer (some ⟨g, 0, none⟩)] w (RetV w (.int .i64 0)) := by
 have HI := hID (is_any m w)
 rw [hm] at HI
 go_enter Tryz.func45, Tryz.ntmps45
 go_wp2_with fail
 refine HI.out.mono ?_
 rintro e w1 ⟨rfl, rfl⟩
 go_wp2_with fail
 go_ret
 exact ⟨rfl, Off.refl _ _⟩
theorem nask_none (w : World) : Calls Tryz.prog 54 #[] w (RetV w (.int .i64 0)) := by
 refine (nnothing w).mono ?_
 rintro e w' ⟨rfl, rfl⟩
 exact ⟨rfl, Off.refl _ _⟩
end Go.Proofs.YtkflicifngohcaaGreatDoor

namespace Go.Proofs.YtkflicifngohcaaGreatDoor
open Go.RowKit
set_option maxRecDepth 100000
def exL : Lay := ⟨1, 2, 0, 256, 257, 259, 260, 261⟩
theorem exL_ok : exL.Ok 263 := ⟨by decide, by decide, by decide, by decide, by decide, by decide⟩
def tabL : List (BitVec 64) := (List.range 256).map fun j => if j = 97 then 5#64 else if j = 98 then 6#64 else 0#64
theorem tabL_len : tabL.length = 256 := by simp [tabL]
theorem tabL_eq : tabL.map (fun u => Value.int .u64 (n64 u)) = tabV 256 := by
 unfold tabL tabV
 rw [List.map_map]
 apply List.map_congr_left
 intro j hj
 have hj2 : j < 256 := by simpa using hj
 simp only [Function.comp, if_pos hj2, rowB]
 split
 ·rfl
 ·split <;> rfl
def exC (C : List (BitVec 64)) : List (BitVec 64) := setL (setL (setL (setL C 0 tabL) 256 [5]) 257 [2, 4]) 259 [0]
def exE : List Ev := putE 0 256 ++ putE 256 1 ++ putE 257 2 ++ putE 259 1
section
variable {w w0 w1 : World} {F : Nat → Prop} {p : Nat} {C C' : List (BitVec 64)} {E E' : List Ev}
theorem ArTo.pre (h : Ar w F p C E) (o : Off Nob w w0) (k : ArTo w0 F p C' E' w1) : ArTo w F p C' E' w1 :=
 ⟨k.1.mono (fun j hj => hj.elim .inl (fun x => .inr ⟨Nat.le_trans o.size x.1, x.2⟩)) (Grow.lt h.lt (Nat.le_trans o.size k.2.size)), (Off.ofNob o).also k.2⟩
theorem rd_lt {size n : Nat} {v : Value} {xs : List Value} (h : Rd w (fun k => ¬ F k) size v n xs) : Rd w (fun k => ¬ F k ∧ k < w.heap.size) size v n xs := by
 obtain ⟨A, c, rfl, h1, h2, h3⟩ := h
 refine ⟨A, c, rfl, h1, h2, fun hn => ?_⟩
 obtain ⟨b, o, rfl, h4, h5, h6⟩ := h3 hn
 exact ⟨b, o, rfl, ⟨h4, h5⟩, h5, h6⟩
theorem rd_on {size n : Nat} {v : Value} {xs : List Value} (h : Rd w (fun k => ¬ F k ∧ k < w.heap.size) size v n xs) (o : Off F w w1) : Rd w1 (fun k => ¬ Grow F w w1 k) size v n xs :=
 (h.keep o (fun k hk => hk.1)).mono (fun k hk hg => hg.elim hk.1 (fun x => by omega))
end
theorem make_one (W : World) : (Instr.makeSlice 23 (.int .i64 1) (.int .i64 1)).run Tryz.prog W = .ok (.slice (some ⟨W.heap.size, 0, none⟩) 1 1) (W.alloc (.cells #[.int .u64 0] 41)) := by kernel_rfl
set_option maxHeartbeats 4000000 in
theorem nsetup_ex (w : World) (F : Nat → Prop) (p : Nat) (C : List (BitVec 64)) (E : List Ev) (h : Ar w F p C E) (hC : C.length = 263) (hE : E.length + 260 < 8388608) (VI VT VS VF : Value) (hs : ExSet w VI VT VS VF)
  (hT : Rd w (fun k => ¬ F k) 1 VT 256 (tabV 256)) (hS : Rd w (fun k => ¬ F k) 1 VS 1 [.int .u64 5]) (hF : Rd w (fun k => ¬ F k) 1 VF 2 [.int .u64 2, .int .u64 4]) (hZ : TzT w) :
  Calls Tryz.prog 15 #[.pointer (some ⟨p, 0, none⟩), exL.val, .agg #[VI, .int .i64 1, VT, VS, VF]] w fun e w' => e = .returned (.int .i64 0) ∧ ArTo w F p (exC C) (E ++ exE) w' := by
 have hmf : ∀ (fn : Fn) (first cap : Array Value) (w : World), (Instr.makeFunc fn first cap).run Tryz.prog w = .ok (.func fn first cap) w := fun _ _ _ _ => rfl
 have HS0 := hID (And.intro hs hZ)
 have HL := hID (And.intro hT (And.intro hS hF))
 have HA := hID h
 obtain ⟨AI, ci, rfl, _⟩ := hs.i.form
 obtain ⟨AT, ct, rfl, _⟩ := hs.t.form
 obtain ⟨AS, cs, rfl, _⟩ := hs.s.form
 obtain ⟨AF, cf, rfl, _⟩ := hs.f.form
 clear h hs hT hS hF hZ
 unfold exL Lay.val
 simp only
 go_enter_defers Tryz.func15, Tryz.ntmps15
 go_wp2_with fail
 have X0 : Hid (Off Nob w (((w.alloc (.cells #[.int .i64 1, .int .i64 2, .int .i64 0, .int .i64 256, .int .i64 257, .int .i64 259, .int .i64 260, .int .i64 261] 33)).alloc (.cells #[.slice AI 2 ci, .int .i64 1, .slice AT 256 ct, .slice AS 1 cs, .slice AF 2 cf] 25)).alloc (.cells #[.int .i64 0] 29)) ∧ Blk (((w.alloc (.cells #[.int .i64 1, .int .i64 2, .int .i64 0, .int .i64 256, .int .i64 257, .int .i64 259, .int .i64 260, .int .i64 261] 33)).alloc (.cells #[.slice AI 2 ci, .int .i64 1, .slice AT 256 ct, .slice AS 1 cs, .slice AF 2 cf] 25)).alloc (.cells #[.int .i64 0] 29)) w.heap.size 33 #[.int .i64 1, .int .i64 2, .int .i64 0, .int .i64 256, .int .i64 257, .int .i64 259, .int .i64 260, .int .i64 261] ∧ Blk (((w.alloc (.cells #[.int .i64 1, .int .i64 2, .int .i64 0, .int .i64 256, .int .i64 257, .int .i64 259, .int .i64 260, .int .i64 261] 33)).alloc (.cells #[.slice AI 2 ci, .int .i64 1, .slice AT 256 ct, .slice AS 1 cs, .slice AF 2 cf] 25)).alloc (.cells #[.int .i64 0] 29)) (w.heap.size + 1) 25 #[.slice AI 2 ci, .int .i64 1, .slice AT 256 ct, .slice AS 1 cs, .slice AF 2 cf] ∧ Blk (((w.alloc (.cells #[.int .i64 1, .int .i64 2, .int .i64 0, .int .i64 256, .int .i64 257, .int .i64 259, .int .i64 260, .int .i64 261] 33)).alloc (.cells #[.slice AI 2 ci, .int .i64 1, .slice AT 256 ct, .slice AS 1 cs, .slice AF 2 cf] 25)).alloc (.cells #[.int .i64 0] 29)) (w.heap.size + 2) 29 #[.int .i64 0] ∧ (((w.alloc (.cells #[.int .i64 1, .int .i64 2, .int .i64 0, .int .i64 256, .int .i64 257, .int .i64 259, .int .i64 260, .int .i64 261] 33)).alloc (.cells #[.slice AI 2 ci, .int .i64 1, .slice AT 256 ct, .slice AS 1 cs, .slice AF 2 cf] 25)).alloc (.cells #[.int .i64 0] 29)).heap.size = w.heap.size + 3) := hID ⟨(((Off.refl _ _).alloc _).alloc _).alloc _, ((Blk.new _ _ _).alloc _).alloc _, (blk_second _ _ _ _).alloc _, by
  have := Blk.new ((w.alloc (.cells #[.int .i64 1, .int .i64 2, .int .i64 0, .int .i64 256, .int .i64 257, .int .i64 259, .int .i64 260, .int .i64 261] 33)).alloc (.cells #[.slice AI 2 ci, .int .i64 1, .slice AT 256 ct, .slice AS 1 cs, .slice AF 2 cf] 25)) 29 #[.int .i64 0]
  simpa using this, by simp⟩
 revert X0
 generalize (((w.alloc (.cells #[.int .i64 1, .int .i64 2, .int .i64 0, .int .i64 256, .int .i64 257, .int .i64 259, .int .i64 260, .int .i64 261] 33)).alloc (.cells #[.slice AI 2 ci, .int .i64 1, .slice AT 256 ct, .slice AS 1 cs, .slice AF 2 cf] 25)).alloc (.cells #[.int .i64 0] 29)) = w0
 intro X0
 refine (nsteps_yes 1 2 (by decide) (by decide) (by decide) (by decide) _).mono ?_
 rintro e w1 ⟨rfl, rfl⟩
 have c0 := X0.out.2.1.cell 0
 have c1 := X0.out.2.1.cell 1
 have c2 := X0.out.2.1.cell 2
 have c3 := X0.out.2.1.cell 3
 have c4 := X0.out.2.1.cell 4
 have c5 := X0.out.2.1.cell 5
 have c6 := X0.out.2.1.cell 6
 have c7 := X0.out.2.1.cell 7
 have r0 := X0.out.2.2.2.1.cell 0
 have fr := X0.out.2.2.2.1.frozen 0
 go_wp2_with fail
 have HBG := hID (nbegin_setup exL w0 F p C E (HA.out.keep X0.out.1 (fun _ _ hn => hn)) (by rw [hC]; exact exL_ok) 260 (by decide) (by omega) ⟨w.heap.size + 1, 0, none⟩ ⟨w.heap.size, 0, none⟩ (fun W o => nask_setup exL rfl rfl W (w.heap.size + 1) w.heap.size _ _ _ _ (HS0.out.1.keep (X0.out.1.also o)) (X0.out.2.2.1.to (o.block _ X0.out.2.2.1.lt id)) (X0.out.2.1.to (o.block _ X0.out.2.1.lt id)) (tz_keep HS0.out.2 (X0.out.1.also o))))
 refine HBG.out.mono ?_
 rintro e w1 ⟨g, rfl, hg1, hg2, o1⟩
 have X1 := hID (And.intro (X0.out.1.also o1) (And.intro (X0.out.2.1.to (o1.block _ X0.out.2.1.lt id)) (And.intro (X0.out.2.2.1.to (o1.block _ X0.out.2.2.1.lt id)) (And.intro (X0.out.2.2.2.1.to (o1.block _ X0.out.2.2.2.1.lt id)) (And.intro hg2 (And.intro hg1 o1.size))))))
 clear c0 c1 c2 c3 c4 c5 c6 c7 r0 fr HBG hg1 hg2 o1
 have R0 := hID (X1.out.2.2.2.1.alloc (.cells #[.pointer (some ⟨g, 0, none⟩)] 107))
 have hO := (Off.alloc (Off.refl Nob w1) (.cells #[.pointer (some ⟨g, 0, none⟩)] 107)).also (off_same (i := 0) (u := .int .i64 0) R0.out rfl)
 have r0 := R0.out.cell 0
 have fr := R0.out.frozen 0
 have hMV : Blk ((w1.alloc (.cells #[.pointer (some ⟨g, 0, none⟩)] 107)).setCell ⟨w.heap.size + 2, 0, none⟩ (.int .i64 0)) w1.heap.size 107 #[.pointer (some ⟨g, 0, none⟩)] := (Blk.new w1 107 #[.pointer (some ⟨g, 0, none⟩)]).far (by have := X1.out.2.2.2.1.lt; simp; omega) _
 have r0' : ((w1.alloc (.cells #[.pointer (some ⟨g, 0, none⟩)] 107)).setCell ⟨w.heap.size + 2, 0, none⟩ (.int .i64 0)).cell? ⟨w.heap.size + 2, 0, none⟩ = some (.int .i64 0) := (X1.out.2.2.2.1.to (hO.block _ X1.out.2.2.2.1.lt id)).cell 0
 have fr' : ((w1.alloc (.cells #[.pointer (some ⟨g, 0, none⟩)] 107)).setCell ⟨w.heap.size + 2, 0, none⟩ (.int .i64 0)).frozen? ⟨w.heap.size + 2, 0, none⟩ = false := (X1.out.2.2.2.1.to (hO.block _ X1.out.2.2.2.1.lt id)).frozen 0
 have m0 := hMV.cell 0
 have X2 : Hid (Off Nob w ((w1.alloc (.cells #[.pointer (some ⟨g, 0, none⟩)] 107)).setCell ⟨w.heap.size + 2, 0, none⟩ (.int .i64 0)) ∧ Blk ((w1.alloc (.cells #[.pointer (some ⟨g, 0, none⟩)] 107)).setCell ⟨w.heap.size + 2, 0, none⟩ (.int .i64 0)) w.heap.size 33 #[.int .i64 1, .int .i64 2, .int .i64 0, .int .i64 256, .int .i64 257, .int .i64 259, .int .i64 260, .int .i64 261] ∧ Blk ((w1.alloc (.cells #[.pointer (some ⟨g, 0, none⟩)] 107)).setCell ⟨w.heap.size + 2, 0, none⟩ (.int .i64 0)) (w.heap.size + 1) 25 #[.slice AI 2 ci, .int .i64 1, .slice AT 256 ct, .slice AS 1 cs, .slice AF 2 cf] ∧ Blk ((w1.alloc (.cells #[.pointer (some ⟨g, 0, none⟩)] 107)).setCell ⟨w.heap.size + 2, 0, none⟩ (.int .i64 0)) (w.heap.size + 2) 29 #[.int .i64 0] ∧ Blk ((w1.alloc (.cells #[.pointer (some ⟨g, 0, none⟩)] 107)).setCell ⟨w.heap.size + 2, 0, none⟩ (.int .i64 0)) g 112 (macC p exL) ∧ w.heap.size ≤ g ∧ Blk ((w1.alloc (.cells #[.pointer (some ⟨g, 0, none⟩)] 107)).setCell ⟨w.heap.size + 2, 0, none⟩ (.int .i64 0)) w1.heap.size 107 #[.pointer (some ⟨g, 0, none⟩)]) := hID ⟨X1.out.1.also hO, X1.out.2.1.to (hO.block _ X1.out.2.1.lt id), X1.out.2.2.1.to (hO.block _ X1.out.2.2.1.lt id), X1.out.2.2.2.1.to (hO.block _ X1.out.2.2.2.1.lt id), X1.out.2.2.2.2.1.to (hO.block _ X1.out.2.2.2.2.1.lt id), by have := X0.out.1.size; have := X1.out.2.2.2.2.2.1; omega, hMV⟩
 have c0 := X2.out.2.1.cell 0
 have c2 := X2.out.2.1.cell 2
 have s2 := X2.out.2.2.1.cell 2
 clear hO hMV R0
 go_wp2_with fail
 obtain ⟨cb, hcb⟩ : ∃ cb, w1.heap.size = cb := ⟨_, rfl⟩
 have hcb2 : w.heap.size ≤ cb := by rw [← hcb]; exact X1.out.1.size
 rw [hcb] at X2 ⊢
 clear c0 c2 s2 r0 fr r0' fr' m0 hcb X1 X0
 revert X2
 generalize ((w1.alloc (.cells #[.pointer (some ⟨g, 0, none⟩)] 107)).setCell ⟨w.heap.size + 2, 0, none⟩ (.int .i64 0)) = W0
 intro X2
 have hgF : ∀ k, w.heap.size ≤ k → ¬ F k := fun k hk hf => by have := HA.out.lt k hf; omega
 have GC : Hid (∀ W, Off F W0 W → W.cell? ⟨w.heap.size, 0, none⟩ = some (.int .i64 1) ∧ W.cell? ⟨w.heap.size, 2, none⟩ = some (.int .i64 0) ∧ W.cell? ⟨w.heap.size, 3, none⟩ = some (.int .i64 256) ∧ W.cell? ⟨w.heap.size, 4, none⟩ = some (.int .i64 257) ∧ W.cell? ⟨w.heap.size, 5, none⟩ = some (.int .i64 259) ∧ W.cell? ⟨w.heap.size + 1, 2, none⟩ = some (.slice AT 256 ct) ∧ W.cell? ⟨w.heap.size + 1, 3, none⟩ = some (.slice AS 1 cs) ∧ W.cell? ⟨w.heap.size + 1, 4, none⟩ = some (.slice AF 2 cf) ∧ W.cell? ⟨cb, 0, none⟩ = some (.pointer (some ⟨g, 0, none⟩)) ∧ Blk W g 112 (macC p exL) ∧ Blk W (w.heap.size + 2) 29 #[.int .i64 0]) := hID (fun W o => by
  have h1 := X2.out.2.1.to (o.block _ X2.out.2.1.lt (hgF _ (by omega)))
  have h2 := X2.out.2.2.1.to (o.block _ X2.out.2.2.1.lt (hgF _ (by omega)))
  have h3 := X2.out.2.2.2.2.2.2.to (o.block _ X2.out.2.2.2.2.2.2.lt (hgF _ hcb2))
  exact ⟨h1.cell 0, h1.cell 2, h1.cell 3, h1.cell 4, h1.cell 5, h2.cell 2, h2.cell 3, h2.cell 4, h3.cell 0, X2.out.2.2.2.2.1.to (o.block _ X2.out.2.2.2.2.1.lt (hgF _ X2.out.2.2.2.2.2.1)), X2.out.2.2.2.1.to (o.block _ X2.out.2.2.2.1.lt (hgF _ (by omega)))⟩)
 have HG := hID (show g < W0.heap.size ∧ ¬ F g from ⟨X2.out.2.2.2.2.1.lt, hgF _ X2.out.2.2.2.2.2.1⟩)
 have HLT : Hid (Rd W0 (fun k => ¬ F k ∧ k < W0.heap.size) 1 (.slice AT 256 ct) tabL.length (tabL.map fun u => .int .u64 (n64 u))) := hID (by rw [tabL_len, tabL_eq]; exact rd_lt (HL.out.1.keep X2.out.1 (fun _ _ hn => hn)))
 have HLS : Hid (Rd W0 (fun k => ¬ F k ∧ k < W0.heap.size) 1 (.slice AS 1 cs) ([5] : List (BitVec 64)).length (([5] : List (BitVec 64)).map fun u => .int .u64 (n64 u))) := hID (rd_lt (HL.out.2.1.keep X2.out.1 (fun _ _ hn => hn)))
 have HLF : Hid (Rd W0 (fun k => ¬ F k ∧ k < W0.heap.size) 1 (.slice AF 2 cf) ([2, 4] : List (BitVec 64)).length (([2, 4] : List (BitVec 64)).map fun u => .int .u64 (n64 u))) := hID (rd_lt (HL.out.2.2.keep X2.out.1 (fun _ _ hn => hn)))
 have Y0 := hID (ArTo.refl (HA.out.keep X2.out.1 (fun _ _ hn => hn)))
 clear hgF
 have HP1 := hID (nput g p 0 (macC p exL) tabL (C) (E) (Grow F W0 W0) W0 _ Y0.out.1 (GC.out _ Y0.out.2).2.2.2.2.2.2.2.2.2.1 rfl rfl (fun hg => hg.elim HG.out.2 (fun h => by have := HG.out.1; omega)) (rd_on HLT.out Y0.out.2) (by rw [hC, tabL_len]; decide) (by simp [putE, tabL_len]; omega))
 refine Calls.mono (R := fun e w' => e = .returned (.tuple #[]) ∧ ArTo W0 (Grow F W0 W0) p (setL (C) 0 tabL) ((E) ++ putE 0 tabL.length) w') HP1.out ?_
 rintro e v1 ⟨rfl, a1⟩
 have Y1 := hID (Y0.out.trans a1)
 clear a1 Y0 HP1
 obtain ⟨c0, c2, c3, c4, c5, s2, s3, s4, m0, -, -⟩ := GC.out _ Y1.out.2
 go_wp2_with fail
 clear c0 c2 c3 c4 c5 s2 s3 s4 m0
 have HP2 := hID (nput g p 256 (macC p exL) [5] (setL (C) 0 tabL) ((E) ++ putE 0 tabL.length) (Grow F W0 v1) v1 _ Y1.out.1 (GC.out _ Y1.out.2).2.2.2.2.2.2.2.2.2.1 rfl rfl (fun hg => hg.elim HG.out.2 (fun h => by have := HG.out.1; omega)) (rd_on HLS.out Y1.out.2) (by simp only [setL_length]; rw [hC]; decide) (by simp [putE, tabL_len]; omega))
 refine Calls.mono (R := fun e w' => e = .returned (.tuple #[]) ∧ ArTo v1 (Grow F W0 v1) p (setL (setL (C) 0 tabL) 256 [5]) (((E) ++ putE 0 tabL.length) ++ putE 256 1) w') HP2.out ?_
 rintro e v2 ⟨rfl, a1⟩
 have Y2 := hID (Y1.out.trans a1)
 clear a1 Y1 HP2
 obtain ⟨c0, c2, c3, c4, c5, s2, s3, s4, m0, -, -⟩ := GC.out _ Y2.out.2
 go_wp2_with fail
 clear c0 c2 c3 c4 c5 s2 s3 s4 m0
 have HP3 := hID (nput g p 257 (macC p exL) [2, 4] (setL (setL (C) 0 tabL) 256 [5]) (((E) ++ putE 0 tabL.length) ++ putE 256 1) (Grow F W0 v2) v2 _ Y2.out.1 (GC.out _ Y2.out.2).2.2.2.2.2.2.2.2.2.1 rfl rfl (fun hg => hg.elim HG.out.2 (fun h => by have := HG.out.1; omega)) (rd_on HLF.out Y2.out.2) (by simp only [setL_length]; rw [hC]; decide) (by simp [putE, tabL_len]; omega))
 refine Calls.mono (R := fun e w' => e = .returned (.tuple #[]) ∧ ArTo v2 (Grow F W0 v2) p (setL (setL (setL (C) 0 tabL) 256 [5]) 257 [2, 4]) ((((E) ++ putE 0 tabL.length) ++ putE 256 1) ++ putE 257 2) w') HP3.out ?_
 rintro e v3 ⟨rfl, a1⟩
 have Y3 := hID (Y2.out.trans a1)
 clear a1 Y2 HP3
 obtain ⟨c0, c2, c3, c4, c5, s2, s3, s4, m0, -, -⟩ := GC.out _ Y3.out.2
 go_wp2_with fail
 clear c0 c2 c3 c4 c5 s2 s3 s4 m0
 obtain ⟨c0, c2, c3, c4, c5, s2, s3, s4, m0, -, -⟩ := GC.out _ Y3.out.2
 have hms := make_one
 have OV := hID ((Off.alloc (Off.refl Nob v3) (.cells #[.int .u64 0] 41)).drew)
 have HP4 : Hid (∀ V, V = (v3.alloc (.cells #[.int .u64 0] 41)).drew → Calls Tryz.prog 44 #[.pointer (some ⟨g, 0, none⟩), .int .i64 259, .slice (some ⟨v3.heap.size, 0, none⟩) 1 1] V fun e w' => e = .returned (.tuple #[]) ∧ ArTo W0 F p (exC C) (E ++ exE) w') := hID (fun V hV => by
  have o : Off Nob v3 V := by rw [hV]; exact OV.out
  have hb := (GC.out _ Y3.out.2).2.2.2.2.2.2.2.2.2.1
  have hg : ¬ Grow F W0 v3 g := fun hg => hg.elim HG.out.2 (fun h => by have := HG.out.1; omega)
  have hl : Rd V (fun k => ¬ Grow F W0 v3 k) 1 (.slice (some ⟨v3.heap.size, 0, none⟩) 1 1) ([0] : List (BitVec 64)).length (([0] : List (BitVec 64)).map fun u => .int .u64 (n64 u)) := by
   rw [hV]
   exact ⟨_, _, rfl, by decide, rfl, fun _ => ⟨v3.heap.size, 0, rfl, fun h => by have := Y3.out.1.lt _ h; omega, by simp, fun j u hu => by
    rw [Nat.zero_add]
    exact ((Blk.new v3 41 #[.int .u64 0]).cell j).trans (by have e0 : n64 0#64 = 0 := rfl; simpa [e0] using hu)⟩⟩
  refine (nput g p 259 (macC p exL) [0] _ _ (Grow F W0 v3) V _ (Y3.out.1.keep o (fun _ _ hn => hn)) (hb.to (o.block _ hb.lt id)) rfl rfl hg hl (by simp only [setL_length]; rw [hC]; decide) (by simp [putE, tabL_len]; omega)).mono ?_
  rintro e w' ⟨rfl, a⟩
  refine ⟨rfl, ?_⟩
  have k := Y3.out.trans (ArTo.pre Y3.out.1 o a)
  have e1 : (((E ++ putE 0 tabL.length) ++ putE 256 1) ++ putE 257 2) ++ putE 259 1 = E ++ exE := by rw [tabL_len]; simp [exE]
  rw [← e1]
  exact k)
 go_region_held3 (fun W => W.cell? ⟨cb, 0, none⟩ = some (.pointer (some ⟨g, 0, none⟩)) ∧ W.cell? ⟨w.heap.size, 5, none⟩ = some (.int .i64 259) ∧ W.cell? ⟨w.heap.size, 0, none⟩ = some (.int .i64 1))
  (first | with_reducible assumption | go_keep)
  (first | (go_at_call 44; refine (HP4.out _ rfl).mono ?_; rintro e v4 ⟨rfl, a4⟩; have Y4 := hID a4; clear a4; obtain ⟨c0, c2, c3, c4, c5, s2, s3, s4, m0, -, -⟩ := GC.out _ Y4.out.2))
 have r0 := (GC.out _ Y4.out.2).2.2.2.2.2.2.2.2.2.2.cell 0
 have fr := (GC.out _ Y4.out.2).2.2.2.2.2.2.2.2.2.2.frozen 0
 go_wp2_with fail
 have hq := GC.out _ Y4.out.2
 have hr := hq.2.2.2.2.2.2.2.2.2.2
 have hm := hq.2.2.2.2.2.2.2.2.2.1
 have o5 := off_same (i := 0) (u := .int .i64 0) hr rfl
 have q0 : (v4.setCell ⟨w.heap.size + 2, 0, none⟩ (.int .i64 0)).cell? ⟨cb, 0, none⟩ = some (.pointer (some ⟨g, 0, none⟩)) := (o5.cell_old (by have := X2.out.2.2.2.2.2.2.lt; exact Nat.lt_of_lt_of_le this Y4.out.2.size) 0).trans hq.2.2.2.2.2.2.2.2.1
 have hr2 := hr.to (o5.block _ hr.lt id)
 have hm2 := hm.to (o5.block _ hm.lt id)
 refine leaves_cons (f := 43) (args := #[.pointer (some ⟨cb, 0, none⟩), .pointer (some ⟨w.heap.size + 2, 0, none⟩)]) (by simp) (by simp [go_sem]) ?_
 refine (ndefer_setup g cb (w.heap.size + 2) _ (macC p exL) _ q0 hm2 rfl hr2).mono ?_
 rintro e u' w'' ⟨rfl, rfl, o6, rfl⟩
 have hr3 := hr2.put 0 (.int .i64 0)
 have r1 : ((v4.setCell ⟨w.heap.size + 2, 0, none⟩ (.int .i64 0)).setCell ⟨w.heap.size + 2, 0, none⟩ (.int .i64 0)).cell? ⟨w.heap.size + 1 + 1, 0, none⟩ = some (.int .i64 0) := hr3.cell 0
 have YE := hID (ArTo.pre HA.out X2.out.1 (Y4.out.trans (ArTo.off Y4.out.1 (o5.also o6))))
 simp [Leaves, settle, results, Tryz.results15, go_sem, r1]
 exact YE.out
end Go.Proofs.YtkflicifngohcaaGreatDoor

namespace Go.Proofs.YtkflicifngohcaaGreatDoor
open Go.RowKit
set_option maxRecDepth 100000
structure Mac (W0 : World) (F : Nat → Prop) (g p : Nat) (l : Lay) : Prop where
 lt : g < W0.heap.size
 nf : ¬ F g
 blk : Blk W0 g 112 (macC p l)
section
variable {W0 V V0 : World} {F : Nat → Prop} {g p : Nat} {l : Lay} {C : List (BitVec 64)} {E : List Ev}
theorem Mac.at (m : Mac W0 F g p l) (o : Off F W0 V) : Blk V g 112 (macC p l) ∧ ¬ Grow F W0 V g := ⟨m.blk.to (o.block _ m.lt m.nf), fun hg => hg.elim m.nf (fun h => by have := m.lt; omega)⟩
theorem ArTo.drew (h : ArTo W0 F p C E V) : ArTo W0 F p C E V.drew := h.trans (ArTo.off h.1 (Off.drew (Off.refl _ _)))
theorem ArTo.nob (h : ArTo W0 F p C E V) (o : Off Nob V V0) : ArTo W0 F p C E V0 := h.trans (ArTo.off h.1 o)
theorem mget (m : Mac W0 F g p l) (Y : ArTo W0 F p C E V) (x : Nat) (u : BitVec 64) (hu : C.getD x 0 = u) (hx : x < C.length) (he : E.length < 8388608) :
  Calls Tryz.prog 50 #[.pointer (some ⟨g, 0, none⟩), .int .i64 x] V fun e w' => e = .returned (.int .u64 (n64 u)) ∧ ArTo W0 F p C (E ++ [(1, x)]) w' := by
 obtain ⟨hb, hn⟩ := m.at Y.2
 refine (nget g p x (macC p l) C E _ V Y.1 hb rfl rfl hn hx he).mono ?_
 rintro e w' ⟨rfl, a⟩
 rw [hu]
 exact ⟨rfl, Y.trans a⟩
theorem mput (m : Mac W0 F g p l) (Y : ArTo W0 F p C E V0) (x : Nat) (u : BitVec 64) (hx : x < C.length) (he : E.length + 1 < 8388608) (o : Off Nob (V0.alloc (.cells #[.int .u64 (n64 u)] 41)) V) :
  Calls Tryz.prog 44 #[.pointer (some ⟨g, 0, none⟩), .int .i64 x, .slice (some ⟨V0.heap.size, 0, none⟩) 1 1] V fun e w' => e = .returned (.tuple #[]) ∧ ArTo W0 F p (C.set x u) (E ++ [(2, x)]) w' := by
 have o2 : Off Nob V0 V := (Off.alloc (Off.refl _ _) _).also o
 obtain ⟨hb, hn⟩ := m.at Y.2
 have hl : Rd V (fun k => ¬ Grow F W0 V0 k) 1 (.slice (some ⟨V0.heap.size, 0, none⟩) 1 1) ([u] : List (BitVec 64)).length (([u] : List (BitVec 64)).map fun u => .int .u64 (n64 u)) :=
  ⟨_, _, rfl, show 1 ≤ maxLen by decide, rfl, fun _ => ⟨V0.heap.size, 0, rfl, fun h => by have := Y.1.lt _ h; omega, by have := o.size; simp at this; omega, fun j v hv => by
   rw [Nat.zero_add]
   have hB := Blk.new V0 41 #[.int .u64 (n64 u)]
   exact ((hB.to (o.block _ hB.lt id)).cell j).trans (by simpa using hv)⟩⟩
 refine (nput g p x (macC p l) [u] C E (Grow F W0 V0) V _ (Y.1.keep o2 (fun _ _ hn => hn)) (hb.to (o2.block _ hb.lt id)) rfl rfl hn hl hx he).mono ?_
 rintro e w' ⟨rfl, a⟩
 exact ⟨rfl, Y.trans (ArTo.pre Y.1 o2 a)⟩
theorem mkeep (m : Mac W0 F g p l) (Y : ArTo W0 F p C E V) : Calls Tryz.prog 49 #[.pointer (some ⟨g, 0, none⟩), .int .i64 0] V fun e w' => e = .returned (.tuple #[]) ∧ ArTo W0 F p C E w' := by
 obtain ⟨hb, hn⟩ := m.at Y.2
 refine (nkeep g (macC p l) V hb rfl).mono ?_
 rintro e w' ⟨rfl, o⟩
 exact ⟨rfl, Y.nob o⟩
end
end Go.Proofs.YtkflicifngohcaaGreatDoor
