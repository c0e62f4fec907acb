/-
 dragnetlaw21.EngineCalls returns true.
-/
import Derived.Test.YtkflicifngohcaaGreatDoorM42
import Derived.Test.YtkflicifngohcaaGreatDoorM43
import Derived.Test.YtkflicifngohcaaGreatDoorM44
import Derived.Test.YtkflicifngohcaaGreatDoorM27
import Derived.Deep.RegionHeld3
set_option linter.unusedVariables false
set_option linter.unusedSimpArgs false
namespace Go.Proofs.YtkflicifngohcaaGreatDoor
open Go.RowKit Go.Deep
set_option maxRecDepth 100000
theorem lay_of8 {ls : List Value} (hl : ls.length = 8) (hk : ∀ f j κ, kindAt Tryz.prog f 33 j = some κ → ∃ u, ls[j]? = some u ∧ okV κ u) : ∃ l : Lay, ls.toArray = #[.int .i64 l.a, .int .i64 l.b, .int .i64 l.t, .int .i64 l.s, .int .i64 l.f, .int .i64 l.st, .int .i64 l.n, .int .i64 l.h] := by
 match ls, hl with
 | [a, b, c, d, e, f, g, h], _ =>
  obtain ⟨u0, e0, x0, f0, _⟩ := hk 3 0 (some .i64) (by kernel_rfl)
  obtain ⟨u1, e1, x1, f1, _⟩ := hk 3 1 (some .i64) (by kernel_rfl)
  obtain ⟨u2, e2, x2, f2, _⟩ := hk 3 2 (some .i64) (by kernel_rfl)
  obtain ⟨u3, e3, x3, f3, _⟩ := hk 3 3 (some .i64) (by kernel_rfl)
  obtain ⟨u4, e4, x4, f4, _⟩ := hk 3 4 (some .i64) (by kernel_rfl)
  obtain ⟨u5, e5, x5, f5, _⟩ := hk 3 5 (some .i64) (by kernel_rfl)
  obtain ⟨u6, e6, x6, f6, _⟩ := hk 3 6 (some .i64) (by kernel_rfl)
  obtain ⟨u7, e7, x7, f7, _⟩ := hk 3 7 (some .i64) (by kernel_rfl)
  obtain rfl : a = u0 := by simpa using e0
  subst f0
  obtain rfl : b = u1 := by simpa using e1
  subst f1
  obtain rfl : c = u2 := by simpa using e2
  subst f2
  obtain rfl : d = u3 := by simpa using e3
  subst f3
  obtain rfl : e = u4 := by simpa using e4
  subst f4
  obtain rfl : f = u5 := by simpa using e5
  subst f5
  obtain rfl : g = u6 := by simpa using e6
  subst f6
  obtain rfl : h = u7 := by simpa using e7
  subst f7
  exact ⟨⟨x0, x1, x2, x3, x4, x5, x6, x7⟩, rfl⟩
set_option maxHeartbeats 8000000 in
theorem engineCalls_out {w : World} (hZ : TzT w) (cs0 : Int) (l : Lay) (AI AT AS AF AV AB : Option Addr) (ci ct cs cf cv cb n : Nat) (ids : List Int) (wd at_ : Int) (T S Fi : List Nat) (LV : List (BitVec 64)) (LB : List (BitVec 64 × BitVec 64)) (ho : OSet w (.slice AI ids.length ci) (.slice AT T.length ct) (.slice AS S.length cs) (.slice AF Fi.length cf) ids wd T S Fi) (hv : Rd w (Old w) 1 (.slice AV n cv) n (u64s LV)) (hb : Rd w (Old w) 2 (.slice AB LB.length cb) LB.length (fedV LB)) (hx : 300 < n ∨ 3 < LB.length) :
  Calls Tryz.prog 4 #[.int .i64 cs0, .agg #[.int .i64 l.a, .int .i64 l.b, .int .i64 l.t, .int .i64 l.s, .int .i64 l.f, .int .i64 l.st, .int .i64 l.n, .int .i64 l.h], .agg #[.slice AI ids.length ci, .int .i64 wd, .slice AT T.length ct, .slice AS S.length cs, .slice AF Fi.length cf, .int .i64 at_, .slice AV n cv, .slice AB LB.length cb]] w fun e w' => e = .returned (.bool true) ∧ Off Nob w w' := by
 have X0 : Hid (Off Nob w ((w.alloc (.cells #[.int .i64 l.a, .int .i64 l.b, .int .i64 l.t, .int .i64 l.s, .int .i64 l.f, .int .i64 l.st, .int .i64 l.n, .int .i64 l.h] 33)).alloc (.cells #[.slice AI ids.length ci, .int .i64 wd, .slice AT T.length ct, .slice AS S.length cs, .slice AF Fi.length cf, .int .i64 at_, .slice AV n cv, .slice AB LB.length cb] 50)) ∧ Blk ((w.alloc (.cells #[.int .i64 l.a, .int .i64 l.b, .int .i64 l.t, .int .i64 l.s, .int .i64 l.f, .int .i64 l.st, .int .i64 l.n, .int .i64 l.h] 33)).alloc (.cells #[.slice AI ids.length ci, .int .i64 wd, .slice AT T.length ct, .slice AS S.length cs, .slice AF Fi.length cf, .int .i64 at_, .slice AV n cv, .slice AB LB.length cb] 50)) w.heap.size 33 #[.int .i64 l.a, .int .i64 l.b, .int .i64 l.t, .int .i64 l.s, .int .i64 l.f, .int .i64 l.st, .int .i64 l.n, .int .i64 l.h] ∧ Blk ((w.alloc (.cells #[.int .i64 l.a, .int .i64 l.b, .int .i64 l.t, .int .i64 l.s, .int .i64 l.f, .int .i64 l.st, .int .i64 l.n, .int .i64 l.h] 33)).alloc (.cells #[.slice AI ids.length ci, .int .i64 wd, .slice AT T.length ct, .slice AS S.length cs, .slice AF Fi.length cf, .int .i64 at_, .slice AV n cv, .slice AB LB.length cb] 50)) (w.heap.size + 1) 50 #[.slice AI ids.length ci, .int .i64 wd, .slice AT T.length ct, .slice AS S.length cs, .slice AF Fi.length cf, .int .i64 at_, .slice AV n cv, .slice AB LB.length cb]) := hID ⟨((Off.refl _ _).alloc _).alloc _, (Blk.new _ _ _).alloc _, blk_second _ _ _ _⟩
 have HZ := hID hZ
 have HOS := hID ho
 have HVB := hID (And.intro hv hb)
 clear hZ ho hv hb
 go_enter Tryz.func4, Tryz.ntmps4
 go_wp2_with fail
 revert X0
 generalize ((w.alloc (.cells #[.int .i64 l.a, .int .i64 l.b, .int .i64 l.t, .int .i64 l.s, .int .i64 l.f, .int .i64 l.st, .int .i64 l.n, .int .i64 l.h] 33)).alloc (.cells #[.slice AI ids.length ci, .int .i64 wd, .slice AT T.length ct, .slice AS S.length cs, .slice AF Fi.length cf, .int .i64 at_, .slice AV n cv, .slice AB LB.length cb] 50)) = w0
 intro X0
 have GC : Hid (∀ W, Off Nob w0 W → W.cell? ⟨w.heap.size, 0, none⟩ = some (.int .i64 l.a) ∧ W.cell? ⟨w.heap.size, 1, none⟩ = some (.int .i64 l.b) ∧ W.cell? ⟨w.heap.size, 2, none⟩ = some (.int .i64 l.t) ∧ W.cell? ⟨w.heap.size, 3, none⟩ = some (.int .i64 l.s) ∧ W.cell? ⟨w.heap.size, 4, none⟩ = some (.int .i64 l.f) ∧ W.cell? ⟨w.heap.size, 5, none⟩ = some (.int .i64 l.st) ∧ W.cell? ⟨w.heap.size, 6, none⟩ = some (.int .i64 l.n) ∧ W.cell? ⟨w.heap.size, 7, none⟩ = some (.int .i64 l.h) ∧ W.cell? ⟨w.heap.size + 1, 0, none⟩ = some (.slice AI ids.length ci) ∧ W.cell? ⟨w.heap.size + 1, 1, none⟩ = some (.int .i64 wd) ∧ W.cell? ⟨w.heap.size + 1, 2, none⟩ = some (.slice AT T.length ct) ∧ W.cell? ⟨w.heap.size + 1, 3, none⟩ = some (.slice AS S.length cs) ∧ W.cell? ⟨w.heap.size + 1, 4, none⟩ = some (.slice AF Fi.length cf) ∧ W.cell? ⟨w.heap.size + 1, 5, none⟩ = some (.int .i64 at_) ∧ W.cell? ⟨w.heap.size + 1, 6, none⟩ = some (.slice AV n cv) ∧ W.cell? ⟨w.heap.size + 1, 7, none⟩ = some (.slice AB LB.length cb)) := hID (fun W o => by
  have h1 := X0.out.2.1.to (o.block _ X0.out.2.1.lt id)
  have h2 := X0.out.2.2.to (o.block _ X0.out.2.2.lt id)
  exact ⟨h1.cell 0, h1.cell 1, h1.cell 2, h1.cell 3, h1.cell 4, h1.cell 5, h1.cell 6, h1.cell 7, h2.cell 0, h2.cell 1, h2.cell 2, h2.cell 3, h2.cell 4, h2.cell 5, h2.cell 6, h2.cell 7⟩)
 obtain ⟨l_0, l_1, l_2, l_3, l_4, l_5, l_6, l_7, x_0, x_1, x_2, x_3, x_4, x_5, x_6, x_7⟩ := GC.out _ (Off.refl _ _)
 go_wp2_with fail
 refine (large_is AI AT AS AF ids.length T.length S.length Fi.length ci ct cs cf wd _).mono ?_
 rintro e v0 ⟨⟨q, rfl, hq⟩, o1⟩
 have Y0 := hID o1
 have HQ := hID hq
 clear o1 hq l_0 l_1 l_2 l_3 l_4 l_5 l_6 l_7 x_0 x_1 x_2 x_3 x_4 x_5 x_6 x_7
 cases q
 case true =>
  go_wp2_with fail
  refine (shown_true _ (tz_keep HZ.out (X0.out.1.also Y0.out))).mono ?_
  rintro e vz ⟨rfl, oz⟩
  have YZ := hID ((X0.out.1.also Y0.out).also oz)
  clear oz
  go_wp2_with fail
  go_ret
  exact ⟨rfl, YZ.out⟩
 case false =>
  obtain ⟨l_0, l_1, l_2, l_3, l_4, l_5, l_6, l_7, x_0, x_1, x_2, x_3, x_4, x_5, x_6, x_7⟩ := GC.out _ (Y0.out)
  by_cases g0 : 300 < n
  ·have d0 : decide ((300 : Int) < (n : Int)) = true := decide_eq_true (by omega)
   clear g0
   go_wp2_with fail
   refine (shown_true _ (tz_keep HZ.out (X0.out.1.also Y0.out))).mono ?_
   rintro e vz ⟨rfl, oz⟩
   have YZ := hID ((X0.out.1.also Y0.out).also oz)
   clear oz
   go_wp2_with fail
   go_ret
   exact ⟨rfl, YZ.out⟩
  ·have d0 : decide ((300 : Int) < (n : Int)) = false := decide_eq_false (by omega)
   have d1 : decide ((3 : Int) < (LB.length : Int)) = true := decide_eq_true (by omega)
   clear g0 hx
   go_wp2_with fail
   refine (shown_true _ (tz_keep HZ.out (X0.out.1.also Y0.out))).mono ?_
   rintro e vz ⟨rfl, oz⟩
   have YZ := hID ((X0.out.1.also Y0.out).also oz)
   clear oz
   go_wp2_with fail
   go_ret
   exact ⟨rfl, YZ.out⟩
set_option maxHeartbeats 8000000 in
theorem engineCalls_ok {w : World} (hZ : TzT w) (cs0 : Int) (l : Lay) (AI AT AS AF AV AB : Option Addr) (ci ct cs cf cv cb n : Nat) (ids : List Int) (wd at_ : Int) (T S Fi : List Nat) (LV : List (BitVec 64)) (LB : List (BitVec 64 × BitVec 64)) (ho : OSet w (.slice AI ids.length ci) (.slice AT T.length ct) (.slice AS S.length cs) (.slice AF Fi.length cf) ids wd T S Fi) (hv : Rd w (Old w) 1 (.slice AV n cv) n (u64s LV)) (hb : Rd w (Old w) 2 (.slice AB LB.length cb) LB.length (fedV LB)) (g0 : n ≤ 300) (g1 : LB.length ≤ 3) :
  Calls Tryz.prog 4 #[.int .i64 cs0, .agg #[.int .i64 l.a, .int .i64 l.b, .int .i64 l.t, .int .i64 l.s, .int .i64 l.f, .int .i64 l.st, .int .i64 l.n, .int .i64 l.h], .agg #[.slice AI ids.length ci, .int .i64 wd, .slice AT T.length ct, .slice AS S.length cs, .slice AF Fi.length cf, .int .i64 at_, .slice AV n cv, .slice AB LB.length cb]] w fun e w' => e = .returned (.bool true) ∧ Off Nob w w' := by
 have X0 : Hid (Off Nob w ((w.alloc (.cells #[.int .i64 l.a, .int .i64 l.b, .int .i64 l.t, .int .i64 l.s, .int .i64 l.f, .int .i64 l.st, .int .i64 l.n, .int .i64 l.h] 33)).alloc (.cells #[.slice AI ids.length ci, .int .i64 wd, .slice AT T.length ct, .slice AS S.length cs, .slice AF Fi.length cf, .int .i64 at_, .slice AV n cv, .slice AB LB.length cb] 50)) ∧ Blk ((w.alloc (.cells #[.int .i64 l.a, .int .i64 l.b, .int .i64 l.t, .int .i64 l.s, .int .i64 l.f, .int .i64 l.st, .int .i64 l.n, .int .i64 l.h] 33)).alloc (.cells #[.slice AI ids.length ci, .int .i64 wd, .slice AT T.length ct, .slice AS S.length cs, .slice AF Fi.length cf, .int .i64 at_, .slice AV n cv, .slice AB LB.length cb] 50)) w.heap.size 33 #[.int .i64 l.a, .int .i64 l.b, .int .i64 l.t, .int .i64 l.s, .int .i64 l.f, .int .i64 l.st, .int .i64 l.n, .int .i64 l.h] ∧ Blk ((w.alloc (.cells #[.int .i64 l.a, .int .i64 l.b, .int .i64 l.t, .int .i64 l.s, .int .i64 l.f, .int .i64 l.st, .int .i64 l.n, .int .i64 l.h] 33)).alloc (.cells #[.slice AI ids.length ci, .int .i64 wd, .slice AT T.length ct, .slice AS S.length cs, .slice AF Fi.length cf, .int .i64 at_, .slice AV n cv, .slice AB LB.length cb] 50)) (w.heap.size + 1) 50 #[.slice AI ids.length ci, .int .i64 wd, .slice AT T.length ct, .slice AS S.length cs, .slice AF Fi.length cf, .int .i64 at_, .slice AV n cv, .slice AB LB.length cb]) := hID ⟨((Off.refl _ _).alloc _).alloc _, (Blk.new _ _ _).alloc _, blk_second _ _ _ _⟩
 have HZ := hID hZ
 have HOS := hID ho
 have HVB := hID (And.intro hv hb)
 clear hZ ho hv hb
 have d0 : decide ((300 : Int) < (n : Int)) = false := decide_eq_false (by omega)
 have d1 : decide ((3 : Int) < (LB.length : Int)) = false := decide_eq_false (by omega)
 have HG := hID (And.intro g0 g1)
 clear g0 g1
 go_enter Tryz.func4, Tryz.ntmps4
 go_wp2_with fail
 revert X0
 generalize ((w.alloc (.cells #[.int .i64 l.a, .int .i64 l.b, .int .i64 l.t, .int .i64 l.s, .int .i64 l.f, .int .i64 l.st, .int .i64 l.n, .int .i64 l.h] 33)).alloc (.cells #[.slice AI ids.length ci, .int .i64 wd, .slice AT T.length ct, .slice AS S.length cs, .slice AF Fi.length cf, .int .i64 at_, .slice AV n cv, .slice AB LB.length cb] 50)) = w0
 intro X0
 have GC : Hid (∀ W, Off Nob w0 W → W.cell? ⟨w.heap.size, 0, none⟩ = some (.int .i64 l.a) ∧ W.cell? ⟨w.heap.size, 1, none⟩ = some (.int .i64 l.b) ∧ W.cell? ⟨w.heap.size, 2, none⟩ = some (.int .i64 l.t) ∧ W.cell? ⟨w.heap.size, 3, none⟩ = some (.int .i64 l.s) ∧ W.cell? ⟨w.heap.size, 4, none⟩ = some (.int .i64 l.f) ∧ W.cell? ⟨w.heap.size, 5, none⟩ = some (.int .i64 l.st) ∧ W.cell? ⟨w.heap.size, 6, none⟩ = some (.int .i64 l.n) ∧ W.cell? ⟨w.heap.size, 7, none⟩ = some (.int .i64 l.h) ∧ W.cell? ⟨w.heap.size + 1, 0, none⟩ = some (.slice AI ids.length ci) ∧ W.cell? ⟨w.heap.size + 1, 1, none⟩ = some (.int .i64 wd) ∧ W.cell? ⟨w.heap.size + 1, 2, none⟩ = some (.slice AT T.length ct) ∧ W.cell? ⟨w.heap.size + 1, 3, none⟩ = some (.slice AS S.length cs) ∧ W.cell? ⟨w.heap.size + 1, 4, none⟩ = some (.slice AF Fi.length cf) ∧ W.cell? ⟨w.heap.size + 1, 5, none⟩ = some (.int .i64 at_) ∧ W.cell? ⟨w.heap.size + 1, 6, none⟩ = some (.slice AV n cv) ∧ W.cell? ⟨w.heap.size + 1, 7, none⟩ = some (.slice AB LB.length cb)) := hID (fun W o => by
  have h1 := X0.out.2.1.to (o.block _ X0.out.2.1.lt id)
  have h2 := X0.out.2.2.to (o.block _ X0.out.2.2.lt id)
  exact ⟨h1.cell 0, h1.cell 1, h1.cell 2, h1.cell 3, h1.cell 4, h1.cell 5, h1.cell 6, h1.cell 7, h2.cell 0, h2.cell 1, h2.cell 2, h2.cell 3, h2.cell 4, h2.cell 5, h2.cell 6, h2.cell 7⟩)
 obtain ⟨l_0, l_1, l_2, l_3, l_4, l_5, l_6, l_7, x_0, x_1, x_2, x_3, x_4, x_5, x_6, x_7⟩ := GC.out _ (Off.refl _ _)
 go_wp2_with fail
 refine (large_is AI AT AS AF ids.length T.length S.length Fi.length ci ct cs cf wd _).mono ?_
 rintro e v0 ⟨⟨q, rfl, hq⟩, o1⟩
 have Y0 := hID o1
 have HQ := hID hq
 clear o1 hq l_0 l_1 l_2 l_3 l_4 l_5 l_6 l_7 x_0 x_1 x_2 x_3 x_4 x_5 x_6 x_7
 cases q
 case true =>
  go_wp2_with fail
  refine (shown_true _ (tz_keep HZ.out (X0.out.1.also Y0.out))).mono ?_
  rintro e vz ⟨rfl, oz⟩
  have YZ := hID ((X0.out.1.also Y0.out).also oz)
  clear oz
  go_wp2_with fail
  go_ret
  exact ⟨rfl, YZ.out⟩
 case false =>
  obtain ⟨l_0, l_1, l_2, l_3, l_4, l_5, l_6, l_7, x_0, x_1, x_2, x_3, x_4, x_5, x_6, x_7⟩ := GC.out _ (Y0.out)
  have hlim := HQ.out rfl
  have HSV : Hid (∀ V, Off Nob w V → SetV V (.slice AI ids.length ci) (.slice AT T.length ct) (.slice AS S.length cs) (.slice AF Fi.length cf) ids wd T S Fi) := hID (fun V o => HOS.out.setV o (by omega) (by omega) (by omega) (by omega))
  have hLV : LV.length = n := by
   obtain ⟨_, _, _, _, hl, _⟩ := HVB.out.1
   unfold u64s at hl
   simpa using hl
  have HLV := hID hLV
  obtain ⟨m, hm⟩ : ∃ m : Nat, mnJ (mxI cs0 1) 2400 = (m : Int) := ⟨(mnJ (mxI cs0 1) 2400).toNat, by unfold mnJ mxI; split <;> split <;> omega⟩
  have HBA := hID (both_all cs0 m hm at_ LV (by rw [hLV]; have := HG.out.1; omega) v0 (.slice AV n cv) (by rw [hLV]; exact HVB.out.1.any.keepT (X0.out.1.also Y0.out)))
  clear hlim hLV HQ hm
  go_wp2_with fail
  refine HBA.out.mono ?_
  rintro e u1 ⟨p, r, C, E, rfl, hb, hcn, hen⟩
  have HB := hID hb
  have HE : Hid (E.length ≤ 300) := hID (by have := HLV.out; have := HG.out.1; omega)
  clear hb hcn hen HBA d0 d1 l_0 l_1 l_2 l_3 l_4 l_5 l_6 l_7 x_0 x_1 x_2 x_3 x_4 x_5 x_6 x_7
  have GD : Hid (∀ W, Off Nob v0 W → W.cell? ⟨w.heap.size, 0, none⟩ = some (.int .i64 l.a) ∧ W.cell? ⟨w.heap.size, 1, none⟩ = some (.int .i64 l.b) ∧ W.cell? ⟨w.heap.size, 2, none⟩ = some (.int .i64 l.t) ∧ W.cell? ⟨w.heap.size, 3, none⟩ = some (.int .i64 l.s) ∧ W.cell? ⟨w.heap.size, 4, none⟩ = some (.int .i64 l.f) ∧ W.cell? ⟨w.heap.size, 5, none⟩ = some (.int .i64 l.st) ∧ W.cell? ⟨w.heap.size, 6, none⟩ = some (.int .i64 l.n) ∧ W.cell? ⟨w.heap.size, 7, none⟩ = some (.int .i64 l.h) ∧ W.cell? ⟨w.heap.size + 1, 0, none⟩ = some (.slice AI ids.length ci) ∧ W.cell? ⟨w.heap.size + 1, 1, none⟩ = some (.int .i64 wd) ∧ W.cell? ⟨w.heap.size + 1, 2, none⟩ = some (.slice AT T.length ct) ∧ W.cell? ⟨w.heap.size + 1, 3, none⟩ = some (.slice AS S.length cs) ∧ W.cell? ⟨w.heap.size + 1, 4, none⟩ = some (.slice AF Fi.length cf) ∧ W.cell? ⟨w.heap.size + 1, 5, none⟩ = some (.int .i64 at_) ∧ W.cell? ⟨w.heap.size + 1, 6, none⟩ = some (.slice AV n cv) ∧ W.cell? ⟨w.heap.size + 1, 7, none⟩ = some (.slice AB LB.length cb)) := hID (fun W o => GC.out W (Y0.out.also o))
  clear GC
  have GC := GD
  clear GD
  have HOLD : Hid (∀ V, Off Nob v0 V → SetV V (.slice AI ids.length ci) (.slice AT T.length ct) (.slice AS S.length cs) (.slice AF Fi.length cf) ids wd T S Fi ∧ TzT V ∧ Rd V (fun k => k < v0.heap.size) 1 (.slice AT T.length ct) T.length (wordsV T) ∧ Rd V (fun k => k < v0.heap.size) 1 (.slice AS S.length cs) S.length (wordsV S) ∧ Rd V (fun k => k < v0.heap.size) 1 (.slice AF Fi.length cf) Fi.length (wordsV Fi)) := hID (fun V o => by
   have ow := (X0.out.1.also Y0.out).also o
   have hs := (X0.out.1.also Y0.out).size
   have hn : ∀ k, Old w k → k < v0.heap.size := fun k hk => by unfold Old at hk; omega
   exact ⟨HSV.out V ow, tz_keep HZ.out ow, (HOS.out.t.mono hn).keep ow (fun _ _ h => h), (HOS.out.s.mono hn).keep ow (fun _ _ h => h), (HOS.out.f.mono hn).keep ow (fun _ _ h => h)⟩)
  obtain ⟨c1, C1, E1, hl1, he1, hA1, hB1⟩ := clear_both l v0 p r C E (by have := HE.out; omega)
  obtain ⟨c2, C2, E2, hl2, he2, hA2, hB2⟩ := setup_both l v0 p r C1 E1 (by have := HE.out; omega) AI AT AS AF ci ct cs cf ids wd T S Fi HOLD.out
  have HC1 := hID (And.intro hA1 hB1)
  have HC2 := hID (And.intro hA2 hB2)
  have HE2 : Hid (E2.length ≤ 1500) := hID (by have := HE.out; omega)
  clear hl1 he1 hA1 hB1 hl2 he2 hA2 hB2
  obtain ⟨l_0, l_1, l_2, l_3, l_4, l_5, l_6, l_7, x_0, x_1, x_2, x_3, x_4, x_5, x_6, x_7⟩ := GC.out _ (HB.out.old)
  go_wp2_with fail
  go_region_held3 (fun W => W.cell? ⟨w.heap.size, 0, none⟩ = some (.int .i64 l.a) ∧ W.cell? ⟨w.heap.size, 1, none⟩ = some (.int .i64 l.b) ∧ W.cell? ⟨w.heap.size, 2, none⟩ = some (.int .i64 l.t) ∧ W.cell? ⟨w.heap.size, 3, none⟩ = some (.int .i64 l.s) ∧ W.cell? ⟨w.heap.size, 4, none⟩ = some (.int .i64 l.f) ∧ W.cell? ⟨w.heap.size, 5, none⟩ = some (.int .i64 l.st) ∧ W.cell? ⟨w.heap.size, 6, none⟩ = some (.int .i64 l.n) ∧ W.cell? ⟨w.heap.size, 7, none⟩ = some (.int .i64 l.h) ∧ W.cell? ⟨w.heap.size + 1, 0, none⟩ = some (.slice AI ids.length ci) ∧ W.cell? ⟨w.heap.size + 1, 1, none⟩ = some (.int .i64 wd) ∧ W.cell? ⟨w.heap.size + 1, 2, none⟩ = some (.slice AT T.length ct) ∧ W.cell? ⟨w.heap.size + 1, 3, none⟩ = some (.slice AS S.length cs) ∧ W.cell? ⟨w.heap.size + 1, 4, none⟩ = some (.slice AF Fi.length cf))
   (first | with_reducible assumption | go_keep)
   (first
    | (go_at_call 17; refine (HC1.out.1 _ (HB.out.off (Off.refl _ _).drew)).mono ?_; rintro e a1 ⟨rfl, hz⟩; have HN1 := hID hz; clear hz l_0 l_1 l_2 l_3 l_4 l_5 l_6 l_7 x_0 x_1 x_2 x_3 x_4 x_5 x_6 x_7; obtain ⟨l_0, l_1, l_2, l_3, l_4, l_5, l_6, l_7, x_0, x_1, x_2, x_3, x_4, x_5, x_6, x_7⟩ := GC.out _ (HN1.out.old))
    | (go_at_call 22; refine (HC1.out.2 _ HN1.out).mono ?_; rintro e a2 ⟨rfl, hz⟩; have HN2 := hID hz; clear hz l_0 l_1 l_2 l_3 l_4 l_5 l_6 l_7 x_0 x_1 x_2 x_3 x_4 x_5 x_6 x_7; obtain ⟨l_0, l_1, l_2, l_3, l_4, l_5, l_6, l_7, x_0, x_1, x_2, x_3, x_4, x_5, x_6, x_7⟩ := GC.out _ (HN2.out.old))
    | (go_at_call 15; refine (HC2.out.1 _ HN2.out).mono ?_; rintro e a3 ⟨rfl, hz⟩; have HN3 := hID hz; clear hz l_0 l_1 l_2 l_3 l_4 l_5 l_6 l_7 x_0 x_1 x_2 x_3 x_4 x_5 x_6 x_7; obtain ⟨l_0, l_1, l_2, l_3, l_4, l_5, l_6, l_7, x_0, x_1, x_2, x_3, x_4, x_5, x_6, x_7⟩ := GC.out _ (HN3.out.old))
    | (go_at_call 23; refine (HC2.out.2 _ HN3.out).mono ?_; rintro e a4 ⟨rfl, hz⟩; have HN4 := hID hz; clear hz l_0 l_1 l_2 l_3 l_4 l_5 l_6 l_7 x_0 x_1 x_2 x_3 x_4 x_5 x_6 x_7; obtain ⟨l_0, l_1, l_2, l_3, l_4, l_5, l_6, l_7, x_0, x_1, x_2, x_3, x_4, x_5, x_6, x_7⟩ := GC.out _ (HN4.out.old))
    | (go_at_call 24; refine (Both.same HN4.out).mono ?_; rintro e a5 ⟨rfl, hz⟩; have HN5 := hID (HN4.out.off hz); clear hz l_0 l_1 l_2 l_3 l_4 l_5 l_6 l_7 x_0 x_1 x_2 x_3 x_4 x_5 x_6 x_7; obtain ⟨l_0, l_1, l_2, l_3, l_4, l_5, l_6, l_7, x_0, x_1, x_2, x_3, x_4, x_5, x_6, x_7⟩ := GC.out _ (HN5.out.old)))
  clear HN1 HN2 HN3 HN4 HC1 HC2 HB l_0 l_1 l_2 l_3 l_4 l_5 l_6 l_7 x_0 x_1 x_2 x_3 x_4 x_5 x_6 x_7
  go_wp2_with fail
  go_loopw [9] (fun q wr => ∃ (k : Nat) (C : List (BitVec 64)) (E : List Ev), q = .int .i64 (k : Int) ∧ k ≤ LB.length ∧ Both v0 wr p r C E ∧ E.length ≤ 1500 + 1200 * k) (fun q wr => LB.length - (intOf q).toNat)
  case atStart => exact ⟨0, _, _, rfl, Nat.zero_le _, HN5.out, HE2.out⟩
  case round =>
   obtain ⟨k, C, E, rfl, hk, hb, hen⟩ := hrel
   have HR := hID (And.intro hb hen)
   clear hb hen HN5 HE2
   obtain ⟨l_0, l_1, l_2, l_3, l_4, l_5, l_6, l_7, x_0, x_1, x_2, x_3, x_4, x_5, x_6, x_7⟩ := GC.out _ (HR.out.1.old)
   by_cases hlt : k < LB.length
   ·have d1 : decide ((k : Int) < (LB.length : Int)) = true := decide_eq_true (by omega)
    have i0 : (0 : Int) ≤ (k : Int) := by omega
    have i1 : (k : Int) < (LB.length : Int) := by omega
    have hk3 : k ≤ 3 := by have := HG.out.2; omega
    obtain ⟨b, ob, c0, hee, hcc⟩ := (HVB.out.2.any.keepT (X0.out.1.also Y0.out)).cellsT (show 0 < LB.length by omega)
    cases hee
    obtain ⟨f1, f2⟩ := fedV_at LB hlt
    obtain ⟨y, hy⟩ : ∃ y, (LB.getD k (0, 0)).1 = y := ⟨_, rfl⟩
    obtain ⟨z, hz⟩ : ∃ z, (LB.getD k (0, 0)).2 = z := ⟨_, rfl⟩
    rw [hy] at f1
    rw [hz] at f2
    have HEL : Hid (∀ W, Off Nob v0 W → W.cell? ⟨b, ob + k * 2, none⟩ = some (.int .u64 (n64 y)) ∧ W.cell? ⟨b, ob + k * 2 + 1, none⟩ = some (.int .u64 (n64 z))) := hID (fun W o => by
     have h1 := hcc W o _ _ f1
     have h2 := hcc W o _ _ f2
     rw [← Nat.add_assoc] at h2
     exact ⟨h1, h2⟩)
    clear f1 f2 hy hz hcc
    obtain ⟨y0, y1⟩ := HEL.out _ HR.out.1.old
    obtain ⟨c3, C3, E3, hl3, he3, hA3, hB3⟩ := byte_both l v0 p r C E (by have := HR.out.2; omega) y z
    have HC3 := hID (And.intro hA3 hB3)
    have HE3 : Hid (E3.length ≤ 1500 + 1200 * (k + 1)) := hID (by have := HR.out.2; omega)
    clear hl3 he3 hA3 hB3
    go_wp2_with fail
    go_region_held3 (fun W => W.cell? ⟨w.heap.size, 0, none⟩ = some (.int .i64 l.a) ∧ W.cell? ⟨w.heap.size, 1, none⟩ = some (.int .i64 l.b) ∧ W.cell? ⟨w.heap.size, 2, none⟩ = some (.int .i64 l.t) ∧ W.cell? ⟨w.heap.size, 3, none⟩ = some (.int .i64 l.s) ∧ W.cell? ⟨w.heap.size, 4, none⟩ = some (.int .i64 l.f) ∧ W.cell? ⟨w.heap.size, 5, none⟩ = some (.int .i64 l.st) ∧ W.cell? ⟨w.heap.size, 6, none⟩ = some (.int .i64 l.n) ∧ W.cell? ⟨w.heap.size, 7, none⟩ = some (.int .i64 l.h) ∧ W.cell? ⟨w.heap.size + 1, 7, none⟩ = some (.slice (some ⟨b, ob, none⟩) LB.length cb) ∧ W.cell? ⟨b, ob + k * 2, none⟩ = some (.int .u64 (n64 y)) ∧ W.cell? ⟨b, ob + k * 2 + 1, none⟩ = some (.int .u64 (n64 z)))
     (first | with_reducible assumption | go_keep)
     (first
      | (go_at_call 16; refine (HC3.out.1 _ (HR.out.1.off (Off.refl _ _).drew)).mono ?_; rintro e a1 ⟨rfl, hz⟩; have HN1 := hID hz; clear hz l_0 l_1 l_2 l_3 l_4 l_5 l_6 l_7 x_0 x_1 x_2 x_3 x_4 x_5 x_6 x_7 y0 y1; obtain ⟨l_0, l_1, l_2, l_3, l_4, l_5, l_6, l_7, x_0, x_1, x_2, x_3, x_4, x_5, x_6, x_7⟩ := GC.out _ (HN1.out.old); obtain ⟨y0, y1⟩ := HEL.out _ HN1.out.old)
      | (go_at_call 25; refine (HC3.out.2 _ HN1.out).mono ?_; rintro e a2 ⟨rfl, hz⟩; have HN2 := hID hz; clear hz l_0 l_1 l_2 l_3 l_4 l_5 l_6 l_7 x_0 x_1 x_2 x_3 x_4 x_5 x_6 x_7 y0 y1; obtain ⟨l_0, l_1, l_2, l_3, l_4, l_5, l_6, l_7, x_0, x_1, x_2, x_3, x_4, x_5, x_6, x_7⟩ := GC.out _ (HN2.out.old); obtain ⟨y0, y1⟩ := HEL.out _ HN2.out.old))
    go_wp2_with fail
    go_roundw
    case rel => exact ⟨k + 1, _, _, by go_num, by omega, HN2.out, HE3.out⟩
    case measure => simp [intOf]; omega
   ·obtain rfl : k = LB.length := by omega
    have d1 : decide ((LB.length : Int) < (LB.length : Int)) = false := decide_eq_false (by omega)
    obtain ⟨c4, E4, X, he4, hx4, hA4, hB4⟩ := state_both l v0 p r C E (by have := HR.out.2; have := HG.out.2; omega)
    have HC4 := hID (And.intro hA4 hB4)
    have HX4 := hID hx4
    clear he4 hA4 hB4 hx4
    go_wp2_with fail
    refine (HC4.out.1 _ HR.out.1).mono ?_
    rintro e a1 ⟨v1, rfl, hz⟩
    have HN1 := hID hz
    clear hz l_0 l_1 l_2 l_3 l_4 l_5 l_6 l_7 x_0 x_1 x_2 x_3 x_4 x_5 x_6 x_7
    obtain ⟨l_0, l_1, l_2, l_3, l_4, l_5, l_6, l_7, x_0, x_1, x_2, x_3, x_4, x_5, x_6, x_7⟩ := GC.out _ ((HalfV.half HN1.out).old)
    go_wp2_with fail
    refine (HC4.out.2 _ _ HN1.out).mono ?_
    rintro e a2 ⟨v2, rfl, hv1, hv2, hz⟩
    have HN2 := hID hz
    have HV1 := hID hv1
    have HV2 := hID hv2
    clear hz hv1 hv2 l_0 l_1 l_2 l_3 l_4 l_5 l_6 l_7 x_0 x_1 x_2 x_3 x_4 x_5 x_6 x_7
    go_wp2_with fail
    have HSM : Hid (Calls Tryz.prog 19 #[v1, v2] a2 (RetV a2 (.bool true))) := hID (by
     have k := r_same X X (by have := HX4.out; omega) (by have := HX4.out; omega) a2 v1 v2 HV1.out HV2.out
     rwa [decide_eq_true rfl] at k)
    refine HSM.out.mono ?_
    rintro e a3 ⟨rfl, o3⟩
    have HN3 := hID (HN2.out.off o3)
    clear o3 HSM
    go_wp2_with fail
    refine (Both.same HN3.out).mono ?_
    rintro e a4 ⟨rfl, o4⟩
    have HN4 := hID (HN3.out.off o4)
    clear o4
    go_wp2_with fail
    refine (shown_true _ (tz_keep HZ.out (X0.out.1.also (Y0.out.also HN4.out.old)))).mono ?_
    rintro e vz ⟨rfl, oz⟩
    have YZ := hID ((X0.out.1.also (Y0.out.also HN4.out.old)).also oz)
    clear oz
    go_wp2_with fail
    go_ret
    exact ⟨rfl, YZ.out⟩
theorem engineCalls_walk {w : World} (hZ : TzT w) (cs0 : Int) (b0 : -9223372036854775808 ≤ cs0 ∧ cs0 ≤ 9223372036854775807) (ls : List Value) (hl : ls.length = 8) (hk : ∀ f j κ, kindAt Tryz.prog f 33 j = some κ → ∃ u, ls[j]? = some u ∧ okV κ u) {VI VT VS VF VV VB : Value} {ids : List Int} {wd at_ : Int} {T S Fi : List Nat} {n : Nat} {LV : List (BitVec 64)} {LB : List (BitVec 64 × BitVec 64)} (ho : OSet w VI VT VS VF ids wd T S Fi) (hv : Rd w (Old w) 1 VV n (u64s LV)) (hb : Rd w (Old w) 2 VB LB.length (fedV LB)) :
  Calls Tryz.prog 4 #[.int .i64 cs0, .agg ls.toArray, .agg #[VI, .int .i64 wd, VT, VS, VF, .int .i64 at_, VV, VB]] w fun e w' => e = .returned (.bool true) ∧ Off Nob w w' := by
 obtain ⟨l, e⟩ := lay_of8 hl hk
 rw [e]
 obtain ⟨AI, ci, rfl, _⟩ := ho.i.form
 obtain ⟨AT, ct, rfl, _⟩ := ho.t.form
 obtain ⟨AS, cs, rfl, _⟩ := ho.s.form
 obtain ⟨AF, cf, rfl, _⟩ := ho.f.form
 obtain ⟨AV, cv, rfl, _⟩ := hv.form
 obtain ⟨AB, cb, rfl, _⟩ := hb.form
 by_cases h : n ≤ 300 ∧ LB.length ≤ 3
 ·exact engineCalls_ok hZ cs0 l AI AT AS AF AV AB ci ct cs cf cv cb n ids wd at_ T S Fi LV LB ho hv hb h.1 h.2
 ·exact engineCalls_out hZ cs0 l AI AT AS AF AV AB ci ct cs cf cv cb n ids wd at_ T S Fi LV LB ho hv hb (by omega)
end Go.Proofs.YtkflicifngohcaaGreatDoor
