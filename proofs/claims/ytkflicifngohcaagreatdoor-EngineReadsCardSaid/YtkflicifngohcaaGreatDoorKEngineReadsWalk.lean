/-
 dragnetlaw21.EngineReads returns true.
-/
import Derived.Test.YtkflicifngohcaaGreatDoorK41
set_option linter.unusedVariables false
set_option linter.unusedSimpArgs false
namespace Go.Proofs.YtkflicifngohcaaGreatDoor
open Go.RowKit
set_option maxRecDepth 100000
set_option maxHeartbeats 8000000 in
theorem engineReads_out {w : World} (hZ : TzT w) (AI AT AS AF B0 B1 : Option Addr) (ci ct cs cf c0 c1 : Nat) (ids : List Int) (wd : Int) (T S Fi L L2 : List Nat) (ho : OSet w (.slice AI ids.length ci) (.slice AT T.length ct) (.slice AS S.length cs) (.slice AF Fi.length cf) ids wd T S Fi) (z : Int) (hz : setErr ids wd T S Fi = z) (hx : L.length ≤ 30 → z ≠ 0) :
  Calls Tryz.prog 6 #[.agg #[.slice AI ids.length ci, .int .i64 wd, .slice AT T.length ct, .slice AS S.length cs, .slice AF Fi.length cf], .slice B0 L.length c0, .slice B1 L2.length c1] w fun e w' => e = .returned (.bool true) ∧ Off Nob w w' := by
 have X0 : Hid (Off Nob w (w.alloc (.cells #[.slice AI ids.length ci, .int .i64 wd, .slice AT T.length ct, .slice AS S.length cs, .slice AF Fi.length cf] 25)) ∧ Blk (w.alloc (.cells #[.slice AI ids.length ci, .int .i64 wd, .slice AT T.length ct, .slice AS S.length cs, .slice AF Fi.length cf] 25)) w.heap.size 25 #[.slice AI ids.length ci, .int .i64 wd, .slice AT T.length ct, .slice AS S.length cs, .slice AF Fi.length cf]) := hID ⟨(Off.refl _ _).alloc _, Blk.new _ _ _⟩
 have HZ := hID hZ
 have HOS := hID ho
 clear hZ ho
 have HZE := hID hz
 have HX := hID hx
 clear hz hx
 go_enter Tryz.func6, Tryz.ntmps6
 go_wp2_with fail
 revert X0
 generalize (w.alloc (.cells #[.slice AI ids.length ci, .int .i64 wd, .slice AT T.length ct, .slice AS S.length cs, .slice AF Fi.length cf] 25)) = w0
 intro X0
 have GC : Hid (∀ W, Off Nob w0 W → W.cell? ⟨w.heap.size, 0, none⟩ = some (.slice AI ids.length ci) ∧ W.cell? ⟨w.heap.size, 1, none⟩ = some (.int .i64 wd) ∧ W.cell? ⟨w.heap.size, 2, none⟩ = some (.slice AT T.length ct) ∧ W.cell? ⟨w.heap.size, 3, none⟩ = some (.slice AS S.length cs) ∧ W.cell? ⟨w.heap.size, 4, none⟩ = some (.slice AF Fi.length cf)) := hID (fun W o => by
  have h1 := X0.out.2.to (o.block _ X0.out.2.lt id)
  exact ⟨h1.cell 0, h1.cell 1, h1.cell 2, h1.cell 3, h1.cell 4⟩)
 refine (large_is AI AT AS AF ids.length T.length S.length Fi.length ci ct cs cf wd _).mono ?_
 rintro e v0 ⟨⟨q, rfl, hq⟩, o1⟩
 have Y0 := hID o1
 have HQ := hID hq
 clear o1 hq
 cases q
 case true =>
  go_wp2_with fail
  refine (shown_true _ (tz_keep HZ.out (X0.out.1.also Y0.out))).mono ?_
  rintro e vz ⟨rfl, oz⟩
  have YZ := hID ((X0.out.1.also Y0.out).also oz)
  clear oz
  go_wp2_with fail
  go_ret
  exact ⟨rfl, YZ.out⟩
 case false =>
  obtain ⟨s_0, s_1, s_2, s_3, s_4⟩ := GC.out _ (Y0.out)
  by_cases g0 : 30 < L.length
  ·have d0 : decide ((30 : Int) < (L.length : Int)) = true := decide_eq_true (by omega)
   clear g0
   go_wp2_with fail
   refine (shown_true _ (tz_keep HZ.out (X0.out.1.also Y0.out))).mono ?_
   rintro e vz ⟨rfl, oz⟩
   have YZ := hID ((X0.out.1.also Y0.out).also oz)
   clear oz
   go_wp2_with fail
   go_ret
   exact ⟨rfl, YZ.out⟩
  ·have d0 : decide ((30 : Int) < (L.length : Int)) = false := decide_eq_false (by omega)
   have hne : z ≠ 0 := HX.out (by omega)
   have dz : decide (z = 0) = false := decide_eq_false hne
   have hlim := HQ.out rfl
   have HCK := hID (r_Check ids wd T S Fi v0 _ _ _ _ (HOS.out.setV (X0.out.1.also Y0.out) (by omega) (by omega) (by omega) (by omega)))
   rw [HZE.out] at HCK
   clear g0 hlim
   go_wp2_with fail
   refine HCK.out.mono ?_
   rintro e v1 ⟨rfl, o1⟩
   have Y1 := hID (Y0.out.also o1)
   clear o1
   go_wp2_with fail
   refine (shown_true _ (tz_keep HZ.out (X0.out.1.also Y1.out))).mono ?_
   rintro e vz ⟨rfl, oz⟩
   have YZ := hID ((X0.out.1.also Y1.out).also oz)
   clear oz
   go_wp2_with fail
   go_ret
   exact ⟨rfl, YZ.out⟩
set_option maxHeartbeats 8000000 in
theorem engineReads_ok {w : World} (hZ : TzT w) (AI AT AS AF B0 B1 : Option Addr) (ci ct cs cf c0 c1 : Nat) (ids : List Int) (W : Nat) (T S Fi L L2 : List Nat) (ho : OSet w (.slice AI ids.length ci) (.slice AT T.length ct) (.slice AS S.length cs) (.slice AF Fi.length cf) ids (W : Int) T S Fi) (hz : setErr ids (W : Int) T S Fi = 0) (g0 : L.length ≤ 30) (hL : ∀ z ∈ L, z < 256) (hL2 : ∀ z ∈ L2, z < 256) (r0 : Rd w (fun _ => True) 1 (.slice B0 L.length c0) L.length (bytesV L)) (r1 : Rd w (fun _ => True) 1 (.slice B1 L2.length c1) L2.length (bytesV L2)) :
  Calls Tryz.prog 6 #[.agg #[.slice AI ids.length ci, .int .i64 (W : Int), .slice AT T.length ct, .slice AS S.length cs, .slice AF Fi.length cf], .slice B0 L.length c0, .slice B1 L2.length c1] w fun e w' => e = .returned (.bool true) ∧ Off Nob w w' := by
 have X0 : Hid (Off Nob w (w.alloc (.cells #[.slice AI ids.length ci, .int .i64 (W : Int), .slice AT T.length ct, .slice AS S.length cs, .slice AF Fi.length cf] 25)) ∧ Blk (w.alloc (.cells #[.slice AI ids.length ci, .int .i64 (W : Int), .slice AT T.length ct, .slice AS S.length cs, .slice AF Fi.length cf] 25)) w.heap.size 25 #[.slice AI ids.length ci, .int .i64 (W : Int), .slice AT T.length ct, .slice AS S.length cs, .slice AF Fi.length cf]) := hID ⟨(Off.refl _ _).alloc _, Blk.new _ _ _⟩
 have HF64 := hID (And.intro ho.t64 (And.intro ho.s64 ho.f64))
 have HZ := hID hZ
 have HOS := hID ho
 clear hZ ho
 have HZE := hID hz
 have HRL := hID (And.intro r0 r1)
 have HLL := hID (And.intro hL (And.intro hL2 g0))
 have hset := setErr_ok hz
 obtain ⟨hi1, hi16, _, ⟨Wx, hWx, w1, w4, hlt, hls, hlf, hpl⟩, _⟩ := hset
 obtain rfl : Wx = W := by omega
 have HW := hID (And.intro w1 (And.intro w4 (And.intro hi1 hi16)))
 have HLN := hID (And.intro hlt (And.intro hls hlf))
 have HPL : Hid (∀ b, b < 256 → ∀ i, i < 64 * Wx → topOf (prs Fi Wx ids.length) ≤ i → bitAt (tabRow T Wx b) i = false) := hID (by obtain ⟨pl, hpl2⟩ := Option.isSome_iff_exists.1 hpl; exact (plan_low hpl2).2.2)
 have d0 : decide ((30 : Int) < (L.length : Int)) = false := decide_eq_false (by omega)
 clear hz r0 r1 hL hL2 g0 hWx w1 w4 hi1 hi16 hlt hls hlf hpl
 go_enter Tryz.func6, Tryz.ntmps6
 go_wp2_with fail
 revert X0
 generalize (w.alloc (.cells #[.slice AI ids.length ci, .int .i64 (Wx : Int), .slice AT T.length ct, .slice AS S.length cs, .slice AF Fi.length cf] 25)) = w0
 intro X0
 have GC : Hid (∀ W, Off Nob w0 W → W.cell? ⟨w.heap.size, 0, none⟩ = some (.slice AI ids.length ci) ∧ W.cell? ⟨w.heap.size, 1, none⟩ = some (.int .i64 (Wx : Int)) ∧ W.cell? ⟨w.heap.size, 2, none⟩ = some (.slice AT T.length ct) ∧ W.cell? ⟨w.heap.size, 3, none⟩ = some (.slice AS S.length cs) ∧ W.cell? ⟨w.heap.size, 4, none⟩ = some (.slice AF Fi.length cf)) := hID (fun W o => by
  have h1 := X0.out.2.to (o.block _ X0.out.2.lt id)
  exact ⟨h1.cell 0, h1.cell 1, h1.cell 2, h1.cell 3, h1.cell 4⟩)
 refine (large_is AI AT AS AF ids.length T.length S.length Fi.length ci ct cs cf (Wx : Int) _).mono ?_
 rintro e v0 ⟨⟨q, rfl, hq⟩, o1⟩
 have Y0 := hID o1
 have HQ := hID hq
 clear o1 hq
 cases q
 case true =>
  go_wp2_with fail
  refine (shown_true _ (tz_keep HZ.out (X0.out.1.also Y0.out))).mono ?_
  rintro e vz ⟨rfl, oz⟩
  have YZ := hID ((X0.out.1.also Y0.out).also oz)
  clear oz
  go_wp2_with fail
  go_ret
  exact ⟨rfl, YZ.out⟩
 case false =>
  obtain ⟨s_0, s_1, s_2, s_3, s_4⟩ := GC.out _ (Y0.out)
  have hlim := HQ.out rfl
  have HSV : Hid (∀ V, Off Nob w V → SetV V (.slice AI ids.length ci) (.slice AT T.length ct) (.slice AS S.length cs) (.slice AF Fi.length cf) ids (Wx : Int) T S Fi) := hID (fun V o => HOS.out.setV o (by omega) (by omega) (by omega) (by omega))
  have HCK := hID (r_Check ids (Wx : Int) T S Fi v0 _ _ _ _ (HSV.out _ (X0.out.1.also Y0.out)))
  rw [HZE.out] at HCK
  clear hlim HQ
  go_wp2_with fail
  refine HCK.out.mono ?_
  rintro e v1 ⟨rfl, o1⟩
  have Y1 := hID (Y0.out.also o1)
  clear o1 HCK s_0 s_1 s_2 s_3 s_4
  obtain ⟨s_0, s_1, s_2, s_3, s_4⟩ := GC.out _ (Y1.out)
  have HROW := hID (row_ok3 Wx ids.length HW.out.1 HW.out.2.1 HW.out.2.2.1 HW.out.2.2.2 v1)
  go_wp2_with fail
  refine HROW.out.mono ?_
  rintro e w1 ⟨rfl, o1⟩
  have Y2 := hID (Y1.out.also o1)
  clear o1 HROW s_0 s_1 s_2 s_3 s_4
  have HLI := hID (And.intro (rowNF_in 3 Wx ids.length HW.out.1 HW.out.2.1 HW.out.2.2.1 HW.out.2.2.2) (And.intro (rowN3_ok Wx ids.length HW.out.1 HW.out.2.1 HW.out.2.2.1 HW.out.2.2.2) (And.intro (show rowZF 3 Wx ids.length ≤ 1203 by have := rowZ_le Wx ids.length HW.out.2.1 HW.out.2.2.2; unfold rowZF; omega) (And.intro (show 1 ≤ rowZF 3 Wx ids.length by unfold rowZF; omega) (And.intro (rowNF_seq 3 Wx ids.length) (rowNF_asc 3 Wx ids.length))))))
  have HAB : Hid (Wx = (rowNF 3 Wx ids.length).a ∧ ids.length = (rowNF 3 Wx ids.length).b) := hID ⟨rfl, rfl⟩
  revert HLI HAB
  generalize rowNF 3 Wx ids.length = l
  generalize rowZF 3 Wx ids.length = Z
  intro HLI HAB
  obtain ⟨ha, hb⟩ := HAB.out
  subst ha
  have HB := hID hb
  clear hb HAB
  have X1 : Hid (Off Nob w (w1.alloc (.cells #[.int .i64 l.a, .int .i64 l.b, .int .i64 l.t, .int .i64 l.s, .int .i64 l.f, .int .i64 l.st, .int .i64 l.n, .int .i64 l.h] 33)) ∧ Off Nob w0 (w1.alloc (.cells #[.int .i64 l.a, .int .i64 l.b, .int .i64 l.t, .int .i64 l.s, .int .i64 l.f, .int .i64 l.st, .int .i64 l.n, .int .i64 l.h] 33)) ∧ Blk (w1.alloc (.cells #[.int .i64 l.a, .int .i64 l.b, .int .i64 l.t, .int .i64 l.s, .int .i64 l.f, .int .i64 l.st, .int .i64 l.n, .int .i64 l.h] 33)) w1.heap.size 33 #[.int .i64 l.a, .int .i64 l.b, .int .i64 l.t, .int .i64 l.s, .int .i64 l.f, .int .i64 l.st, .int .i64 l.n, .int .i64 l.h]) := hID ⟨(X0.out.1.also Y2.out).alloc _, Y2.out.alloc _, Blk.new _ _ _⟩
  go_wp2_with fail
  obtain ⟨lb, hlb⟩ : ∃ lb, w1.heap.size = lb := ⟨_, rfl⟩
  rw [hlb] at X1 ⊢
  clear hlb
  revert X1
  generalize (w1.alloc (.cells #[.int .i64 l.a, .int .i64 l.b, .int .i64 l.t, .int .i64 l.s, .int .i64 l.f, .int .i64 l.st, .int .i64 l.n, .int .i64 l.h] 33)) = u0
  intro X1
  have GD : Hid (∀ W, Off Nob u0 W → W.cell? ⟨w.heap.size, 0, none⟩ = some (.slice AI ids.length ci) ∧ W.cell? ⟨w.heap.size, 1, none⟩ = some (.int .i64 l.a) ∧ W.cell? ⟨w.heap.size, 2, none⟩ = some (.slice AT T.length ct) ∧ W.cell? ⟨w.heap.size, 3, none⟩ = some (.slice AS S.length cs) ∧ W.cell? ⟨w.heap.size, 4, none⟩ = some (.slice AF Fi.length cf) ∧ W.cell? ⟨lb, 0, none⟩ = some (.int .i64 l.a) ∧ W.cell? ⟨lb, 1, none⟩ = some (.int .i64 l.b) ∧ W.cell? ⟨lb, 2, none⟩ = some (.int .i64 l.t) ∧ W.cell? ⟨lb, 3, none⟩ = some (.int .i64 l.s) ∧ W.cell? ⟨lb, 4, none⟩ = some (.int .i64 l.f) ∧ W.cell? ⟨lb, 5, none⟩ = some (.int .i64 l.st) ∧ W.cell? ⟨lb, 6, none⟩ = some (.int .i64 l.n) ∧ W.cell? ⟨lb, 7, none⟩ = some (.int .i64 l.h)) := hID (fun W o => by
   obtain ⟨s_0, s_1, s_2, s_3, s_4⟩ := GC.out W (X1.out.2.1.also o)
   have h2 := X1.out.2.2.to (o.block _ X1.out.2.2.lt id)
   exact ⟨s_0, s_1, s_2, s_3, s_4, h2.cell 0, h2.cell 1, h2.cell 2, h2.cell 3, h2.cell 4, h2.cell 5, h2.cell 6, h2.cell 7⟩)
  clear GC
  have GC := GD
  clear GD
  refine (new_ok Z _ HLI.out.2.2.2.1 (by have := HLI.out.2.2.1; omega)).mono ?_
  rintro e u1 ⟨p, rfl, Fp, hp1, hp2, hp3⟩
  have HP := hID (And.intro hp1 (And.intro hp2 hp3))
  clear hp1 hp2 hp3
  obtain ⟨s_0, s_1, s_2, s_3, s_4, l_0, l_1, l_2, l_3, l_4, l_5, l_6, l_7⟩ := GC.out _ (HP.out.2.1)
  have HOLD : Hid (∀ V, Off Nob u0 V → ∀ F : Nat → Prop, (∀ k, F k → u0.heap.size ≤ k) → SetV V (.slice AI ids.length ci) (.slice AT T.length ct) (.slice AS S.length cs) (.slice AF Fi.length cf) ids (l.a : Int) T S Fi ∧ Rd V (fun k => ¬ F k) 1 (.slice AT T.length ct) T.length (wordsV T) ∧ Rd V (fun k => ¬ F k) 1 (.slice AS S.length cs) S.length (wordsV S) ∧ Rd V (fun k => ¬ F k) 1 (.slice AF Fi.length cf) Fi.length (wordsV Fi) ∧ TzT V) := hID (fun V o F hF => by
   have ow := X1.out.1.also o
   have hs := X1.out.1.size
   have hn : ∀ k, Old w k → ¬ F k := fun k hk h => by have := hF k h; unfold Old at hk; omega
   exact ⟨HSV.out V ow, (HOS.out.t.mono hn).keep ow (fun _ _ h => h), (HOS.out.s.mono hn).keep ow (fun _ _ h => h), (HOS.out.f.mono hn).keep ow (fun _ _ h => h), tz_keep HZ.out ow⟩)
  have HZL : Hid ((List.replicate Z (0 : BitVec 64)).length = Z) := hID (List.length_replicate ..)
  obtain ⟨C0, hC0⟩ : ∃ C0, List.replicate Z (0 : BitVec 64) = C0 := ⟨_, rfl⟩
  rw [hC0] at HP HZL
  clear hC0
  have HS1 : Hid (Calls Tryz.prog 15 #[.pointer (some ⟨p, 0, none⟩), .agg #[.int .i64 l.a, .int .i64 l.b, .int .i64 l.t, .int .i64 l.s, .int .i64 l.f, .int .i64 l.st, .int .i64 l.n, .int .i64 l.h], .agg #[.slice AI ids.length ci, .int .i64 l.a, .slice AT T.length ct, .slice AS S.length cs, .slice AF Fi.length cf]] u1 fun e w' => (e = .returned (.int .i64 0)) ∧ ArTo u1 Fp p (suC l T S Fi C0) (suE l) w') := hID (by
   obtain ⟨q1, q2, q3, q4, q5⟩ := HOLD.out u1 HP.out.2.1 Fp HP.out.2.2
   have k := nsetup_any l u1 Fp p C0 [] HP.out.1 (by rw [HZL.out]; exact HLI.out.2.1) (by rw [HZL.out]; exact HLI.out.1) (by have h1 := HLI.out.1.a4; have h2 := Nat.mul_le_mul HLI.out.1.b16 HLI.out.1.a4; simp; omega) _ _ _ _ ids T S Fi q1 HZE.out HB.out q2 q3 q4 q5
   rwa [List.nil_append] at k)
  go_wp2_with fail
  refine HS1.out.mono ?_
  rintro e u2 ⟨rfl, h⟩
  have HT2 : Hid (Ar u2 (Grow Fp u1 u2) p (suC l T S Fi C0) (suE l) ∧ Off Nob u0 u2 ∧ ∀ k, Grow Fp u1 u2 k → u0.heap.size ≤ k) := hID ⟨h.1, HP.out.2.1.own h.2 HP.out.2.2, Grow.from_ HP.out.2.2 HP.out.2.1.size⟩
  clear h HS1 s_0 s_1 s_2 s_3 s_4 l_0 l_1 l_2 l_3 l_4 l_5 l_6 l_7
  have HSE : Hid ((suE l).length ≤ 1100) := hID (by have h1 := HLI.out.1.a4; have h2 := Nat.mul_le_mul HLI.out.1.b16 HLI.out.1.a4; rw [suE_len]; omega)
  have HSC : Hid ((suC l T S Fi C0).length = Z ∧ Placed l T S Fi (suC l T S Fi C0) ∧ stN l (suC l T S Fi C0) = List.replicate l.a 0) := hID ⟨by rw [suC_len]; exact HZL.out, Placed.setup HLI.out.2.2.2.2.2 (by rw [HZL.out]; exact HLI.out.1) HLN.out.1 HLN.out.2.1 (by rw [HLN.out.2.2, HB.out]), stN_setup (by rw [HZL.out]; exact HLI.out.1.hst)⟩
  revert HSE HSC HT2
  generalize suC l T S Fi C0 = D0
  generalize suE l = E0
  generalize Grow Fp u1 u2 = F2
  intro HT2 HSE HSC
  clear HP HZL
  obtain ⟨s_0, s_1, s_2, s_3, s_4, l_0, l_1, l_2, l_3, l_4, l_5, l_6, l_7⟩ := GC.out _ (HT2.out.2.1)
  have HST := hID (r20_start ids l.a T S Fi HZE.out u2 _ _ _ _ (HSV.out _ (X1.out.1.also HT2.out.2.1)))
  go_wp2_with fail
  refine HST.out.mono ?_
  rintro e u3 ⟨v, rfl, hv, o3⟩
  have HV := hID (And.intro hv o3)
  obtain ⟨AV, cv, rfl, _⟩ := hv.form
  clear hv o3 HST s_0 s_1 s_2 s_3 s_4 l_0 l_1 l_2 l_3 l_4 l_5 l_6 l_7
  have HN0 : Hid (OneX u0 (u3.alloc (.cells #[.slice AV l.a cv, .int .i64 0] 66)) u3.heap.size 66 #[.slice AV l.a cv, .int .i64 0] p D0 E0 [(.slice AV l.a cv, wordsV (stN l D0))]) := hID (by
   have h1 : OneX u0 (u3.alloc (.cells #[.slice AV l.a cv, .int .i64 0] 66)) u3.heap.size 66 #[.slice AV l.a cv, .int .i64 0] p D0 E0 [] := OneX.new HT2.out.1 HT2.out.2.1 HT2.out.2.2 (HV.out.2.alloc _) (Blk.new _ _ _) HV.out.2.size
   have hl : (wordsV (stN l D0)).length = l.a := by rw [wordsV_len, stN_len]
   obtain ⟨F, ha, ho, hf, hb, hn, hg, _⟩ := h1
   refine ⟨F2, HT2.out.1.keep (HV.out.2.alloc _) (fun _ _ h => h), ho, HT2.out.2.2, hb, fun h => by have := HT2.out.1.lt _ h; have := HV.out.2.size; omega, hg, fun y hy => ?_⟩
   obtain rfl := List.mem_singleton.1 hy
   show Rd _ _ 1 (.slice AV l.a cv) (wordsV (stN l D0)).length (wordsV (stN l D0))
   rw [hl, HSC.out.2.2]
   obtain ⟨A, c, he, hm, hll, hc⟩ := HV.out.1
   cases he
   refine ⟨_, _, rfl, hm, hll, fun hn => ?_⟩
   obtain ⟨g, of, rfl, hge, hlt, hx⟩ := hc hn
   exact ⟨g, of, rfl, ⟨fun h => by have := HT2.out.1.lt _ h; omega, fun e => by omega⟩, by simp; omega, fun j u hu => (World.cell?_of_block (by exact Below.heap_alloc _ _ _ hlt)).trans (hx j u hu)⟩)
  go_wp2_with fail
  obtain ⟨xb, hxb⟩ : ∃ xb, u3.heap.size = xb := ⟨_, rfl⟩
  rw [hxb] at HN0 ⊢
  clear hxb HV
  revert HN0
  generalize (u3.alloc (.cells #[.slice AV l.a cv, .int .i64 0] 66)) = u4
  intro HN0
  clear HT2
  have HBB : Hid (∀ W, Off Nob u0 W → (∀ k, k < L.length → ∃ b o, B0 = some ⟨b, o, none⟩ ∧ W.cell? ⟨b, o + k, none⟩ = some (.int .u8 ((L.getD k 0 : Nat) : Int))) ∧ (∀ k, k < L2.length → ∃ b o, B1 = some ⟨b, o, none⟩ ∧ W.cell? ⟨b, o + k, none⟩ = some (.int .u8 ((L2.getD k 0 : Nat) : Int)))) := hID (fun W o => by
   obtain ⟨_, _, e1, h1⟩ := bytes_cells HRL.out.1
   obtain ⟨_, _, e2, h2⟩ := bytes_cells HRL.out.2
   cases e1
   cases e2
   exact ⟨h1 _ (X1.out.1.also o), h2 _ (X1.out.1.also o)⟩)
  have HBY : Hid (∀ (m : BitVec 64) (z : Int), isM m = true → n64 m = z → ∀ (V : World) (x : Nat) (F : Nat → Prop) (C : List (BitVec 64)) (E : List Ev), x < 256 → C.length = Z → E.length ≤ 40000 → Ar V F p C E → Calls Tryz.prog 16 #[.pointer (some ⟨p, 0, none⟩), .agg #[.int .i64 l.a, .int .i64 l.b, .int .i64 l.t, .int .i64 l.s, .int .i64 l.f, .int .i64 l.st, .int .i64 l.n, .int .i64 l.h], .int .u64 (x : Int), .int .u64 z] V fun e w' => e = .returned (.int .i64 0) ∧ ArTo V F p (byC l (BitVec.ofNat 64 x) m C) (byE l E) w') := hID (fun m z hm hz V x F C E hx hc he ha => by
   subst hz
   have h2 := HLI.out.1.a4
   have h3 := Nat.mul_le_mul HLI.out.1.b16 (show 2 * l.a + 1 ≤ 9 by omega)
   have k := nbyte_any l (BitVec.ofNat 64 x) m hm V F p C E ha (by rw [hc]; exact HLI.out.2.1) (by rw [hc]; exact HLI.out.1) (by omega)
   rw [n64_ofNat x hx] at k
   exact k)
  have HBE : Hid (∀ E : List Ev, (byE l E).length ≤ E.length + 1188) := hID (fun E => by
   have h2 := HLI.out.1.a4
   have h3 := Nat.mul_le_mul HLI.out.1.b16 (show 2 * l.a + 1 ≤ 9 by omega)
   rw [byE_len]
   omega)
  have HLOW0 : Hid (LowB (stN l D0) (topOf (prs Fi l.a ids.length))) := hID (by rw [HSC.out.2.2]; exact low_zero _ _)
  go_wp2_with fail
  go_loopw [13] (fun q wr => ∃ (k j : Nat) (AV : Option Addr) (cv : Nat) (C : List (BitVec 64)) (E : List Ev), q = .int .i64 (k : Int) ∧ k ≤ L.length ∧ j ≤ k ∧ OneX u0 wr xb 66 #[.slice AV l.a cv, .int .i64 (j : Int)] p C E [(.slice AV l.a cv, wordsV (stN l C))] ∧ C.length = Z ∧ Placed l T S Fi C ∧ LowB (stN l C) (topOf (prs Fi l.a ids.length)) ∧ E.length ≤ 1100 + 1188 * k) (fun q wr => L.length - (intOf q).toNat)
  case atStart => exact ⟨0, 0, AV, cv, _, _, rfl, Nat.zero_le _, Nat.le_refl _, HN0.out, HSC.out.1, HSC.out.2.1, HLOW0.out, HSE.out⟩
  case round =>
   obtain ⟨k, j, AV, cv, C, E, rfl, hk, hj, hone, hcn, hpl, hlow, hen⟩ := hrel
   have HR := hID (And.intro hone (And.intro hcn (And.intro hpl (And.intro hlow hen))))
   clear hone hcn hpl hlow hen HN0 HSC HSE HLOW0
   obtain ⟨s_0, s_1, s_2, s_3, s_4, l_0, l_1, l_2, l_3, l_4, l_5, l_6, l_7⟩ := GC.out _ (HR.out.1.old)
   have hsl : (wordsV (stN l C)).length = l.a := by rw [wordsV_len, stN_len]
   have HSL := hID hsl
   clear hsl
   by_cases hlt : k < L.length
   ·have d1 : decide ((k : Int) < (L.length : Int)) = true := decide_eq_true (by omega)
    obtain ⟨b, o, hB0, ck⟩ := (HBB.out _ HR.out.1.old).1 k hlt
    subst hB0
    have HX : Hid (L.getD k 0 < 256) := hID (HLL.out.1 _ (getN_of hlt))
    obtain ⟨x, hx⟩ : ∃ x, L.getD k 0 = x := ⟨_, rfl⟩
    have HEL : Hid (∀ W, Off Nob u0 W → W.cell? ⟨b, o + k, none⟩ = some (.int .u8 (x : Int))) := hID (fun W ow => by
     obtain ⟨b', o', hB', ck'⟩ := (HBB.out _ ow).1 k hlt
     cases hB'
     rw [← hx]
     exact ck')
    rw [hx] at ck HX
    clear hx
    have wx : IntKind.u64.wrap (x : Int) = (x : Int) := IntWalk.u64_in _ (by have := HX.out; omega)
    have hk30 : k ≤ 30 := by have := HLL.out.2.2; omega
    have hj30 : j ≤ 30 := by omega
    have HK := hID (And.intro hk30 hj30)
    by_cases hpad : k < L2.length ∧ L2.getD k 0 % 2 = 1
    ·obtain ⟨hp1, hp2⟩ := hpad
     have d2 : decide ((k : Int) < (L2.length : Int)) = true := decide_eq_true (by omega)
     obtain ⟨pb, po, hB1, pk⟩ := (HBB.out _ HR.out.1.old).2 k hp1
     subst hB1
     obtain ⟨y, hy⟩ : ∃ y, L2.getD k 0 = y := ⟨_, rfl⟩
     rw [hy] at pk hp2
     clear hy
     have hpt : (y : Int).tmod 2 = 1 := by
      have h := Int.ofNat_tmod y 2
      rw [hp2] at h
      exact h.symm
     clear hp2
     have HCB : Hid (∀ V, Off Nob wr V → Calls Tryz.prog 16 #[.pointer (some ⟨p, 0, none⟩), .agg #[.int .i64 l.a, .int .i64 l.b, .int .i64 l.t, .int .i64 l.s, .int .i64 l.f, .int .i64 l.st, .int .i64 l.n, .int .i64 l.h], .int .u64 (x : Int), .int .u64 0] V fun e w' => e = .returned (.int .i64 0) ∧ OneX u0 w' xb 66 #[.slice AV l.a cv, .int .i64 (j : Int)] p (byC l (BitVec.ofNat 64 x) 0#64 C) (byE l E) [(.slice AV l.a cv, wordsV (stN l C))]) := hID (fun V o => (HR.out.1.off o).callQ (Q := fun e w' => e = .returned (.int .i64 0)) (fun F ha hF => HBY.out 0#64 0 (by decide) rfl V x F C E HX.out HR.out.2.1 (by have := HR.out.2.2.2.2; have := HK.out.1; omega) ha))
     go_wp2_with fail
     go_region_held3 (fun W => W.cell? ⟨b, o + k, none⟩ = some (.int .u8 (x : Int)) ∧ W.cell? ⟨lb, 0, none⟩ = some (.int .i64 l.a) ∧ W.cell? ⟨lb, 1, none⟩ = some (.int .i64 l.b) ∧ W.cell? ⟨lb, 2, none⟩ = some (.int .i64 l.t) ∧ W.cell? ⟨lb, 3, none⟩ = some (.int .i64 l.s) ∧ W.cell? ⟨lb, 4, none⟩ = some (.int .i64 l.f) ∧ W.cell? ⟨lb, 5, none⟩ = some (.int .i64 l.st) ∧ W.cell? ⟨lb, 6, none⟩ = some (.int .i64 l.n) ∧ W.cell? ⟨lb, 7, none⟩ = some (.int .i64 l.h))
      (first | with_reducible assumption | go_keep)
      (first
       | (go_at_call 16; refine (HCB.out _ (Off.refl _ _).drew).mono ?_; rintro e b1 ⟨rfl, hz⟩; have HN := hID hz; clear hz s_0 s_1 s_2 s_3 s_4 l_0 l_1 l_2 l_3 l_4 l_5 l_6 l_7 ck; obtain ⟨s_0, s_1, s_2, s_3, s_4, l_0, l_1, l_2, l_3, l_4, l_5, l_6, l_7⟩ := GC.out _ (HN.out.old); have ck := HEL.out _ HN.out.old))
     clear HCB
     have HSTE : Hid (stN l (byC l (BitVec.ofNat 64 x) 0#64 C) = stN l C) := hID (byC_still HLI.out.2.2.2.2.1 (by rw [HR.out.2.1]; exact HLI.out.1) _)
     have HDL : Hid ((byC l (BitVec.ofNat 64 x) 0#64 C).length = Z) := hID (by rw [byC_len]; exact HR.out.2.1)
     have HPD : Hid (Placed l T S Fi (byC l (BitVec.ofNat 64 x) 0#64 C)) := hID (Placed.byte HLI.out.2.2.2.2.1 HR.out.2.2.1 _ _)
     have HLW : Hid (LowB (stN l (byC l (BitVec.ofNat 64 x) 0#64 C)) (topOf (prs Fi l.a ids.length))) := hID (by rw [HSTE.out]; exact HR.out.2.2.2.1)
     have HE1 : Hid ((byE l E).length ≤ 1100 + 1188 * (k + 1)) := hID (by have := HBE.out E; have := HR.out.2.2.2.2; omega)
     have HJ : Hid (∀ r, r < l.b → (byC l (BitVec.ofNat 64 x) 0#64 C).getD (l.h + r) 0 = 0) := hID (fun r hr => by rw [byC_hits HLI.out.2.2.2.2.1 (by rw [HR.out.2.1]; exact HLI.out.1) HR.out.2.2.1 HF64.out.2.2 _ _ hr]; exact BitVec.zero_and)
     rw [← HSTE.out] at HN
     clear HSTE HR
     revert HN HDL HPD HLW HE1 HJ
     generalize byC l (BitVec.ofNat 64 x) 0#64 C = D
     generalize byE l E = E1
     intro HN HDL HPD HLW HE1 HJ
     obtain ⟨F1, ha1⟩ := HN.out.ar
     have HCA := hID (cells_ok ha1)
     clear ha1
     go_wp2_with fail
     refine HCA.out.mono ?_
     rintro e b2 ⟨v1, rfl, ow1, o1⟩
     have HRD1 := hID (NewU.rd ow1).any
     obtain ⟨g1, cap1, rfl, hc1, hm1⟩ := own_some ow1 (by rw [HDL.out]; exact HLI.out.2.2.2.1)
     have HN3 := hID (HN.out.off o1)
     clear ow1 o1 HCA s_0 s_1 s_2 s_3 s_4 l_0 l_1 l_2 l_3 l_4 l_5 l_6 l_7 ck HN
     obtain ⟨s_0, s_1, s_2, s_3, s_4, l_0, l_1, l_2, l_3, l_4, l_5, l_6, l_7⟩ := GC.out _ (HN3.out.old)
     rw [HDL.out] at hc1 HRD1 ⊢
     rw [u64s_words] at HRD1
     have x_0 := HN3.out.blk.cell 0
     have x_1 := HN3.out.blk.cell 1
     have hst := HLI.out.1.hst
     have hhh := HLI.out.1.hh
     have hbl := HB.out
     have haa := HLI.out.1.a1
     have hz3 := HLI.out.2.2.1
     obtain ⟨e2, he2⟩ : ∃ e2, l.st + l.a = e2 := ⟨_, rfl⟩
     obtain ⟨e3, he3⟩ : ∃ e3, l.h + ids.length = e3 := ⟨_, rfl⟩
     have hs2 : (l.st : Int) + (l.a : Int) = (e2 : Int) := by omega
     have hs3 : (l.h : Int) + (ids.length : Int) = (e3 : Int) := by omega
     have hw2 : IntKind.i64.wrap (e2 : Int) = (e2 : Int) := IntWalk.i64_in _ (by omega)
     have hw3 : IntKind.i64.wrap (e3 : Int) = (e3 : Int) := IntWalk.i64_in _ (by omega)
     have i0 : (0 : Int) ≤ (l.st : Int) := by omega
     have i1 : (l.st : Int) ≤ (e2 : Int) := by omega
     have i2 : (e2 : Int) ≤ (cap1 : Int) := by omega
     have i3 : (e2 : Int) ≤ (Z : Int) := by omega
     have i4 : (l.st : Int) ≤ (cap1 : Int) := by omega
     have i5 : (Z : Int) ≤ (cap1 : Int) := by omega
     have i6 : (0 : Int) ≤ (e2 : Int) := by omega
     have hne1 : ¬ cap1 = l.st := by omega
     have hne2 : ¬ e2 = l.st := by omega
     have dl1 : decide ((Z : Int) < (e2 : Int)) = false := decide_eq_false (by omega)
     have dl2 : decide ((Z : Int) < (e3 : Int)) = false := decide_eq_false (by omega)
     have dn1 : decide (Z < e2) = false := decide_eq_false (by omega)
     have dn2 : decide (Z < e3) = false := decide_eq_false (by omega)
     have HE2 : Hid (e2 - l.st = l.a ∧ l.st + l.a ≤ Z ∧ l.h + ids.length ≤ Z ∧ l.a ≤ 4) := hID ⟨by omega, hst, by omega, HLI.out.1.a4⟩
     clear hst hhh hbl haa hz3 he2 he3
     have HSM : Hid (∀ V, Off Nob b2 V → Calls Tryz.prog 19 #[.slice (some ⟨g1, l.st, none⟩) (e2 - l.st) (cap1 - l.st), .slice AV l.a cv] V (RetV V (.bool true))) := hID (fun V o => by
      have h4 := HE2.out.2.2.2
      rw [HE2.out.1]
      have k1 : Rd V (fun _ => True) 1 (.slice (some ⟨g1, l.st, none⟩) l.a (cap1 - l.st)) l.a (wordsV (stN l D)) := by
       have h := Rd.part (HRD1.out.keepT o) l.st l.a HE2.out.2.1 (cap1 - l.st)
       rw [Nat.zero_add] at h
       rwa [stN_part HE2.out.2.1 HDL.out] at h
      have k2 : Rd V (fun _ => True) 1 (.slice AV l.a cv) l.a (wordsV (stN l D)) := by
       have h := HN3.out.row (V := .slice AV l.a cv) (X := wordsV (stN l D)) (by simp)
       rw [wordsV_len, stN_len] at h
       exact h.keepT o
      have k := r_same (stN l D) (stN l D) (by rw [stN_len]; omega) (by rw [stN_len]; omega) V _ _ (by rw [stN_len]; exact k1) (by rw [stN_len]; exact k2)
      rwa [decide_eq_true rfl] at k)
     go_wp2_with fail
     go_region_held3 (fun W => W.cell? ⟨w.heap.size, 0, none⟩ = some (.slice AI ids.length ci) ∧ W.cell? ⟨w.heap.size, 1, none⟩ = some (.int .i64 l.a) ∧ W.cell? ⟨lb, 5, none⟩ = some (.int .i64 l.st) ∧ W.cell? ⟨lb, 7, none⟩ = some (.int .i64 l.h) ∧ W.cell? ⟨xb, 0, none⟩ = some (.slice AV l.a cv))
      (first | with_reducible assumption | go_keep)
      (first
       | (go_at_call 19; refine (HSM.out _ (Off.refl _ _).drew).mono ?_; rintro e b3 ⟨rfl, hz⟩; have HN5 := hID (And.intro (HN3.out.off ((Off.refl _ _).drew.also hz)) ((Off.refl Nob b2).drew.also hz)); clear hz s_0 s_1 s_2 s_3 s_4 l_0 l_1 l_2 l_3 l_4 l_5 l_6 l_7 x_0 x_1; obtain ⟨s_0, s_1, s_2, s_3, s_4, l_0, l_1, l_2, l_3, l_4, l_5, l_6, l_7⟩ := GC.out _ (HN5.out.1.old); have x_0 := HN5.out.1.blk.cell 0))
     clear HSM hs2 hs3 hw2 hw3 i0 i1 i2 i3 i4 i5 i6 hne1 hne2 dl1 dl2 dn1 dn2 hm1 hc1 s_0 s_1 s_2 s_3 s_4 l_0 l_1 l_2 l_3 l_4 l_5 l_6 l_7 x_0 HN3
     go_wp2_with fail
     go_loopw [17, 18] (fun q i wq => ∃ r : Nat, r ≤ ids.length ∧ i = .int .i64 (r : Int) ∧ q = .int .i64 0 ∧ Off Nob b3 wq) (fun q i wq => ids.length - (intOf i).toNat)
     case atStart => exact ⟨0, Nat.zero_le _, rfl, rfl, Off.refl _ _⟩
     case round =>
      obtain ⟨r, hr, rfl, rfl, ho⟩ := hrel
      have HO := hID ho
      clear ho
      obtain ⟨s_0, s_1, s_2, s_3, s_4, l_0, l_1, l_2, l_3, l_4, l_5, l_6, l_7⟩ := GC.out _ (HN5.out.1.old.also HO.out)
      by_cases hrl : r < ids.length
      ·have e1 : decide ((r : Int) < (ids.length : Int)) = true := decide_eq_true (by omega)
       obtain ⟨ix, hix⟩ : ∃ ix, l.h + r = ix := ⟨_, rfl⟩
       have hs4 : (l.h : Int) + (r : Int) = (ix : Int) := by omega
       have hix3 := HE2.out.2.2.1
       have hixz : ix < Z := by omega
       have hix4 := HLI.out.2.2.1
       have hix5 : ix ≤ 1203 := by omega
       have hixw : (l.h : Int) + (r : Int) ≤ 1203 := by omega
       have gcell := Rd.word (HRD1.out.keepT (HN5.out.2.also HO.out)) hixz
       rw [map_get, ← hix, Nat.zero_add] at gcell
       clear hix4 hix3
       have hrn : r ≤ 100000 := by have := HW.out.2.2.2; omega
       rw [HJ.out r (by have := HB.out; omega)] at gcell
       have gz : ((0 : BitVec 64).toNat : Int) = 0 := rfl
       rw [gz] at gcell
       clear gz
       rw [hix] at gcell
       go_wp2_with fail
       go_roundw
       case rel => exact ⟨r + 1, hrl, by go_num, rfl, HO.out⟩
       case measure => simp [intOf]; omega
      ·obtain rfl : r = ids.length := by omega
       have e1 : decide ((ids.length : Int) < (ids.length : Int)) = false := decide_eq_false (by omega)
       go_wp2_with fail
       go_roundw
       case rel => exact ⟨k + 1, j, AV, cv, D, E1, rfl, by omega, by omega, (HN5.out.1.off HO.out).sub (by intro y hy; exact hy), HDL.out, HPD.out, HLW.out, HE1.out⟩
       case measure => simp [intOf]; omega
    ·have hno : (decide ((k : Int) < (L2.length : Int)) = true ∧ k < L2.length ∧ ∃ pb po y, B1 = some ⟨pb, po, none⟩ ∧ wr.cell? ⟨pb, po + k, none⟩ = some (.int .u8 ((y : Nat) : Int)) ∧ (y : Int).tmod 2 = 0) ∨ (decide ((k : Int) < (L2.length : Int)) = false ∧ decide (k < L2.length) = false) := by
      by_cases h1 : k < L2.length
      ·left
       obtain ⟨pb, po, hB1, pk⟩ := (HBB.out _ HR.out.1.old).2 k h1
       refine ⟨decide_eq_true (by omega), h1, pb, po, _, hB1, pk, ?_⟩
       have h2 : L2.getD k 0 % 2 = 0 := by
        have : ¬ L2.getD k 0 % 2 = 1 := fun h => hpad ⟨h1, h⟩
        omega
       have h := Int.ofNat_tmod (L2.getD k 0) 2
       rw [h2] at h
       exact h.symm
      ·right
       exact ⟨decide_eq_false (by omega), decide_eq_false h1⟩
     have HSTP : Hid (∀ V, Off Nob wr V → Calls Tryz.prog 30 #[.agg #[.slice AI ids.length ci, .int .i64 l.a, .slice AT T.length ct, .slice AS S.length cs, .slice AF Fi.length cf], .agg #[.slice AV l.a cv, .int .i64 (j : Int)], .int .u8 (x : Int)] V (fun e w' => ∃ u, e = .returned (.tuple #[.agg #[u, .int .i64 ((j : Int) + 1)], .int .i64 0]) ∧ Rd w' (fun k => V.heap.size ≤ k) 1 u l.a (wordsV (stepX T S l.a (stN l C) x)) ∧ Off Nob V w')) := hID (fun V o => r20_step ids l.a T S Fi HZE.out (stN l C) (stN_len _ _) (stN_lt _ _) HR.out.2.2.2.1 j (by have := HK.out.2; omega) x HX.out V _ _ _ _ _ (HSV.out V (X1.out.1.also (HR.out.1.old.also o))) (by
      have h := HR.out.1.row (V := .slice AV l.a cv) (X := wordsV (stN l C)) (by simp)
      rw [wordsV_len, stN_len] at h
      exact h.keepT o))
     have x_0 := HR.out.1.blk.cell 0
     have x_1 := HR.out.1.blk.cell 1
     clear hpad
     rcases hno with ⟨d2, dn, pb, po, y, hB1, pk, hpt⟩ | ⟨d2, d2n⟩
     ·subst hB1
      go_wp2_with fail
      clear pk hpt d2 dn
      refine wp_region_held_drew (S := fun W => W.cell? ⟨w.heap.size, 0, none⟩ = some (.slice AI ids.length ci) ∧ W.cell? ⟨w.heap.size, 1, none⟩ = some (.int .i64 l.a) ∧ W.cell? ⟨w.heap.size, 2, none⟩ = some (.slice AT T.length ct) ∧ W.cell? ⟨w.heap.size, 3, none⟩ = some (.slice AS S.length cs) ∧ W.cell? ⟨w.heap.size, 4, none⟩ = some (.slice AF Fi.length cf) ∧ W.cell? ⟨b, o + k, none⟩ = some (.int .u8 (x : Int))) (by kernel_rfl) ?_ (fun hHeld => ?_)
      ·(try dsimp only); exact ⟨s_0, s_1, s_2, s_3, s_4, ck⟩
      refine wpAnyH_take (i := 0) (v := ?v0) rfl (by kernel_rfl) (by kernel_rfl) (by kernel_rfl) (fun _ _ _ h => h) (Or.inl ⟨by rfl, ?h0⟩) (by assumption) ?r0
      case h0 => (intro w hSw; (try dsimp only at hSw); go_simp <;> with_reducible rfl)
      try simp only [Act.put, qL1, qL2, qL3, qL4, qL5, qL6]
      refine wpAnyH_take (i := 2) (v := ?v1) rfl (by kernel_rfl) (by kernel_rfl) (by kernel_rfl) (fun _ _ _ h => h) (Or.inl ⟨by rfl, ?h1⟩) (by assumption) ?r1
      case h1 => (intro w hSw; (try dsimp only at hSw); go_simp <;> with_reducible rfl)
      try simp only [Act.put, qL1, qL2, qL3, qL4, qL5, qL6]
      refine wpAnyH_take (i := 3) (v := ?v2) rfl (by kernel_rfl) (by kernel_rfl) (by kernel_rfl) (fun _ _ _ h => h) (Or.inl ⟨by rfl, ?h2⟩) (by assumption) ?r2
      case h2 => (intro w hSw; (try dsimp only at hSw); go_simp <;> with_reducible rfl)
      try simp only [Act.put, qL1, qL2, qL3, qL4, qL5, qL6]
      refine wpAnyH_take (i := 4) (v := ?v3) rfl (by kernel_rfl) (by kernel_rfl) (by kernel_rfl) (fun _ _ _ h => h) (Or.inl ⟨by rfl, ?h3⟩) (by assumption) ?r3
      case h3 => (intro w hSw; (try dsimp only at hSw); go_simp <;> with_reducible rfl)
      try simp only [Act.put, qL1, qL2, qL3, qL4, qL5, qL6]
      refine wpAnyH_take (i := 5) (v := ?v4) rfl (by kernel_rfl) (by kernel_rfl) (by kernel_rfl) (fun _ _ _ h => h) (Or.inl ⟨by rfl, ?h4⟩) (by assumption) ?r4
      case h4 => (intro w hSw; (try dsimp only at hSw); go_simp <;> with_reducible rfl)
      try simp only [Act.put, qL1, qL2, qL3, qL4, qL5, qL6]
      refine wpAnyH_ready (rs := [1]) (by kernel_rfl) (by simp) ?_
      refine AllReadyH.cons rfl (fun K hK => ?s5) ?m5
      case s5 =>
       go_simp
       refine hK.out _ _ ?_ (fun hHeld => ?_)
       ·first | with_reducible assumption | go_keep
       clear hK K
       try simp only [Act.put, qL1, qL2, qL3, qL4, qL5, qL6]
       refine wpAnyH_ready (rs := [6]) (by kernel_rfl) (by simp) ?_
       refine AllReadyH.cons rfl (fun K hK => ?s6) ?m6
       case s6 =>
        go_simp
        refine (HSTP.out _ (Off.refl _ _).drew).mono ?_
        rintro e a1 ⟨u, rfl, hu, o1⟩
        obtain ⟨AX, cx, rfl, _⟩ := hu.form
        have HN1 : Hid (OneX u0 a1 xb 66 #[.slice AV l.a cv, .int .i64 (j : Int)] p C E [(.slice AX l.a cx, wordsV (stepX T S l.a (stN l C) x)), (.slice AV l.a cv, wordsV (stN l C))]) := hID ((HR.out.1.off (Off.drew (Off.refl _ _))).push o1 (by rw [wordsV_len, stepX_len]; exact hu))
        clear hu o1 HSTP x_0 x_1 ck s_0 s_1 s_2 s_3 s_4 l_0 l_1 l_2 l_3 l_4 l_5 l_6 l_7
        obtain ⟨s_0, s_1, s_2, s_3, s_4, l_0, l_1, l_2, l_3, l_4, l_5, l_6, l_7⟩ := GC.out _ (HN1.out.old)
        have ck := HEL.out _ HN1.out.old
        have z0 := HN1.out.blk.cell 0
        have z1 := HN1.out.blk.cell 1
        have f0 := HN1.out.blk.frozen 0
        have f1 := HN1.out.blk.frozen 1
        have HN2 := hID (HN1.out.turn (V' := .slice AX l.a cx) (n' := .int .i64 ((j : Int) + 1)))
        have S2 : Hid (((a1.setCell ⟨xb, 0, none⟩ (.slice AX l.a cx)).setCell ⟨xb, 1, none⟩ (.int .i64 ((j : Int) + 1))).cell? ⟨w.heap.size, 0, none⟩ = some (.slice AI ids.length ci) ∧ ((a1.setCell ⟨xb, 0, none⟩ (.slice AX l.a cx)).setCell ⟨xb, 1, none⟩ (.int .i64 ((j : Int) + 1))).cell? ⟨w.heap.size, 1, none⟩ = some (.int .i64 l.a) ∧ ((a1.setCell ⟨xb, 0, none⟩ (.slice AX l.a cx)).setCell ⟨xb, 1, none⟩ (.int .i64 ((j : Int) + 1))).cell? ⟨w.heap.size, 2, none⟩ = some (.slice AT T.length ct) ∧ ((a1.setCell ⟨xb, 0, none⟩ (.slice AX l.a cx)).setCell ⟨xb, 1, none⟩ (.int .i64 ((j : Int) + 1))).cell? ⟨w.heap.size, 3, none⟩ = some (.slice AS S.length cs) ∧ ((a1.setCell ⟨xb, 0, none⟩ (.slice AX l.a cx)).setCell ⟨xb, 1, none⟩ (.int .i64 ((j : Int) + 1))).cell? ⟨w.heap.size, 4, none⟩ = some (.slice AF Fi.length cf) ∧ ((a1.setCell ⟨xb, 0, none⟩ (.slice AX l.a cx)).setCell ⟨xb, 1, none⟩ (.int .i64 ((j : Int) + 1))).cell? ⟨b, o + k, none⟩ = some (.int .u8 (x : Int))) := hID (by
         obtain ⟨s_0, s_1, s_2, s_3, s_4, l_0, l_1, l_2, l_3, l_4, l_5, l_6, l_7⟩ := GC.out _ (HN2.out.old)
         exact ⟨s_0, s_1, s_2, s_3, s_4, HEL.out _ HN2.out.old⟩)
        go_simp
        refine hK.out _ _ ?_ (fun hHeld => ?_)
        ·first | exact ⟨s_0, s_1, s_2, s_3, s_4, ck⟩ | go_keep
        clear hK K
        try simp only [Act.put, qL1, qL2, qL3, qL4, qL5, qL6]
        refine wpAnyH_take (i := 7) (v := ?v7) rfl (by kernel_rfl) (by kernel_rfl) (by kernel_rfl) (fun _ _ _ h => h) (Or.inl ⟨by rfl, ?h7⟩) (by assumption) ?r7
        case h7 => (intro w hSw; (try dsimp only at hSw); go_simp <;> with_reducible rfl)
        try simp only [Act.put, qL1, qL2, qL3, qL4, qL5, qL6]
        refine wpAnyH_take (i := 8) (v := ?v8) rfl (by kernel_rfl) (by kernel_rfl) (by kernel_rfl) (fun _ _ _ h => h) (Or.inl ⟨by rfl, ?h8⟩) (by assumption) ?r8
        case h8 => (intro w hSw; (try dsimp only at hSw); go_simp <;> with_reducible rfl)
        try simp only [Act.put, qL1, qL2, qL3, qL4, qL5, qL6]
        refine wpAnyH_take (i := 9) (v := ?v9) rfl (by kernel_rfl) (by kernel_rfl) (by kernel_rfl) (fun _ _ _ h => h) (Or.inl ⟨by rfl, ?h9⟩) (by assumption) ?r9
        case h9 => (intro w hSw; (try dsimp only at hSw); go_simp <;> with_reducible rfl)
        try simp only [Act.put, qL1, qL2, qL3, qL4, qL5, qL6]
        refine wpAnyH_ready (rs := [10]) (by kernel_rfl) (by simp) ?_
        refine AllReadyH.cons rfl (fun K hK => ?s10) ?m10
        case s10 =>
         go_simp
         refine hK.out _ _ ?_ (fun hHeld => ?_)
         ·first | exact S2.out | go_keep
         clear hK K
         try simp only [Act.put, qL1, qL2, qL3, qL4, qL5, qL6]
         refine wpAnyH_done (by kernel_rfl) ?_ _
         clear S2 HN1 z0 z1 f0 f1 ck s_0 s_1 s_2 s_3 s_4 l_0 l_1 l_2 l_3 l_4 l_5 l_6 l_7 hHeld
         revert HN2
         generalize ((a1.setCell ⟨xb, 0, none⟩ (.slice AX l.a cx)).setCell ⟨xb, 1, none⟩ (.int .i64 ((j : Int) + 1))) = a2
         intro HN2
         rw [show ((j : Int) + 1) = ((j + 1 : Nat) : Int) by omega] at HN2
         obtain ⟨s_0, s_1, s_2, s_3, s_4, l_0, l_1, l_2, l_3, l_4, l_5, l_6, l_7⟩ := GC.out _ (HN2.out.old)
         have x_0 := HN2.out.blk.cell 0
         have x_1 := HN2.out.blk.cell 1
         have HHT : Hid (∀ V, Off Nob a2 V → Calls Tryz.prog 31 #[.agg #[.slice AI ids.length ci, .int .i64 l.a, .slice AT T.length ct, .slice AS S.length cs, .slice AF Fi.length cf], .agg #[.slice AX l.a cx, .int .i64 ((j + 1 : Nat) : Int)]] V (fun e w' => ∃ v, e = .returned (.tuple #[v, .int .i64 0]) ∧ OwnL V w' 3 1 v (hitsTo Fi l.a (stepX T S l.a (stN l C) x) ids.length).length (natsV (hitsTo Fi l.a (stepX T S l.a (stN l C) x) ids.length)))) := hID (fun V o => r20_Hits ids l.a T S Fi HZE.out (stepX T S l.a (stN l C) x) (stepX_len _ _ _ _ _) (stepX_lt _ _ _ _ _) (low_step HPL.out _ HX.out) (j + 1) (by have := HK.out.2; omega) V _ _ _ _ _ (HSV.out V (X1.out.1.also (HN2.out.old.also o))) (by
          have h := HN2.out.row (V := .slice AX l.a cx) (X := wordsV (stepX T S l.a (stN l C) x)) (by simp)
          rw [wordsV_len, stepX_len] at h
          exact h.keepT o))
         go_wp2_with fail
         refine (HHT.out _ (Off.refl _ _)).mono ?_
         rintro e a3 ⟨v3, rfl, hown⟩
         have hrd3 : Rd a3 (fun k => a2.heap.size ≤ k) 1 v3 (hitsTo Fi l.a (stepX T S l.a (stN l C) x) ids.length).length (natsV (hitsTo Fi l.a (stepX T S l.a (stN l C) x) ids.length)) := Rd.own hown.1 (fun k hk => (hown.1.lt k hk).1)
         obtain ⟨AH, cH, rfl, _⟩ := hrd3.form
         have HN3 : Hid (OneX u0 a3 xb 66 #[.slice AX l.a cx, .int .i64 ((j + 1 : Nat) : Int)] p C E [(.slice AH (hitsTo Fi l.a (stepX T S l.a (stN l C) x) ids.length).length cH, natsV (hitsTo Fi l.a (stepX T S l.a (stN l C) x) ids.length)), (.slice AX l.a cx, wordsV (stepX T S l.a (stN l C) x))]) := hID ((HN2.out.push hown.2 (by rw [natsV_len]; exact hrd3)).sub (by intro y hy; simp at hy; rcases hy with rfl | rfl <;> simp))
         clear hown hrd3 HHT HN2 x_0 x_1 s_0 s_1 s_2 s_3 s_4 l_0 l_1 l_2 l_3 l_4 l_5 l_6 l_7
         obtain ⟨H, hH⟩ : ∃ H, hitsTo Fi l.a (stepX T S l.a (stN l C) x) ids.length = H := ⟨_, rfl⟩
         rw [hH] at HN3 ⊢
         have HHE := hID hH
         clear hH
         obtain ⟨s_0, s_1, s_2, s_3, s_4, l_0, l_1, l_2, l_3, l_4, l_5, l_6, l_7⟩ := GC.out _ (HN3.out.old)
         have ck := HEL.out _ HN3.out.old
         have HCB : Hid (∀ V, Off Nob a3 V → Calls Tryz.prog 16 #[.pointer (some ⟨p, 0, none⟩), .agg #[.int .i64 l.a, .int .i64 l.b, .int .i64 l.t, .int .i64 l.s, .int .i64 l.f, .int .i64 l.st, .int .i64 l.n, .int .i64 l.h], .int .u64 (x : Int), .int .u64 18446744073709551615] V fun e w' => e = .returned (.int .i64 0) ∧ OneX u0 w' xb 66 #[.slice AX l.a cx, .int .i64 ((j + 1 : Nat) : Int)] p (byC l (BitVec.ofNat 64 x) onesB C) (byE l E) [(.slice AH H.length cH, natsV H), (.slice AX l.a cx, wordsV (stepX T S l.a (stN l C) x))]) := hID (fun V o => (HN3.out.off o).callQ (Q := fun e w' => e = .returned (.int .i64 0)) (fun F ha hF => HBY.out onesB 18446744073709551615 isM_onesB n64_onesB V x F C E HX.out HR.out.2.1 (by have := HR.out.2.2.2.2; have := HK.out.1; omega) ha))
         go_wp2_with fail
         go_region_held3 (fun W => W.cell? ⟨b, o + k, none⟩ = some (.int .u8 (x : Int)) ∧ W.cell? ⟨lb, 0, none⟩ = some (.int .i64 l.a) ∧ W.cell? ⟨lb, 1, none⟩ = some (.int .i64 l.b) ∧ W.cell? ⟨lb, 2, none⟩ = some (.int .i64 l.t) ∧ W.cell? ⟨lb, 3, none⟩ = some (.int .i64 l.s) ∧ W.cell? ⟨lb, 4, none⟩ = some (.int .i64 l.f) ∧ W.cell? ⟨lb, 5, none⟩ = some (.int .i64 l.st) ∧ W.cell? ⟨lb, 6, none⟩ = some (.int .i64 l.n) ∧ W.cell? ⟨lb, 7, none⟩ = some (.int .i64 l.h))
          (first | with_reducible assumption | go_keep)
          (first
           | (go_at_call 16; refine (HCB.out _ (Off.refl _ _).drew).mono ?_; rintro e b1 ⟨rfl, hz⟩; have HN := hID hz; clear hz s_0 s_1 s_2 s_3 s_4 l_0 l_1 l_2 l_3 l_4 l_5 l_6 l_7 ck; obtain ⟨s_0, s_1, s_2, s_3, s_4, l_0, l_1, l_2, l_3, l_4, l_5, l_6, l_7⟩ := GC.out _ (HN.out.old); have ck := HEL.out _ HN.out.old))
         clear HCB
         have HSTE : Hid (stN l (byC l (BitVec.ofNat 64 x) onesB C) = (stepX T S l.a (stN l C) x)) := hID (byC_state HLI.out.2.2.2.2.1 (by rw [HR.out.2.1]; exact HLI.out.1) HR.out.2.2.1 HF64.out.1 HF64.out.2.1 HX.out)
         have HDL : Hid ((byC l (BitVec.ofNat 64 x) onesB C).length = Z) := hID (by rw [byC_len]; exact HR.out.2.1)
         have HPD : Hid (Placed l T S Fi (byC l (BitVec.ofNat 64 x) onesB C)) := hID (Placed.byte HLI.out.2.2.2.2.1 HR.out.2.2.1 _ _)
         have HLW : Hid (LowB (stN l (byC l (BitVec.ofNat 64 x) onesB C)) (topOf (prs Fi l.a ids.length))) := hID (by rw [HSTE.out]; exact low_step HPL.out _ HX.out)
         have HE1 : Hid ((byE l E).length ≤ 1100 + 1188 * (k + 1)) := hID (by have := HBE.out E; have := HR.out.2.2.2.2; omega)
         have HJ0 : Hid (∃ hit cnt, HitJ (byC l (BitVec.ofNat 64 x) onesB C) l.h ids.length H hit cnt) := hID (by
          rw [← HHE.out, ← HSTE.out]
          exact ⟨_, _, HitJ.step (fun r hr => by rw [byC_hits HLI.out.2.2.2.2.1 (by rw [HR.out.2.1]; exact HLI.out.1) HR.out.2.2.1 HF64.out.2.2 _ _ (by have := HB.out; omega)]; exact and_onesB _)⟩)
         have HHL : Hid (H.length ≤ 16) := hID (by rw [← HHE.out]; have := hitsTo_len Fi l.a (stepX T S l.a (stN l C) x) ids.length; have := HW.out.2.2.2; omega)
         rw [← HSTE.out] at HN
         clear HSTE HR HHE HN3
         revert HN HDL HPD HLW HE1 HJ0
         generalize byC l (BitVec.ofNat 64 x) onesB C = D
         generalize byE l E = E1
         intro HN HDL HPD HLW HE1 HJ0
         obtain ⟨hit, cnt, hj⟩ := HJ0.out
         have HJ := hID hj
         clear hj HJ0
         obtain ⟨F1, ha1⟩ := HN.out.ar
         have HCA := hID (cells_ok ha1)
         clear ha1
         go_wp2_with fail
         refine HCA.out.mono ?_
         rintro e b2 ⟨v1, rfl, ow1, o1⟩
         have HRD1 := hID (NewU.rd ow1).any
         obtain ⟨g1, cap1, rfl, hc1, hm1⟩ := own_some ow1 (by rw [HDL.out]; exact HLI.out.2.2.2.1)
         have HN3 := hID (HN.out.off o1)
         clear ow1 o1 HCA s_0 s_1 s_2 s_3 s_4 l_0 l_1 l_2 l_3 l_4 l_5 l_6 l_7 ck HN
         obtain ⟨s_0, s_1, s_2, s_3, s_4, l_0, l_1, l_2, l_3, l_4, l_5, l_6, l_7⟩ := GC.out _ (HN3.out.old)
         rw [HDL.out] at hc1 HRD1 ⊢
         rw [u64s_words] at HRD1
         have x_0 := HN3.out.blk.cell 0
         have x_1 := HN3.out.blk.cell 1
         have hst := HLI.out.1.hst
         have hhh := HLI.out.1.hh
         have hbl := HB.out
         have haa := HLI.out.1.a1
         have hz3 := HLI.out.2.2.1
         obtain ⟨e2, he2⟩ : ∃ e2, l.st + l.a = e2 := ⟨_, rfl⟩
         obtain ⟨e3, he3⟩ : ∃ e3, l.h + ids.length = e3 := ⟨_, rfl⟩
         have hs2 : (l.st : Int) + (l.a : Int) = (e2 : Int) := by omega
         have hs3 : (l.h : Int) + (ids.length : Int) = (e3 : Int) := by omega
         have hw2 : IntKind.i64.wrap (e2 : Int) = (e2 : Int) := IntWalk.i64_in _ (by omega)
         have hw3 : IntKind.i64.wrap (e3 : Int) = (e3 : Int) := IntWalk.i64_in _ (by omega)
         have i0 : (0 : Int) ≤ (l.st : Int) := by omega
         have i1 : (l.st : Int) ≤ (e2 : Int) := by omega
         have i2 : (e2 : Int) ≤ (cap1 : Int) := by omega
         have i3 : (e2 : Int) ≤ (Z : Int) := by omega
         have i4 : (l.st : Int) ≤ (cap1 : Int) := by omega
         have i5 : (Z : Int) ≤ (cap1 : Int) := by omega
         have i6 : (0 : Int) ≤ (e2 : Int) := by omega
         have hne1 : ¬ cap1 = l.st := by omega
         have hne2 : ¬ e2 = l.st := by omega
         have dl1 : decide ((Z : Int) < (e2 : Int)) = false := decide_eq_false (by omega)
         have dl2 : decide ((Z : Int) < (e3 : Int)) = false := decide_eq_false (by omega)
         have dn1 : decide (Z < e2) = false := decide_eq_false (by omega)
         have dn2 : decide (Z < e3) = false := decide_eq_false (by omega)
         have HE2 : Hid (e2 - l.st = l.a ∧ l.st + l.a ≤ Z ∧ l.h + ids.length ≤ Z ∧ l.a ≤ 4) := hID ⟨by omega, hst, by omega, HLI.out.1.a4⟩
         clear hst hhh hbl haa hz3 he2 he3
         have HSM : Hid (∀ V, Off Nob b2 V → Calls Tryz.prog 19 #[.slice (some ⟨g1, l.st, none⟩) (e2 - l.st) (cap1 - l.st), .slice AX l.a cx] V (RetV V (.bool true))) := hID (fun V o => by
          have h4 := HE2.out.2.2.2
          rw [HE2.out.1]
          have k1 : Rd V (fun _ => True) 1 (.slice (some ⟨g1, l.st, none⟩) l.a (cap1 - l.st)) l.a (wordsV (stN l D)) := by
           have h := Rd.part (HRD1.out.keepT o) l.st l.a HE2.out.2.1 (cap1 - l.st)
           rw [Nat.zero_add] at h
           rwa [stN_part HE2.out.2.1 HDL.out] at h
          have k2 : Rd V (fun _ => True) 1 (.slice AX l.a cx) l.a (wordsV (stN l D)) := by
           have h := HN3.out.row (V := .slice AX l.a cx) (X := wordsV (stN l D)) (by simp)
           rw [wordsV_len, stN_len] at h
           exact h.keepT o
          have k := r_same (stN l D) (stN l D) (by rw [stN_len]; omega) (by rw [stN_len]; omega) V _ _ (by rw [stN_len]; exact k1) (by rw [stN_len]; exact k2)
          rwa [decide_eq_true rfl] at k)
         go_wp2_with fail
         go_region_held3 (fun W => W.cell? ⟨w.heap.size, 0, none⟩ = some (.slice AI ids.length ci) ∧ W.cell? ⟨w.heap.size, 1, none⟩ = some (.int .i64 l.a) ∧ W.cell? ⟨lb, 5, none⟩ = some (.int .i64 l.st) ∧ W.cell? ⟨lb, 7, none⟩ = some (.int .i64 l.h) ∧ W.cell? ⟨xb, 0, none⟩ = some (.slice AX l.a cx))
          (first | with_reducible assumption | go_keep)
          (first
           | (go_at_call 19; refine (HSM.out _ (Off.refl _ _).drew).mono ?_; rintro e b3 ⟨rfl, hz⟩; have HN5 := hID (And.intro (HN3.out.off ((Off.refl _ _).drew.also hz)) ((Off.refl Nob b2).drew.also hz)); clear hz s_0 s_1 s_2 s_3 s_4 l_0 l_1 l_2 l_3 l_4 l_5 l_6 l_7 x_0 x_1; obtain ⟨s_0, s_1, s_2, s_3, s_4, l_0, l_1, l_2, l_3, l_4, l_5, l_6, l_7⟩ := GC.out _ (HN5.out.1.old); have x_0 := HN5.out.1.blk.cell 0))
         clear HSM hs2 hs3 hw2 hw3 i0 i1 i2 i3 i4 i5 i6 hne1 hne2 dl1 dl2 dn1 dn2 hm1 hc1 s_0 s_1 s_2 s_3 s_4 l_0 l_1 l_2 l_3 l_4 l_5 l_6 l_7 x_0 HN3
         go_wp2_with fail
         go_loopw [17, 18] (fun q i wq => ∃ r : Nat, r ≤ ids.length ∧ i = .int .i64 (r : Int) ∧ q = .int .i64 ((cnt r : Nat) : Int) ∧ Off Nob b3 wq) (fun q i wq => ids.length - (intOf i).toNat)
         case atStart => exact ⟨0, Nat.zero_le _, rfl, by rw [HJ.out.1]; rfl, Off.refl _ _⟩
         case round =>
          obtain ⟨r, hr, rfl, rfl, ho⟩ := hrel
          have HO := hID ho
          clear ho
          obtain ⟨s_0, s_1, s_2, s_3, s_4, l_0, l_1, l_2, l_3, l_4, l_5, l_6, l_7⟩ := GC.out _ (HN5.out.1.old.also HO.out)
          by_cases hrl : r < ids.length
          ·have e1 : decide ((r : Int) < (ids.length : Int)) = true := decide_eq_true (by omega)
           obtain ⟨ix, hix⟩ : ∃ ix, l.h + r = ix := ⟨_, rfl⟩
           have hs4 : (l.h : Int) + (r : Int) = (ix : Int) := by omega
           have hix3 := HE2.out.2.2.1
           have hixz : ix < Z := by omega
           have hix4 := HLI.out.2.2.1
           have hix5 : ix ≤ 1203 := by omega
           have hixw : (l.h : Int) + (r : Int) ≤ 1203 := by omega
           have gcell := Rd.word (HRD1.out.keepT (HN5.out.2.also HO.out)) hixz
           rw [map_get, ← hix, Nat.zero_add] at gcell
           clear hix4 hix3
           have hrn : r ≤ 100000 := by have := HW.out.2.2.2; omega
           rw [HJ.out.2.1 r hrl] at gcell
           cases hh : hit r
           case true =>
            obtain ⟨q1, q2, q3⟩ := HJ.out.2.2.1 r hrl hh
            have HQ3 := hID q3
            rw [hh, show (((msk true).toNat : Nat) : Int) = 18446744073709551615 by decide] at gcell
            have hrow := HN5.out.1.row (V := .slice AH H.length cH) (X := natsV H) (by simp)
            rw [natsV_len] at hrow
            obtain ⟨hb3, ho3, hc3, hee, hcc⟩ := (hrow.keepT HO.out).cellsT (by omega)
            cases hee
            have hcell := hcc _ (Off.refl _ _) _ _ (natsV_get q1)
            rw [q2] at hcell
            clear hcc hrow q3 q2
            have hql := HHL.out
            obtain ⟨q, hq⟩ : ∃ q, cnt r = q := ⟨_, rfl⟩
            rw [hq] at q1 hcell HQ3 ⊢
            have dq : decide ((q : Int) < (H.length : Int)) = true := decide_eq_true (by omega)
            have hq16 : q ≤ 16 := by omega
            clear hq
            rw [hix] at gcell
            go_wp2_with fail
            go_roundw
            case rel => exact ⟨r + 1, hrl, by go_num, by rw [HQ3.out]; go_num, HO.out⟩
            case measure => simp [intOf]; omega
           case false =>
            obtain ⟨q3, q4⟩ := HJ.out.2.2.2 r hrl hh
            have HQ3 := hID q3
            rw [hh, show (((msk false).toNat : Nat) : Int) = 0 by decide] at gcell
            obtain ⟨q, hq⟩ : ∃ q, cnt r = q := ⟨_, rfl⟩
            rw [hq] at HQ3 ⊢
            clear q3 hq
            by_cases hqh : q < H.length
            ·have hrow := HN5.out.1.row (V := .slice AH H.length cH) (X := natsV H) (by simp)
             rw [natsV_len] at hrow
             obtain ⟨hb3, ho3, hc3, hee, hcc⟩ := (hrow.keepT HO.out).cellsT (by omega)
             cases hee
             have hcell := hcc _ (Off.refl _ _) _ _ (natsV_get hqh)
             have hne := q4 q hqh
             clear hcc hrow q4
             obtain ⟨y, hy⟩ : ∃ y, H.getD q 0 = y := ⟨_, rfl⟩
             rw [hy] at hcell hne
             clear hy
             have hql := HHL.out
             have dq : decide ((q : Int) < (H.length : Int)) = true := decide_eq_true (by omega)
             have dy : decide ((y : Int) = (r : Int)) = false := decide_eq_false (by omega)
             have dy2 : ¬ y = r := hne
             have hq16 : q ≤ 16 := by omega
             rw [hix] at gcell
             go_wp2_with fail
             go_roundw
             case rel => exact ⟨r + 1, hrl, by go_num, by rw [HQ3.out], HO.out⟩
             case measure => simp [intOf]; omega
            ·have dq : decide ((q : Int) < (H.length : Int)) = false := decide_eq_false (by omega)
             have dqn : decide (q < H.length) = false := decide_eq_false hqh
             clear q4
             rw [hix] at gcell
             go_wp2_with fail
             go_roundw
             case rel => exact ⟨r + 1, hrl, by go_num, by rw [HQ3.out], HO.out⟩
             case measure => simp [intOf]; omega
          ·obtain rfl : r = ids.length := by omega
           have e1 : decide ((ids.length : Int) < (ids.length : Int)) = false := decide_eq_false (by omega)
           go_wp2_with fail
           go_roundw
           case rel => exact ⟨k + 1, j + 1, AX, cx, D, E1, rfl, by omega, by omega, (HN5.out.1.off HO.out).sub (by intro y hy; exact List.mem_cons_of_mem _ hy), HDL.out, HPD.out, HLW.out, HE1.out⟩
           case measure => simp [intOf]; omega
        exact AllReadyH.nil
       exact AllReadyH.nil
      exact AllReadyH.nil
     ·go_wp2_with fail
      clear d2 d2n
      refine wp_region_held_drew (S := fun W => W.cell? ⟨w.heap.size, 0, none⟩ = some (.slice AI ids.length ci) ∧ W.cell? ⟨w.heap.size, 1, none⟩ = some (.int .i64 l.a) ∧ W.cell? ⟨w.heap.size, 2, none⟩ = some (.slice AT T.length ct) ∧ W.cell? ⟨w.heap.size, 3, none⟩ = some (.slice AS S.length cs) ∧ W.cell? ⟨w.heap.size, 4, none⟩ = some (.slice AF Fi.length cf) ∧ W.cell? ⟨b, o + k, none⟩ = some (.int .u8 (x : Int))) (by kernel_rfl) ?_ (fun hHeld => ?_)
      ·(try dsimp only); exact ⟨s_0, s_1, s_2, s_3, s_4, ck⟩
      refine wpAnyH_take (i := 0) (v := ?v500) rfl (by kernel_rfl) (by kernel_rfl) (by kernel_rfl) (fun _ _ _ h => h) (Or.inl ⟨by rfl, ?h500⟩) (by assumption) ?r500
      case h500 => (intro w hSw; (try dsimp only at hSw); go_simp <;> with_reducible rfl)
      try simp only [Act.put, qL1, qL2, qL3, qL4, qL5, qL6]
      refine wpAnyH_take (i := 2) (v := ?v501) rfl (by kernel_rfl) (by kernel_rfl) (by kernel_rfl) (fun _ _ _ h => h) (Or.inl ⟨by rfl, ?h501⟩) (by assumption) ?r501
      case h501 => (intro w hSw; (try dsimp only at hSw); go_simp <;> with_reducible rfl)
      try simp only [Act.put, qL1, qL2, qL3, qL4, qL5, qL6]
      refine wpAnyH_take (i := 3) (v := ?v502) rfl (by kernel_rfl) (by kernel_rfl) (by kernel_rfl) (fun _ _ _ h => h) (Or.inl ⟨by rfl, ?h502⟩) (by assumption) ?r502
      case h502 => (intro w hSw; (try dsimp only at hSw); go_simp <;> with_reducible rfl)
      try simp only [Act.put, qL1, qL2, qL3, qL4, qL5, qL6]
      refine wpAnyH_take (i := 4) (v := ?v503) rfl (by kernel_rfl) (by kernel_rfl) (by kernel_rfl) (fun _ _ _ h => h) (Or.inl ⟨by rfl, ?h503⟩) (by assumption) ?r503
      case h503 => (intro w hSw; (try dsimp only at hSw); go_simp <;> with_reducible rfl)
      try simp only [Act.put, qL1, qL2, qL3, qL4, qL5, qL6]
      refine wpAnyH_take (i := 5) (v := ?v504) rfl (by kernel_rfl) (by kernel_rfl) (by kernel_rfl) (fun _ _ _ h => h) (Or.inl ⟨by rfl, ?h504⟩) (by assumption) ?r504
      case h504 => (intro w hSw; (try dsimp only at hSw); go_simp <;> with_reducible rfl)
      try simp only [Act.put, qL1, qL2, qL3, qL4, qL5, qL6]
      refine wpAnyH_ready (rs := [1]) (by kernel_rfl) (by simp) ?_
      refine AllReadyH.cons rfl (fun K hK => ?s505) ?m505
      case s505 =>
       go_simp
       refine hK.out _ _ ?_ (fun hHeld => ?_)
       ·first | with_reducible assumption | go_keep
       clear hK K
       try simp only [Act.put, qL1, qL2, qL3, qL4, qL5, qL6]
       refine wpAnyH_ready (rs := [6]) (by kernel_rfl) (by simp) ?_
       refine AllReadyH.cons rfl (fun K hK => ?s506) ?m506
       case s506 =>
        go_simp
        refine (HSTP.out _ (Off.refl _ _).drew).mono ?_
        rintro e a1 ⟨u, rfl, hu, o1⟩
        obtain ⟨AX, cx, rfl, _⟩ := hu.form
        have HN1 : Hid (OneX u0 a1 xb 66 #[.slice AV l.a cv, .int .i64 (j : Int)] p C E [(.slice AX l.a cx, wordsV (stepX T S l.a (stN l C) x)), (.slice AV l.a cv, wordsV (stN l C))]) := hID ((HR.out.1.off (Off.drew (Off.refl _ _))).push o1 (by rw [wordsV_len, stepX_len]; exact hu))
        clear hu o1 HSTP x_0 x_1 ck s_0 s_1 s_2 s_3 s_4 l_0 l_1 l_2 l_3 l_4 l_5 l_6 l_7
        obtain ⟨s_0, s_1, s_2, s_3, s_4, l_0, l_1, l_2, l_3, l_4, l_5, l_6, l_7⟩ := GC.out _ (HN1.out.old)
        have ck := HEL.out _ HN1.out.old
        have z0 := HN1.out.blk.cell 0
        have z1 := HN1.out.blk.cell 1
        have f0 := HN1.out.blk.frozen 0
        have f1 := HN1.out.blk.frozen 1
        have HN2 := hID (HN1.out.turn (V' := .slice AX l.a cx) (n' := .int .i64 ((j : Int) + 1)))
        have S2 : Hid (((a1.setCell ⟨xb, 0, none⟩ (.slice AX l.a cx)).setCell ⟨xb, 1, none⟩ (.int .i64 ((j : Int) + 1))).cell? ⟨w.heap.size, 0, none⟩ = some (.slice AI ids.length ci) ∧ ((a1.setCell ⟨xb, 0, none⟩ (.slice AX l.a cx)).setCell ⟨xb, 1, none⟩ (.int .i64 ((j : Int) + 1))).cell? ⟨w.heap.size, 1, none⟩ = some (.int .i64 l.a) ∧ ((a1.setCell ⟨xb, 0, none⟩ (.slice AX l.a cx)).setCell ⟨xb, 1, none⟩ (.int .i64 ((j : Int) + 1))).cell? ⟨w.heap.size, 2, none⟩ = some (.slice AT T.length ct) ∧ ((a1.setCell ⟨xb, 0, none⟩ (.slice AX l.a cx)).setCell ⟨xb, 1, none⟩ (.int .i64 ((j : Int) + 1))).cell? ⟨w.heap.size, 3, none⟩ = some (.slice AS S.length cs) ∧ ((a1.setCell ⟨xb, 0, none⟩ (.slice AX l.a cx)).setCell ⟨xb, 1, none⟩ (.int .i64 ((j : Int) + 1))).cell? ⟨w.heap.size, 4, none⟩ = some (.slice AF Fi.length cf) ∧ ((a1.setCell ⟨xb, 0, none⟩ (.slice AX l.a cx)).setCell ⟨xb, 1, none⟩ (.int .i64 ((j : Int) + 1))).cell? ⟨b, o + k, none⟩ = some (.int .u8 (x : Int))) := hID (by
         obtain ⟨s_0, s_1, s_2, s_3, s_4, l_0, l_1, l_2, l_3, l_4, l_5, l_6, l_7⟩ := GC.out _ (HN2.out.old)
         exact ⟨s_0, s_1, s_2, s_3, s_4, HEL.out _ HN2.out.old⟩)
        go_simp
        refine hK.out _ _ ?_ (fun hHeld => ?_)
        ·first | exact ⟨s_0, s_1, s_2, s_3, s_4, ck⟩ | go_keep
        clear hK K
        try simp only [Act.put, qL1, qL2, qL3, qL4, qL5, qL6]
        refine wpAnyH_take (i := 7) (v := ?v507) rfl (by kernel_rfl) (by kernel_rfl) (by kernel_rfl) (fun _ _ _ h => h) (Or.inl ⟨by rfl, ?h507⟩) (by assumption) ?r507
        case h507 => (intro w hSw; (try dsimp only at hSw); go_simp <;> with_reducible rfl)
        try simp only [Act.put, qL1, qL2, qL3, qL4, qL5, qL6]
        refine wpAnyH_take (i := 8) (v := ?v508) rfl (by kernel_rfl) (by kernel_rfl) (by kernel_rfl) (fun _ _ _ h => h) (Or.inl ⟨by rfl, ?h508⟩) (by assumption) ?r508
        case h508 => (intro w hSw; (try dsimp only at hSw); go_simp <;> with_reducible rfl)
        try simp only [Act.put, qL1, qL2, qL3, qL4, qL5, qL6]
        refine wpAnyH_take (i := 9) (v := ?v509) rfl (by kernel_rfl) (by kernel_rfl) (by kernel_rfl) (fun _ _ _ h => h) (Or.inl ⟨by rfl, ?h509⟩) (by assumption) ?r509
        case h509 => (intro w hSw; (try dsimp only at hSw); go_simp <;> with_reducible rfl)
        try simp only [Act.put, qL1, qL2, qL3, qL4, qL5, qL6]
        refine wpAnyH_ready (rs := [10]) (by kernel_rfl) (by simp) ?_
        refine AllReadyH.cons rfl (fun K hK => ?s510) ?m510
        case s510 =>
         go_simp
         refine hK.out _ _ ?_ (fun hHeld => ?_)
         ·first | exact S2.out | go_keep
         clear hK K
         try simp only [Act.put, qL1, qL2, qL3, qL4, qL5, qL6]
         refine wpAnyH_done (by kernel_rfl) ?_ _
         clear S2 HN1 z0 z1 f0 f1 ck s_0 s_1 s_2 s_3 s_4 l_0 l_1 l_2 l_3 l_4 l_5 l_6 l_7 hHeld
         revert HN2
         generalize ((a1.setCell ⟨xb, 0, none⟩ (.slice AX l.a cx)).setCell ⟨xb, 1, none⟩ (.int .i64 ((j : Int) + 1))) = a2
         intro HN2
         rw [show ((j : Int) + 1) = ((j + 1 : Nat) : Int) by omega] at HN2
         obtain ⟨s_0, s_1, s_2, s_3, s_4, l_0, l_1, l_2, l_3, l_4, l_5, l_6, l_7⟩ := GC.out _ (HN2.out.old)
         have x_0 := HN2.out.blk.cell 0
         have x_1 := HN2.out.blk.cell 1
         have HHT : Hid (∀ V, Off Nob a2 V → Calls Tryz.prog 31 #[.agg #[.slice AI ids.length ci, .int .i64 l.a, .slice AT T.length ct, .slice AS S.length cs, .slice AF Fi.length cf], .agg #[.slice AX l.a cx, .int .i64 ((j + 1 : Nat) : Int)]] V (fun e w' => ∃ v, e = .returned (.tuple #[v, .int .i64 0]) ∧ OwnL V w' 3 1 v (hitsTo Fi l.a (stepX T S l.a (stN l C) x) ids.length).length (natsV (hitsTo Fi l.a (stepX T S l.a (stN l C) x) ids.length)))) := hID (fun V o => r20_Hits ids l.a T S Fi HZE.out (stepX T S l.a (stN l C) x) (stepX_len _ _ _ _ _) (stepX_lt _ _ _ _ _) (low_step HPL.out _ HX.out) (j + 1) (by have := HK.out.2; omega) V _ _ _ _ _ (HSV.out V (X1.out.1.also (HN2.out.old.also o))) (by
          have h := HN2.out.row (V := .slice AX l.a cx) (X := wordsV (stepX T S l.a (stN l C) x)) (by simp)
          rw [wordsV_len, stepX_len] at h
          exact h.keepT o))
         go_wp2_with fail
         refine (HHT.out _ (Off.refl _ _)).mono ?_
         rintro e a3 ⟨v3, rfl, hown⟩
         have hrd3 : Rd a3 (fun k => a2.heap.size ≤ k) 1 v3 (hitsTo Fi l.a (stepX T S l.a (stN l C) x) ids.length).length (natsV (hitsTo Fi l.a (stepX T S l.a (stN l C) x) ids.length)) := Rd.own hown.1 (fun k hk => (hown.1.lt k hk).1)
         obtain ⟨AH, cH, rfl, _⟩ := hrd3.form
         have HN3 : Hid (OneX u0 a3 xb 66 #[.slice AX l.a cx, .int .i64 ((j + 1 : Nat) : Int)] p C E [(.slice AH (hitsTo Fi l.a (stepX T S l.a (stN l C) x) ids.length).length cH, natsV (hitsTo Fi l.a (stepX T S l.a (stN l C) x) ids.length)), (.slice AX l.a cx, wordsV (stepX T S l.a (stN l C) x))]) := hID ((HN2.out.push hown.2 (by rw [natsV_len]; exact hrd3)).sub (by intro y hy; simp at hy; rcases hy with rfl | rfl <;> simp))
         clear hown hrd3 HHT HN2 x_0 x_1 s_0 s_1 s_2 s_3 s_4 l_0 l_1 l_2 l_3 l_4 l_5 l_6 l_7
         obtain ⟨H, hH⟩ : ∃ H, hitsTo Fi l.a (stepX T S l.a (stN l C) x) ids.length = H := ⟨_, rfl⟩
         rw [hH] at HN3 ⊢
         have HHE := hID hH
         clear hH
         obtain ⟨s_0, s_1, s_2, s_3, s_4, l_0, l_1, l_2, l_3, l_4, l_5, l_6, l_7⟩ := GC.out _ (HN3.out.old)
         have ck := HEL.out _ HN3.out.old
         have HCB : Hid (∀ V, Off Nob a3 V → Calls Tryz.prog 16 #[.pointer (some ⟨p, 0, none⟩), .agg #[.int .i64 l.a, .int .i64 l.b, .int .i64 l.t, .int .i64 l.s, .int .i64 l.f, .int .i64 l.st, .int .i64 l.n, .int .i64 l.h], .int .u64 (x : Int), .int .u64 18446744073709551615] V fun e w' => e = .returned (.int .i64 0) ∧ OneX u0 w' xb 66 #[.slice AX l.a cx, .int .i64 ((j + 1 : Nat) : Int)] p (byC l (BitVec.ofNat 64 x) onesB C) (byE l E) [(.slice AH H.length cH, natsV H), (.slice AX l.a cx, wordsV (stepX T S l.a (stN l C) x))]) := hID (fun V o => (HN3.out.off o).callQ (Q := fun e w' => e = .returned (.int .i64 0)) (fun F ha hF => HBY.out onesB 18446744073709551615 isM_onesB n64_onesB V x F C E HX.out HR.out.2.1 (by have := HR.out.2.2.2.2; have := HK.out.1; omega) ha))
         go_wp2_with fail
         go_region_held3 (fun W => W.cell? ⟨b, o + k, none⟩ = some (.int .u8 (x : Int)) ∧ W.cell? ⟨lb, 0, none⟩ = some (.int .i64 l.a) ∧ W.cell? ⟨lb, 1, none⟩ = some (.int .i64 l.b) ∧ W.cell? ⟨lb, 2, none⟩ = some (.int .i64 l.t) ∧ W.cell? ⟨lb, 3, none⟩ = some (.int .i64 l.s) ∧ W.cell? ⟨lb, 4, none⟩ = some (.int .i64 l.f) ∧ W.cell? ⟨lb, 5, none⟩ = some (.int .i64 l.st) ∧ W.cell? ⟨lb, 6, none⟩ = some (.int .i64 l.n) ∧ W.cell? ⟨lb, 7, none⟩ = some (.int .i64 l.h))
          (first | with_reducible assumption | go_keep)
          (first
           | (go_at_call 16; refine (HCB.out _ (Off.refl _ _).drew).mono ?_; rintro e b1 ⟨rfl, hz⟩; have HN := hID hz; clear hz s_0 s_1 s_2 s_3 s_4 l_0 l_1 l_2 l_3 l_4 l_5 l_6 l_7 ck; obtain ⟨s_0, s_1, s_2, s_3, s_4, l_0, l_1, l_2, l_3, l_4, l_5, l_6, l_7⟩ := GC.out _ (HN.out.old); have ck := HEL.out _ HN.out.old))
         clear HCB
         have HSTE : Hid (stN l (byC l (BitVec.ofNat 64 x) onesB C) = (stepX T S l.a (stN l C) x)) := hID (byC_state HLI.out.2.2.2.2.1 (by rw [HR.out.2.1]; exact HLI.out.1) HR.out.2.2.1 HF64.out.1 HF64.out.2.1 HX.out)
         have HDL : Hid ((byC l (BitVec.ofNat 64 x) onesB C).length = Z) := hID (by rw [byC_len]; exact HR.out.2.1)
         have HPD : Hid (Placed l T S Fi (byC l (BitVec.ofNat 64 x) onesB C)) := hID (Placed.byte HLI.out.2.2.2.2.1 HR.out.2.2.1 _ _)
         have HLW : Hid (LowB (stN l (byC l (BitVec.ofNat 64 x) onesB C)) (topOf (prs Fi l.a ids.length))) := hID (by rw [HSTE.out]; exact low_step HPL.out _ HX.out)
         have HE1 : Hid ((byE l E).length ≤ 1100 + 1188 * (k + 1)) := hID (by have := HBE.out E; have := HR.out.2.2.2.2; omega)
         have HJ0 : Hid (∃ hit cnt, HitJ (byC l (BitVec.ofNat 64 x) onesB C) l.h ids.length H hit cnt) := hID (by
          rw [← HHE.out, ← HSTE.out]
          exact ⟨_, _, HitJ.step (fun r hr => by rw [byC_hits HLI.out.2.2.2.2.1 (by rw [HR.out.2.1]; exact HLI.out.1) HR.out.2.2.1 HF64.out.2.2 _ _ (by have := HB.out; omega)]; exact and_onesB _)⟩)
         have HHL : Hid (H.length ≤ 16) := hID (by rw [← HHE.out]; have := hitsTo_len Fi l.a (stepX T S l.a (stN l C) x) ids.length; have := HW.out.2.2.2; omega)
         rw [← HSTE.out] at HN
         clear HSTE HR HHE HN3
         revert HN HDL HPD HLW HE1 HJ0
         generalize byC l (BitVec.ofNat 64 x) onesB C = D
         generalize byE l E = E1
         intro HN HDL HPD HLW HE1 HJ0
         obtain ⟨hit, cnt, hj⟩ := HJ0.out
         have HJ := hID hj
         clear hj HJ0
         obtain ⟨F1, ha1⟩ := HN.out.ar
         have HCA := hID (cells_ok ha1)
         clear ha1
         go_wp2_with fail
         refine HCA.out.mono ?_
         rintro e b2 ⟨v1, rfl, ow1, o1⟩
         have HRD1 := hID (NewU.rd ow1).any
         obtain ⟨g1, cap1, rfl, hc1, hm1⟩ := own_some ow1 (by rw [HDL.out]; exact HLI.out.2.2.2.1)
         have HN3 := hID (HN.out.off o1)
         clear ow1 o1 HCA s_0 s_1 s_2 s_3 s_4 l_0 l_1 l_2 l_3 l_4 l_5 l_6 l_7 ck HN
         obtain ⟨s_0, s_1, s_2, s_3, s_4, l_0, l_1, l_2, l_3, l_4, l_5, l_6, l_7⟩ := GC.out _ (HN3.out.old)
         rw [HDL.out] at hc1 HRD1 ⊢
         rw [u64s_words] at HRD1
         have x_0 := HN3.out.blk.cell 0
         have x_1 := HN3.out.blk.cell 1
         have hst := HLI.out.1.hst
         have hhh := HLI.out.1.hh
         have hbl := HB.out
         have haa := HLI.out.1.a1
         have hz3 := HLI.out.2.2.1
         obtain ⟨e2, he2⟩ : ∃ e2, l.st + l.a = e2 := ⟨_, rfl⟩
         obtain ⟨e3, he3⟩ : ∃ e3, l.h + ids.length = e3 := ⟨_, rfl⟩
         have hs2 : (l.st : Int) + (l.a : Int) = (e2 : Int) := by omega
         have hs3 : (l.h : Int) + (ids.length : Int) = (e3 : Int) := by omega
         have hw2 : IntKind.i64.wrap (e2 : Int) = (e2 : Int) := IntWalk.i64_in _ (by omega)
         have hw3 : IntKind.i64.wrap (e3 : Int) = (e3 : Int) := IntWalk.i64_in _ (by omega)
         have i0 : (0 : Int) ≤ (l.st : Int) := by omega
         have i1 : (l.st : Int) ≤ (e2 : Int) := by omega
         have i2 : (e2 : Int) ≤ (cap1 : Int) := by omega
         have i3 : (e2 : Int) ≤ (Z : Int) := by omega
         have i4 : (l.st : Int) ≤ (cap1 : Int) := by omega
         have i5 : (Z : Int) ≤ (cap1 : Int) := by omega
         have i6 : (0 : Int) ≤ (e2 : Int) := by omega
         have hne1 : ¬ cap1 = l.st := by omega
         have hne2 : ¬ e2 = l.st := by omega
         have dl1 : decide ((Z : Int) < (e2 : Int)) = false := decide_eq_false (by omega)
         have dl2 : decide ((Z : Int) < (e3 : Int)) = false := decide_eq_false (by omega)
         have dn1 : decide (Z < e2) = false := decide_eq_false (by omega)
         have dn2 : decide (Z < e3) = false := decide_eq_false (by omega)
         have HE2 : Hid (e2 - l.st = l.a ∧ l.st + l.a ≤ Z ∧ l.h + ids.length ≤ Z ∧ l.a ≤ 4) := hID ⟨by omega, hst, by omega, HLI.out.1.a4⟩
         clear hst hhh hbl haa hz3 he2 he3
         have HSM : Hid (∀ V, Off Nob b2 V → Calls Tryz.prog 19 #[.slice (some ⟨g1, l.st, none⟩) (e2 - l.st) (cap1 - l.st), .slice AX l.a cx] V (RetV V (.bool true))) := hID (fun V o => by
          have h4 := HE2.out.2.2.2
          rw [HE2.out.1]
          have k1 : Rd V (fun _ => True) 1 (.slice (some ⟨g1, l.st, none⟩) l.a (cap1 - l.st)) l.a (wordsV (stN l D)) := by
           have h := Rd.part (HRD1.out.keepT o) l.st l.a HE2.out.2.1 (cap1 - l.st)
           rw [Nat.zero_add] at h
           rwa [stN_part HE2.out.2.1 HDL.out] at h
          have k2 : Rd V (fun _ => True) 1 (.slice AX l.a cx) l.a (wordsV (stN l D)) := by
           have h := HN3.out.row (V := .slice AX l.a cx) (X := wordsV (stN l D)) (by simp)
           rw [wordsV_len, stN_len] at h
           exact h.keepT o
          have k := r_same (stN l D) (stN l D) (by rw [stN_len]; omega) (by rw [stN_len]; omega) V _ _ (by rw [stN_len]; exact k1) (by rw [stN_len]; exact k2)
          rwa [decide_eq_true rfl] at k)
         go_wp2_with fail
         go_region_held3 (fun W => W.cell? ⟨w.heap.size, 0, none⟩ = some (.slice AI ids.length ci) ∧ W.cell? ⟨w.heap.size, 1, none⟩ = some (.int .i64 l.a) ∧ W.cell? ⟨lb, 5, none⟩ = some (.int .i64 l.st) ∧ W.cell? ⟨lb, 7, none⟩ = some (.int .i64 l.h) ∧ W.cell? ⟨xb, 0, none⟩ = some (.slice AX l.a cx))
          (first | with_reducible assumption | go_keep)
          (first
           | (go_at_call 19; refine (HSM.out _ (Off.refl _ _).drew).mono ?_; rintro e b3 ⟨rfl, hz⟩; have HN5 := hID (And.intro (HN3.out.off ((Off.refl _ _).drew.also hz)) ((Off.refl Nob b2).drew.also hz)); clear hz s_0 s_1 s_2 s_3 s_4 l_0 l_1 l_2 l_3 l_4 l_5 l_6 l_7 x_0 x_1; obtain ⟨s_0, s_1, s_2, s_3, s_4, l_0, l_1, l_2, l_3, l_4, l_5, l_6, l_7⟩ := GC.out _ (HN5.out.1.old); have x_0 := HN5.out.1.blk.cell 0))
         clear HSM hs2 hs3 hw2 hw3 i0 i1 i2 i3 i4 i5 i6 hne1 hne2 dl1 dl2 dn1 dn2 hm1 hc1 s_0 s_1 s_2 s_3 s_4 l_0 l_1 l_2 l_3 l_4 l_5 l_6 l_7 x_0 HN3
         go_wp2_with fail
         go_loopw [17, 18] (fun q i wq => ∃ r : Nat, r ≤ ids.length ∧ i = .int .i64 (r : Int) ∧ q = .int .i64 ((cnt r : Nat) : Int) ∧ Off Nob b3 wq) (fun q i wq => ids.length - (intOf i).toNat)
         case atStart => exact ⟨0, Nat.zero_le _, rfl, by rw [HJ.out.1]; rfl, Off.refl _ _⟩
         case round =>
          obtain ⟨r, hr, rfl, rfl, ho⟩ := hrel
          have HO := hID ho
          clear ho
          obtain ⟨s_0, s_1, s_2, s_3, s_4, l_0, l_1, l_2, l_3, l_4, l_5, l_6, l_7⟩ := GC.out _ (HN5.out.1.old.also HO.out)
          by_cases hrl : r < ids.length
          ·have e1 : decide ((r : Int) < (ids.length : Int)) = true := decide_eq_true (by omega)
           obtain ⟨ix, hix⟩ : ∃ ix, l.h + r = ix := ⟨_, rfl⟩
           have hs4 : (l.h : Int) + (r : Int) = (ix : Int) := by omega
           have hix3 := HE2.out.2.2.1
           have hixz : ix < Z := by omega
           have hix4 := HLI.out.2.2.1
           have hix5 : ix ≤ 1203 := by omega
           have hixw : (l.h : Int) + (r : Int) ≤ 1203 := by omega
           have gcell := Rd.word (HRD1.out.keepT (HN5.out.2.also HO.out)) hixz
           rw [map_get, ← hix, Nat.zero_add] at gcell
           clear hix4 hix3
           have hrn : r ≤ 100000 := by have := HW.out.2.2.2; omega
           rw [HJ.out.2.1 r hrl] at gcell
           cases hh : hit r
           case true =>
            obtain ⟨q1, q2, q3⟩ := HJ.out.2.2.1 r hrl hh
            have HQ3 := hID q3
            rw [hh, show (((msk true).toNat : Nat) : Int) = 18446744073709551615 by decide] at gcell
            have hrow := HN5.out.1.row (V := .slice AH H.length cH) (X := natsV H) (by simp)
            rw [natsV_len] at hrow
            obtain ⟨hb3, ho3, hc3, hee, hcc⟩ := (hrow.keepT HO.out).cellsT (by omega)
            cases hee
            have hcell := hcc _ (Off.refl _ _) _ _ (natsV_get q1)
            rw [q2] at hcell
            clear hcc hrow q3 q2
            have hql := HHL.out
            obtain ⟨q, hq⟩ : ∃ q, cnt r = q := ⟨_, rfl⟩
            rw [hq] at q1 hcell HQ3 ⊢
            have dq : decide ((q : Int) < (H.length : Int)) = true := decide_eq_true (by omega)
            have hq16 : q ≤ 16 := by omega
            clear hq
            rw [hix] at gcell
            go_wp2_with fail
            go_roundw
            case rel => exact ⟨r + 1, hrl, by go_num, by rw [HQ3.out]; go_num, HO.out⟩
            case measure => simp [intOf]; omega
           case false =>
            obtain ⟨q3, q4⟩ := HJ.out.2.2.2 r hrl hh
            have HQ3 := hID q3
            rw [hh, show (((msk false).toNat : Nat) : Int) = 0 by decide] at gcell
            obtain ⟨q, hq⟩ : ∃ q, cnt r = q := ⟨_, rfl⟩
            rw [hq] at HQ3 ⊢
            clear q3 hq
            by_cases hqh : q < H.length
            ·have hrow := HN5.out.1.row (V := .slice AH H.length cH) (X := natsV H) (by simp)
             rw [natsV_len] at hrow
             obtain ⟨hb3, ho3, hc3, hee, hcc⟩ := (hrow.keepT HO.out).cellsT (by omega)
             cases hee
             have hcell := hcc _ (Off.refl _ _) _ _ (natsV_get hqh)
             have hne := q4 q hqh
             clear hcc hrow q4
             obtain ⟨y, hy⟩ : ∃ y, H.getD q 0 = y := ⟨_, rfl⟩
             rw [hy] at hcell hne
             clear hy
             have hql := HHL.out
             have dq : decide ((q : Int) < (H.length : Int)) = true := decide_eq_true (by omega)
             have dy : decide ((y : Int) = (r : Int)) = false := decide_eq_false (by omega)
             have dy2 : ¬ y = r := hne
             have hq16 : q ≤ 16 := by omega
             rw [hix] at gcell
             go_wp2_with fail
             go_roundw
             case rel => exact ⟨r + 1, hrl, by go_num, by rw [HQ3.out], HO.out⟩
             case measure => simp [intOf]; omega
            ·have dq : decide ((q : Int) < (H.length : Int)) = false := decide_eq_false (by omega)
             have dqn : decide (q < H.length) = false := decide_eq_false hqh
             clear q4
             rw [hix] at gcell
             go_wp2_with fail
             go_roundw
             case rel => exact ⟨r + 1, hrl, by go_num, by rw [HQ3.out], HO.out⟩
             case measure => simp [intOf]; omega
          ·obtain rfl : r = ids.length := by omega
           have e1 : decide ((ids.length : Int) < (ids.length : Int)) = false := decide_eq_false (by omega)
           go_wp2_with fail
           go_roundw
           case rel => exact ⟨k + 1, j + 1, AX, cx, D, E1, rfl, by omega, by omega, (HN5.out.1.off HO.out).sub (by intro y hy; exact List.mem_cons_of_mem _ hy), HDL.out, HPD.out, HLW.out, HE1.out⟩
           case measure => simp [intOf]; omega
        exact AllReadyH.nil
       exact AllReadyH.nil
      exact AllReadyH.nil
   ·obtain rfl : k = L.length := by omega
    have d1 : decide ((L.length : Int) < (L.length : Int)) = false := decide_eq_false (by omega)
    go_wp2_with fail
    refine (shown_true _ (tz_keep HZ.out (X1.out.1.also HR.out.1.old))).mono ?_
    rintro e vz ⟨rfl, oz⟩
    have YZ := hID ((X1.out.1.also HR.out.1.old).also oz)
    clear oz
    go_wp2_with fail
    go_ret
    exact ⟨rfl, YZ.out⟩
theorem engineReads_walk {w : World} (hZ : TzT w) {VI VT VS VF u u2 : Value} {ids : List Int} {wd : Int} {T S Fi L L2 : List Nat} (ho : OSet w VI VT VS VF ids wd T S Fi) (r0 : Rd w (Old w) 1 u L.length (bytesV L)) (hL : ∀ z ∈ L, z < 256) (r1 : Rd w (Old w) 1 u2 L2.length (bytesV L2)) (hL2 : ∀ z ∈ L2, z < 256) :
  Calls Tryz.prog 6 #[.agg #[VI, .int .i64 wd, VT, VS, VF], u, u2] w fun e w' => e = .returned (.bool true) ∧ Off Nob w w' := by
 obtain ⟨AI, ci, rfl, _⟩ := ho.i.form
 obtain ⟨AT, ct, rfl, _⟩ := ho.t.form
 obtain ⟨AS, cs, rfl, _⟩ := ho.s.form
 obtain ⟨AF, cf, rfl, _⟩ := ho.f.form
 obtain ⟨B0, c0, rfl, _⟩ := r0.form
 obtain ⟨B1, c1, rfl, _⟩ := r1.form
 by_cases h : L.length ≤ 30 ∧ setErr ids wd T S Fi = 0
 ·obtain ⟨g0, hz⟩ := h
  obtain ⟨_, _, _, ⟨W, rfl, _⟩, _⟩ := setErr_ok hz
  exact engineReads_ok hZ AI AT AS AF B0 B1 ci ct cs cf c0 c1 ids W T S Fi L L2 ho hz g0 hL hL2 r0.any r1.any
 ·exact engineReads_out hZ AI AT AS AF B0 B1 ci ct cs cf c0 c1 ids wd T S Fi L L2 ho _ rfl (fun g0 hz => h ⟨g0, hz⟩)
end Go.Proofs.YtkflicifngohcaaGreatDoor
