/-
 tables.Plan and Check in general: they return what dragnetref18's do.
-/
import Derived.Test.YtlgjaefcfnndhaaGreatDoorP28
import Derived.Test.YtlgjaefcfnndhaaGreatDoorP27
import Derived.ChangeKeysEq
import Derived.Deep.RegionHeldLaw
import Derived.Deep.AppendLies
import Derived.Test.YtlgjaefcfnndhaaGreatDoorP24
set_option linter.unusedVariables false
set_option linter.unusedSimpArgs false
set_option maxHeartbeats 16000000
set_option maxRecDepth 100000
namespace Go.Proofs.YtlgjaefcfnndhaaGreatDoor
section
open Go.RowKit
theorem qp4 : Tryz.prog.eqGuardType Tryz.prog.depth 131 = false := by kernel_rfl
theorem qp5 : Tryz.prog.cellsOf 3 = 1 := by kernel_rfl
theorem qog (w : World) (a1 a2 a3 b1 b2 b3 : Int) : (Op.equalIn 10000 131 (.agg #[.int .i64 a1, .int .i64 a2, .int .i64 a3]) (.agg #[.int .i64 b1, .int .i64 b2, .int .i64 b3])).run Tryz.prog w = .ok (decide (a1 = b1 ∧ a2 = b2 ∧ a3 = b3)) w := by
 obtain ⟨i0, hi, hz0, hz1, hz2⟩ := info_parts Tryz.infoI'
 rw [show (10000 : Nat) = 9999 + 1 from rfl, run_equalIn_array w 9999 _ _ Tryz.underlying131 hi, qp5]
 have hr : List.range 3 = [0, 1, 2] := rfl
 rw [hr]
 have hp : ∀ (x y z : Int) (w : World) (j : Nat) (v : Value), #[Value.int .i64 x, .int .i64 y, .int .i64 z][j]? = some v → (part 3 #[.int .i64 x, .int .i64 y, .int .i64 z] j).run Tryz.prog w = .ok v w := by
  intro x y z w j v hv
  exact run_part_plain w (by kernel_rfl) hv
 have he : ∀ (w : World) (a b : Int), (Op.equalIn 9999 3 (.int .i64 a) (.int .i64 b)).run Tryz.prog w = .ok (decide (a = b)) w := by
  intro w a b
  rw [show (9999 : Nat) = 9998 + 1 from rfl, run_equalIn_int w 9998 _ .i64 .i64 a b Tryz.underlying3]
  by_cases e : a = b <;> simp [e]
 simp only [Op.eqItems, Sem.run_bind, Nat.mul_one]
 rw [hp _ _ _ w 0 (.int .i64 a1) rfl]
 simp only [Result.andThen_ok, hp _ _ _ _ 0 (.int .i64 b1) rfl, he]
 by_cases e1 : a1 = b1
 ·simp only [e1, decide_true, Bool.not_true, Bool.false_eq_true, if_false, Sem.run_bind, hp _ _ _ _ 1 (.int .i64 a2) rfl, hp _ _ _ _ 1 (.int .i64 b2) rfl, Result.andThen_ok, he]
  by_cases e2 : a2 = b2
  ·simp only [e2, decide_true, Bool.not_true, Bool.false_eq_true, if_false, Sem.run_bind, hp _ _ _ _ 2 (.int .i64 a3) rfl, hp _ _ _ _ 2 (.int .i64 b3) rfl, Result.andThen_ok, he]
   by_cases e3 : a3 = b3 <;> simp [e3, Sem.run_pure]
  ·simp [e2, Sem.run_pure]
 ·simp [e1, Sem.run_pure]
theorem qoh {xs : List Int} : Asc xs ↔ AscB xs = true := by
 unfold Asc AscB
 rw [List.all_eq_true]
 constructor
 ·intro h j hj
  exact dT (h j (by have := List.mem_range.1 hj; omega))
 ·intro h j hj
  exact of_decide_eq_true (h j (List.mem_range.2 (by omega)))
theorem qoi (ids : List Int) (Wd : Int) (T S F : List Nat) (w : World) (VI VT VS VF : Value) (hs : SetV w VI VT VS VF ids Wd T S F) (hZ : TzT w) :
  Calls Tryz.prog 42 #[.agg #[VI, .int .i64 Wd, VT, VS, VF]] w (RPl ids Wd T S F w) := by
 have HSV := hID hs
 have HZ := hID hZ
 obtain ⟨AI, ci, rfl, _⟩ := hs.i.form
 obtain ⟨AT, ct, rfl, _⟩ := hs.t.form
 obtain ⟨AS, cs, rfl, _⟩ := hs.s.form
 obtain ⟨AF, cf, rfl, _⟩ := hs.f.form
 have hil := hs.il
 have htl := hs.tl
 have hsl := hs.sl
 have hfl := hs.fl
 have hw64 := hs.w64
 clear hs hZ
 go_enter Tryz.func42, Tryz.ntmps42
 have HB0 : Hid (Blk ((w.alloc (.cells #[.slice AI ids.length ci, .int .i64 Wd, .slice AT T.length ct, .slice AS S.length cs, .slice AF F.length cf] 25)).alloc (.cells #[.int .i64 0, .slice none 0 0] 62)) w.heap.size 25 #[.slice AI ids.length ci, .int .i64 Wd, .slice AT T.length ct, .slice AS S.length cs, .slice AF F.length cf] ∧ Blk ((w.alloc (.cells #[.slice AI ids.length ci, .int .i64 Wd, .slice AT T.length ct, .slice AS S.length cs, .slice AF F.length cf] 25)).alloc (.cells #[.int .i64 0, .slice none 0 0] 62)) (w.heap.size + 1) 62 #[.int .i64 0, .slice none 0 0] ∧ Off Nob w ((w.alloc (.cells #[.slice AI ids.length ci, .int .i64 Wd, .slice AT T.length ct, .slice AS S.length cs, .slice AF F.length cf] 25)).alloc (.cells #[.int .i64 0, .slice none 0 0] 62))) := hID ⟨(Blk.new _ _ _).alloc _, qbn _ _ _ _, (oRf.alloc _).alloc _⟩
 by_cases hz : ids.length = 0
 ·have d0 : ((ids.length : Int) == 0) = true := by rw [beq_iff_eq]; omega
  have HN := hID (show qan ids Wd T S F = 6 by unfold qan; rw [if_pos hz])
  clear hz
  go_wp2_with fail
  exact bodyPost_ret (qac rfl _ _ _ _ _ (0, 0) _ rfl HB0.out.2.1 Tryz.underlying62 rfl Tryz.infoPl) rfl ⟨0, none, 0, 0, (by rw [HN.out]; try rfl), fun h => absurd h (by rw [HN.out]; decide), HB0.out.2.2⟩
 have d0 : ((ids.length : Int) == 0) = false := by rw [beq_eq_false_iff_ne]; omega
 by_cases h16 : 16 < ids.length
 ·have d1 : decide ((16 : Int) < (ids.length : Int)) = true := dcT
  have d1n : decide (16 < ids.length) = true := dT h16
  have HN := hID (show qan ids Wd T S F = 3 by unfold qan; rw [if_neg hz, if_pos h16])
  go_wp2_with fail
  exact bodyPost_ret (qac rfl _ _ _ _ _ (0, 0) _ rfl HB0.out.2.1 Tryz.underlying62 rfl Tryz.infoPl) rfl ⟨0, none, 0, 0, (by rw [HN.out]; try rfl), fun h => absurd h (by rw [HN.out]; decide), HB0.out.2.2⟩
 have d1 : decide ((16 : Int) < (ids.length : Int)) = false := dcF
 have d1n : decide (16 < ids.length) = false := dF h16
 have H16 := hID (And.intro hz h16)
 have HMIN := hID (fun (W' : World) (o : Off Nob w W') => smin ids HSV.out.i64 (by omega) (by omega) W' _ (HSV.out.i.keepT o))
 have HMAX := hID (fun (W' : World) (o : Off Nob w W') => smax ids HSV.out.i64 (by omega) (by omega) W' _ (HSV.out.i.keepT o))
 go_wp2_with fail
 revert HB0
 generalize ((w.alloc (.cells #[.slice AI ids.length ci, .int .i64 Wd, .slice AT T.length ct, .slice AS S.length cs, .slice AF F.length cf] 25)).alloc (.cells #[.int .i64 0, .slice none 0 0] 62)) = w0
 intro HB0
 have GC : Hid (∀ W', Off Nob w0 W' → W'.cell? ⟨w.heap.size, 0, none⟩ = some (.slice AI ids.length ci) ∧ W'.cell? ⟨w.heap.size, 1, none⟩ = some (.int .i64 Wd) ∧ W'.cell? ⟨w.heap.size, 2, none⟩ = some (.slice AT T.length ct) ∧ W'.cell? ⟨w.heap.size, 3, none⟩ = some (.slice AS S.length cs) ∧ W'.cell? ⟨w.heap.size, 4, none⟩ = some (.slice AF F.length cf) ∧ W'.cell? ⟨w.heap.size + 1, 0, none⟩ = some (.int .i64 0) ∧ W'.cell? ⟨w.heap.size + 1, 1, none⟩ = some (.slice none 0 0) ∧ W'.frozen? ⟨w.heap.size + 1, 0, none⟩ = false ∧ W'.frozen? ⟨w.heap.size + 1, 1, none⟩ = false) := hID (fun W' ho => by
  have h := HB0.out.1.to (ho.block _ HB0.out.1.lt id)
  have k := HB0.out.2.1.to (ho.block _ HB0.out.2.1.lt id)
  exact ⟨h.cell 0, h.cell 1, h.cell 2, h.cell 3, h.cell 4, k.cell 0, k.cell 1, k.frozen 0, k.frozen 1⟩)
 have O0 : Hid (Off Nob w0 w0) := hID oRf
 have H7 := hID (fun (h : ¬ ((∀ x ∈ ids, 1 ≤ x ∧ x ≤ 1000) ∧ 1 ≤ Wd ∧ Wd ≤ 4)) => show qan ids Wd T S F = 7 by
  unfold qan
  rw [if_neg H16.out.1, if_neg H16.out.2, if_neg]
  simp only [Bool.and_eq_true, List.all_eq_true, decide_eq_true_eq]
  exact h)
 refine (HMIN.out _ HB0.out.2.2).mono ?_
 rintro e w1 ⟨⟨lo, rfl, hlo, hloa⟩, rfl⟩
 obtain ⟨s0, s1, s2, s3, s4, q0, q1, f0, f1⟩ := GC.out _ O0.out
 by_cases h1 : lo < 1
 ·have e1 : decide (lo < 1) = true := dT h1
  have HN := hID (H7.out (fun h => by have := (h.1 lo hlo).1; omega))
  clear hloa
  have HRB := hID (HB0.out.2.1.to (O0.out.block _ HB0.out.2.1.lt id))
  go_wp2_with fail
  have XE := hID ((HRB.out.put 0 (.int .i64 0)).put 1 (.slice none 0 0))
  exact bodyPost_ret (qac rfl _ _ _ _ _ (0, 0) _ rfl XE.out Tryz.underlying62 rfl Tryz.infoPl) rfl ⟨0, none, 0, 0, (by rw [HN.out]; try rfl), fun h => absurd h (by rw [HN.out]; decide), ((HB0.out.2.2.also O0.out).put (.inr (Nat.le_succ _)) _).put (.inr (Nat.le_succ _)) _⟩
 have e1 : decide (lo < 1) = false := dF h1
 have HLO := hID (show ∀ x ∈ ids, 1 ≤ x from fun x hx => by have := hloa x hx; omega)
 clear hloa hlo
 go_wp2_with fail
 refine (HMAX.out _ HB0.out.2.2).mono ?_
 rintro e w1 ⟨⟨hi, rfl, hhi, hhia⟩, rfl⟩
 by_cases h2 : 1000 < hi
 ·have e2 : decide (1000 < hi) = true := dT h2
  have HN := hID (H7.out (fun h => by have := (h.1 hi hhi).2; omega))
  clear hhia s0 s1 s2 s3 s4 q0 q1 f0 f1
  obtain ⟨s0, s1, s2, s3, s4, q0, q1, f0, f1⟩ := GC.out _ O0.out
  have HRB := hID (HB0.out.2.1.to (O0.out.block _ HB0.out.2.1.lt id))
  go_wp2_with fail
  have XE := hID ((HRB.out.put 0 (.int .i64 0)).put 1 (.slice none 0 0))
  exact bodyPost_ret (qac rfl _ _ _ _ _ (0, 0) _ rfl XE.out Tryz.underlying62 rfl Tryz.infoPl) rfl ⟨0, none, 0, 0, (by rw [HN.out]; try rfl), fun h => absurd h (by rw [HN.out]; decide), ((HB0.out.2.2.also O0.out).put (.inr (Nat.le_succ _)) _).put (.inr (Nat.le_succ _)) _⟩
 have e2 : decide (1000 < hi) = false := dF h2
 have HIN := hID (show ∀ x ∈ ids, 1 ≤ x ∧ x ≤ 1000 from fun x hx => ⟨HLO.out x hx, by have := hhia x hx; omega⟩)
 clear hhia hhi
 by_cases h3 : Wd < 1
 ·have e3 : decide (Wd < 1) = true := dT h3
  have HN := hID (H7.out (fun h => by omega))
  clear s0 s1 s2 s3 s4 q0 q1 f0 f1
  obtain ⟨s0, s1, s2, s3, s4, q0, q1, f0, f1⟩ := GC.out _ O0.out
  have HRB := hID (HB0.out.2.1.to (O0.out.block _ HB0.out.2.1.lt id))
  go_wp2_with fail
  have XE := hID ((HRB.out.put 0 (.int .i64 0)).put 1 (.slice none 0 0))
  exact bodyPost_ret (qac rfl _ _ _ _ _ (0, 0) _ rfl XE.out Tryz.underlying62 rfl Tryz.infoPl) rfl ⟨0, none, 0, 0, (by rw [HN.out]; try rfl), fun h => absurd h (by rw [HN.out]; decide), ((HB0.out.2.2.also O0.out).put (.inr (Nat.le_succ _)) _).put (.inr (Nat.le_succ _)) _⟩
 have e3 : decide (Wd < 1) = false := dF h3
 by_cases h4 : 4 < Wd
 ·have e4 : decide (4 < Wd) = true := dT h4
  have HN := hID (H7.out (fun h => by omega))
  clear s0 s1 s2 s3 s4 q0 q1 f0 f1
  obtain ⟨s0, s1, s2, s3, s4, q0, q1, f0, f1⟩ := GC.out _ O0.out
  have HRB := hID (HB0.out.2.1.to (O0.out.block _ HB0.out.2.1.lt id))
  go_wp2_with fail
  have XE := hID ((HRB.out.put 0 (.int .i64 0)).put 1 (.slice none 0 0))
  exact bodyPost_ret (qac rfl _ _ _ _ _ (0, 0) _ rfl XE.out Tryz.underlying62 rfl Tryz.infoPl) rfl ⟨0, none, 0, 0, (by rw [HN.out]; try rfl), fun h => absurd h (by rw [HN.out]; decide), ((HB0.out.2.2.also O0.out).put (.inr (Nat.le_succ _)) _).put (.inr (Nat.le_succ _)) _⟩
 have e4 : decide (4 < Wd) = false := dF h4
 obtain ⟨W, rfl⟩ : ∃ W : Nat, Wd = (W : Int) := ⟨Wd.toNat, by omega⟩
 have hW1 : 1 ≤ W := by omega
 have hW4 : W ≤ 4 := by omega
 have HSE := hID (show qan ids (W : Int) T S F = if AscB ids && decide (T.length = 256 * W ∧ S.length = W ∧ F.length = ids.length * W) && (planR F S T W ids.length).isSome then 0 else 6 by
  unfold qan
  rw [if_neg H16.out.1, if_neg H16.out.2, if_pos (by
   simp only [Bool.and_eq_true, List.all_eq_true, decide_eq_true_eq]
   exact ⟨HIN.out, by omega, by omega⟩)]
  rfl)
 have HNM := hID (fun (W' : World) (o : Off Nob w W') => q1n ids HIN.out (by omega) W' _ (HSV.out.i.keepT o))
 clear h1 h2 h3 h4 H7 HMIN HMAX
 go_wp2_with fail
 refine (HNM.out _ HB0.out.2.2).mono ?_
 rintro e w1 ⟨⟨x, m, rfl, hasc⟩, rfl⟩
 clear s0 s1 s2 s3 s4 q0 q1 f0 f1
 obtain ⟨s0, s1, s2, s3, s4, q0, q1, f0, f1⟩ := GC.out _ O0.out
 rcases hasc with ⟨hasc, rfl⟩ | ⟨hasc, rfl⟩
 rotate_left
 ·have HN := hID (show qan ids (W : Int) T S F = 6 by
   rw [HSE.out, show AscB ids = false from by
    cases h : AscB ids with
    | false => rfl
    | true => exact absurd (qoh.2 h) hasc]
   rfl)
  clear hasc
  have HRB := hID (HB0.out.2.1.to (O0.out.block _ HB0.out.2.1.lt id))
  go_wp2_with fail
  have XE := hID ((HRB.out.put 0 (.int .i64 0)).put 1 (.slice none 0 0))
  exact bodyPost_ret (qac rfl _ _ _ _ _ (0, 0) _ rfl XE.out Tryz.underlying62 rfl Tryz.infoPl) rfl ⟨0, none, 0, 0, (by rw [HN.out]; try rfl), fun h => absurd h (by rw [HN.out]; decide), ((HB0.out.2.2.also O0.out).put (.inr (Nat.le_succ _)) _).put (.inr (Nat.le_succ _)) _⟩
 have HASC := hID (qoh.1 hasc)
 have HSZ := hID (fun (h : ¬ (T.length = 256 * W ∧ S.length = W ∧ F.length = ids.length * W)) => show qan ids (W : Int) T S F = 6 by
  rw [HSE.out, HASC.out, dF h]
  rfl)
 clear hasc
 have hnw : ids.length * W ≤ 64 := Nat.le_trans (Nat.mul_le_mul (show ids.length ≤ 16 by have := H16.out.2; omega) hW4) (by decide)
 have hcast : (ids.length : Int) * (W : Int) = ((ids.length * W : Nat) : Int) := by push_cast; rfl
 obtain ⟨m, hm⟩ : ∃ m, ids.length * W = m := ⟨_, rfl⟩
 have HM := hID hm
 rw [hm] at hnw hcast HSZ
 clear hm
 have hfg := qp4
 have HPL := hID (fun (h : T.length = 256 * W ∧ S.length = W ∧ F.length = ids.length * W) (W' : World) (o : Off Nob w W') => q1r W hW1 hW4 ids.length (by have := H16.out.1; omega) (by have := H16.out.2; omega) F S T h.2.2 h.2.1 h.1 HSV.out.f64 HSV.out.s64 HSV.out.t64 W' AI ci _ _ _ (HSV.out.t.keepT o) (HSV.out.s.keepT o) (HSV.out.f.keepT o) HSV.out.ct HSV.out.cf (qbq HZ.out o))
 by_cases hsz : T.length = 256 * W ∧ S.length = W ∧ F.length = m
 rotate_left
 ·have HN := hID (HSZ.out hsz)
  have hfe : ∀ W', (Op.equalIn 10000 131 (.agg #[.int .i64 T.length, .int .i64 S.length, .int .i64 F.length]) (.agg #[.int .i64 (256 * (W : Int)), .int .i64 W, .int .i64 m])).run Tryz.prog W' = .ok false W' := fun W' => by
   rw [qog, dF]
   exact fun h => hsz ⟨by omega, by omega, by omega⟩
  have O1 := hID (O0.out.alloc (.cells #[.int .i64 T.length, .int .i64 S.length, .int .i64 F.length] 131))
  clear hsz s0 s1 s2 s3 s4 q0 q1 f0 f1
  obtain ⟨s0, s1, s2, s3, s4, q0, q1, f0, f1⟩ := GC.out _ O0.out
  obtain ⟨r0, r1, r2, r3, r4, t0, t1, t2, t3⟩ := GC.out _ O1.out
  have HRB := hID (HB0.out.2.1.to (O1.out.block _ HB0.out.2.1.lt id))
  go_wp2_with fail
  have XE := hID ((HRB.out.put 0 (.int .i64 0)).put 1 (.slice none 0 0))
  exact bodyPost_ret (qac rfl _ _ _ _ _ (0, 0) _ rfl XE.out Tryz.underlying62 rfl Tryz.infoPl) rfl ⟨0, none, 0, 0, (by rw [HN.out]; try rfl), fun h => absurd h (by rw [HN.out]; decide), ((HB0.out.2.2.also O1.out).put (.inr (Nat.le_succ _)) _).put (.inr (Nat.le_succ _)) _⟩
 have hfe : ∀ W', (Op.equalIn 10000 131 (.agg #[.int .i64 T.length, .int .i64 S.length, .int .i64 F.length]) (.agg #[.int .i64 (256 * (W : Int)), .int .i64 W, .int .i64 m])).run Tryz.prog W' = .ok true W' := fun W' => by
  rw [qog, dT]
  exact ⟨by omega, by omega, by omega⟩
 have HSZ2 := hID (show T.length = 256 * W ∧ S.length = W ∧ F.length = ids.length * W from ⟨hsz.1, hsz.2.1, by rw [HM.out]; exact hsz.2.2⟩)
 have O1 := hID (O0.out.alloc (.cells #[.int .i64 T.length, .int .i64 S.length, .int .i64 F.length] 131))
 clear hsz
 obtain ⟨r0, r1, r2, r3, r4, t0, t1, t2, t3⟩ := GC.out _ O1.out
 go_wp2_with fail
 refine (HPL.out HSZ2.out _ (HB0.out.2.2.also O1.out)).mono ?_
 rintro e v1 ⟨x, A, kk, cc, bb, rfl, hres, o1⟩
 have O2 := hID (O1.out.also o1)
 have HPB := hID (Blk.new v1 62 #[.int .i64 x, .slice A kk cc])
 clear o1 s0 s1 s2 s3 s4 q0 q1 f0 f1 r0 r1 r2 r3 r4 t0 t1 t2 t3
 have O3 := hID (O2.out.alloc (.cells #[.int .i64 x, .slice A kk cc] 62))
 obtain ⟨s0, s1, s2, s3, s4, q0, q1, f0, f1⟩ := GC.out _ O3.out
 have z0 := HPB.out.cell 0
 have z1 := HPB.out.cell 1
 simp only [qG] at z0 z1
 rcases hres with ⟨hno, rfl⟩ | ⟨l, hl, rfl, rfl, hrd⟩
 ·have HN := hID (show qan ids (W : Int) T S F = 6 by rw [HSE.out, ← qlw HSZ2.out.2.2 HSZ2.out.2.1 HSV.out.f64 HSV.out.s64, hno]; simp)
  clear hno
  have HRB := hID (HB0.out.2.1.to (O3.out.block _ HB0.out.2.1.lt id))
  go_wp2_with fail
  have XE := hID ((HRB.out.put 0 (.int .i64 0)).put 1 (.slice none 0 0))
  exact bodyPost_ret (qac rfl _ _ _ _ _ (0, 0) _ rfl XE.out Tryz.underlying62 rfl Tryz.infoPl) rfl ⟨0, none, 0, 0, (by rw [HN.out]; try rfl), fun h => absurd h (by rw [HN.out]; decide), ((HB0.out.2.2.also O3.out).put (.inr (Nat.le_succ _)) _).put (.inr (Nat.le_succ _)) _⟩
 ·have HL := hID (show planR F S T W ids.length = some l by rw [← qlw HSZ2.out.2.2 HSZ2.out.2.1 HSV.out.f64 HSV.out.s64]; exact hl)
  have HN := hID (show qan ids (W : Int) T S F = 0 by
   rw [HSE.out, HL.out, HASC.out, dT HSZ2.out]
   rfl)
  have HRD := hID hrd
  clear hl hrd
  have HRB := hID (HB0.out.2.1.to (O3.out.block _ HB0.out.2.1.lt id))
  go_wp2_with fail
  have XE := hID ((HRB.out.put 0 (.int .i64 W)).put 1 (.slice A kk cc))
  have o7 := (qcu (v1.alloc (.cells #[.int .i64 W, .slice A kk cc] 62)) ⟨w.heap.size + 1, 0, none⟩ (.int .i64 W)).also (qcu _ ⟨w.heap.size + 1, 1, none⟩ (.slice A kk cc))
  have hrd2 : Rd (v1.alloc (.cells #[.int .i64 W, .slice A kk cc] 62)) (fun k => w0.heap.size + 1 ≤ k) 3 (.slice A kk cc) l.length (lnV l) := (HRD.out.keep (oAl (Off.refl Nob _) _) (fun _ _ h => h)).mono (fun j hj => by simpa using hj)
  have hrd3 := (hrd2.keep o7 (fun j hj hj2 => by have h1 := HB0.out.2.1.lt; have h3 : j = w.heap.size + 1 := hj2; omega)).mono (G := fun k => w.heap.size ≤ k) (fun j hj => by have := HB0.out.2.2.size; omega)
  exact bodyPost_ret (qac rfl _ _ _ _ _ (0, 0) _ rfl XE.out Tryz.underlying62 rfl Tryz.infoPl) rfl ⟨_, _, _, _, (by rw [HN.out]; try rfl), fun _ => ⟨rfl, l, HL.out, hrd3⟩, ((HB0.out.2.2.also O3.out).put (.inr (Nat.le_succ _)) _).put (.inr (Nat.le_succ _)) _⟩
theorem qqz (ids : List Int) (Wd : Int) (T S F : List Nat) (w : World) (VI VT VS VF : Value) (hs : SetV w VI VT VS VF ids Wd T S F) (hZ : TzT w) :
  Calls Tryz.prog 41 #[.agg #[VI, .int .i64 Wd, VT, VS, VF]] w (RetV w (.int .i64 (qan ids Wd T S F))) := by
 have HSV := hID hs
 have HZ := hID hZ
 obtain ⟨AI, ci, rfl, _⟩ := hs.i.form
 obtain ⟨AT, ct, rfl, _⟩ := hs.t.form
 obtain ⟨AS, cs, rfl, _⟩ := hs.s.form
 obtain ⟨AF, cf, rfl, _⟩ := hs.f.form
 clear hs hZ
 go_enter Tryz.func41, Tryz.ntmps41
 have X0 : Hid (Off Nob w (w.alloc (.cells #[.slice AI ids.length ci, .int .i64 Wd, .slice AT T.length ct, .slice AS S.length cs, .slice AF F.length cf] 25)) ∧ Blk (w.alloc (.cells #[.slice AI ids.length ci, .int .i64 Wd, .slice AT T.length ct, .slice AS S.length cs, .slice AF F.length cf] 25)) w.heap.size 25 #[.slice AI ids.length ci, .int .i64 Wd, .slice AT T.length ct, .slice AS S.length cs, .slice AF F.length cf]) := hID ⟨oRf.alloc _, Blk.new _ _ _⟩
 go_wp2_with fail
 refine (qoi ids Wd T S F _ _ _ _ _ (HSV.out.keep X0.out.1) (qbq HZ.out X0.out.1)).mono ?_
 rintro e w2 ⟨x, A, k, c, rfl, _, o2⟩
 have X2 := hID ((X0.out.1.also o2).alloc (.cells #[.int .i64 x, .slice A k c] 62))
 clear o2
 go_wp2_with fail
 go_ret
 exact ⟨rfl, X2.out⟩
end
section
open Go.RowKit
theorem qtc (ids : List Int) (W : Nat) (T S F : List Nat) (hok : qan ids (W : Int) T S F = 0) (w : World) (VI VT VS VF : Value) (hs : SetV w VI VT VS VF ids (W : Int) T S F) (hZ : TzT w) :
  Calls Tryz.prog 12 #[.agg #[VI, .int .i64 (W : Int), VT, VS, VF]] w (fun e w' => ∃ u, e = .returned (.tuple #[.agg #[u, .int .i64 0], .int .i64 0]) ∧ Rd w' (fun k => w.heap.size ≤ k) 1 u W (qab (List.replicate W 0)) ∧ Off Nob w w') := by
 obtain ⟨i0, hi, hz0, hz1, hz2⟩ := info_parts Tryz.infoU64
 obtain ⟨hi1, hi16, _, ⟨Wx, hWx, w1, w4, hlt, hls, hlf, hpl⟩, _⟩ := qcr hok
 obtain rfl : W = Wx := by omega
 have HCK := hID (fun (V : World) (oV : Off Nob w V) => qqz ids (W : Int) T S F V VI VT VS VF (hs.keep oV) (qbq hZ oV))
 have HOK := hID hok
 clear hs hok hlt hls hlf hpl hWx
 go_enter Tryz.func12, Tryz.ntmps12
 have HB0 : Hid (Off Nob w ((w.alloc (.cells #[VI, .int .i64 (W : Int), VT, VS, VF] 25)).alloc (.cells #[.slice none 0 0, .int .i64 0] 27)) ∧ Blk ((w.alloc (.cells #[VI, .int .i64 (W : Int), VT, VS, VF] 25)).alloc (.cells #[.slice none 0 0, .int .i64 0] 27)) w.heap.size 25 #[VI, .int .i64 (W : Int), VT, VS, VF] ∧ Blk ((w.alloc (.cells #[VI, .int .i64 (W : Int), VT, VS, VF] 25)).alloc (.cells #[.slice none 0 0, .int .i64 0] 27)) (w.heap.size + 1) 27 #[.slice none 0 0, .int .i64 0]) := hID ⟨(oRf.alloc _).alloc _, (Blk.new _ _ _).alloc _, qbn _ _ _ _⟩
 go_wp2_with fail
 revert HB0
 generalize ((w.alloc (.cells #[VI, .int .i64 (W : Int), VT, VS, VF] 25)).alloc (.cells #[.slice none 0 0, .int .i64 0] 27)) = w0
 intro HB0
 have GC : Hid (∀ V, Off Nob w0 V → V.cell? ⟨w.heap.size, 0, none⟩ = some (VI) ∧ V.cell? ⟨w.heap.size, 1, none⟩ = some (.int .i64 (W : Int)) ∧ V.cell? ⟨w.heap.size, 2, none⟩ = some (VT) ∧ V.cell? ⟨w.heap.size, 3, none⟩ = some (VS) ∧ V.cell? ⟨w.heap.size, 4, none⟩ = some (VF)) := hID (fun V ho => by
  have h := HB0.out.2.1.to (ho.block _ HB0.out.2.1.lt id)
  exact ⟨h.cell 0, h.cell 1, h.cell 2, h.cell 3, h.cell 4⟩)
 obtain ⟨c0, c1, c2, c3, c4⟩ := GC.out _ oRf
 go_wp2_with fail
 refine (HCK.out _ HB0.out.1).mono ?_
 rintro e w1 ⟨rfl, o1⟩
 rw [HOK.out]
 have Y1 := hID o1
 clear o1 c0 c1 c2 c3 c4 HCK
 obtain ⟨c0, c1, c2, c3, c4⟩ := GC.out _ Y1.out
 go_wp2_with (at_make; refine wpList_make_full _ rfl _ _ 23 rfl w1.heap.size 71 i0 (.int .u64 0) 1 Tryz.underlying23 hi hz0 hz1 .i64 .i64 _ _ W rfl rfl rfl rfl (by rw [hz2]; omega) (by unfold maxLen; omega) (Nat.le_refl _) ?_; intro w2 oW gW; have Y2 := hID (Y1.out.also (Off.grown (Off.refl Nob w1) gW (fun k hk => by cases hk))); have HBZ := hID (HB0.out.2.2.to (Y2.out.block _ HB0.out.2.2.lt id)); have f0 := HBZ.out.frozen 0; have f1 := HBZ.out.frozen 1; have z0 := HBZ.out.cell 0; have z1 := HBZ.out.cell 1)
 rw [qn5] at oW
 have X1 : Hid (Rd w2 (fun k => w1.heap.size ≤ k) 1 (.slice (some ⟨w1.heap.size, 0, none⟩) W W) W (qab (List.replicate W 0)) ∧ Off Nob w1 w2) := hID ⟨by rw [show qab (List.replicate W 0) = List.replicate W (.int .u64 0) by simp [qab]]; exact Rd.own oW (fun k hk => (oW.lt k hk).1), Off.grown oRf gW (fun k hk => by cases hk)⟩
 clear oW gW c0 c1 c2 c3 c4
 have XE := hID ((HBZ.out.put 0 (.slice (some ⟨w1.heap.size, 0, none⟩) W W)).put 1 (.int .i64 0))
 have OE : Off (fun j => j = w.heap.size + 1) w2 ((w2.setCell ⟨w.heap.size + 1, 0, none⟩ (.slice (some ⟨w1.heap.size, 0, none⟩) W W)).setCell ⟨w.heap.size + 1, 1, none⟩ (.int .i64 0)) := Off.put (F := fun j => j = w.heap.size + 1) (Off.put (F := fun j => j = w.heap.size + 1) oRf (.inl rfl) _) (.inl rfl) _
 have hlt2 := HB0.out.2.2.lt
 have hsz := Y1.out.size
 exact bodyPost_ret (qac rfl _ _ _ _ _ (0, 0) _ rfl XE.out Tryz.underlying27 rfl Tryz.infoSs) rfl ⟨_, rfl, (X1.out.1.keep OE (fun j hj he => by omega)).mono (fun j hj => by omega), ((HB0.out.1.also Y2.out).put (p := ⟨w.heap.size + 1, 0, none⟩) (.inr (Nat.le_add_right _ _)) _).put (p := ⟨w.heap.size + 1, 1, none⟩) (.inr (Nat.le_add_right _ _)) _⟩
theorem n_of (W : Nat) (hW : 1 ≤ W) (hW4 : W ≤ 4096) (Wd : Int) (X : List Nat) (hX : X.length = W) (at_ : Int) (w : World) (VI VT VS VF XV : Value) (hxv : Rd w (fun _ => True) 1 XV W (qab X)) :
  Calls Tryz.prog 47 #[.agg #[VI, .int .i64 Wd, VT, VS, VF], .agg #[XV, .int .i64 at_]] w (fun e w' => ∃ aB rB cap cur, e = .returned (.pointer (some ⟨aB, 0, none⟩)) ∧ Blk w' aB 138 #[VI, .int .i64 Wd, VT, VS, VF, .slice (some ⟨rB, 0, none⟩) W cap, .int .i64 at_] ∧
   Blk w' rB 71 cur ∧ (∀ j, j < W → cur[j]? = some (.int .u64 ((X.getD j 0 : Nat) : Int))) ∧ w.heap.size + 2 ≤ aB ∧ w.heap.size + 2 ≤ rB ∧ aB ≠ rB ∧ Off Nob w w') := by
 obtain ⟨i0, hi, hz0, hz1, hz2⟩ := info_parts Tryz.infoU64
 obtain ⟨A, c, rfl, _, hcell⟩ := hxv.form
 obtain ⟨b, o, rfl, hlt, hc⟩ := hcell (by omega)
 have HC := hID hc
 clear hxv hcell hc
 go_enter Tryz.func47, Tryz.ntmps47
 have HB0 : Hid (Off Nob w ((w.alloc (.cells #[VI, .int .i64 Wd, VT, VS, VF] 25)).alloc (.cells #[.slice (some ⟨b, o, none⟩) W c, .int .i64 at_] 27)) ∧ Blk ((w.alloc (.cells #[VI, .int .i64 Wd, VT, VS, VF] 25)).alloc (.cells #[.slice (some ⟨b, o, none⟩) W c, .int .i64 at_] 27)) w.heap.size 25 #[VI, .int .i64 Wd, VT, VS, VF] ∧ Blk ((w.alloc (.cells #[VI, .int .i64 Wd, VT, VS, VF] 25)).alloc (.cells #[.slice (some ⟨b, o, none⟩) W c, .int .i64 at_] 27)) (w.heap.size + 1) 27 #[.slice (some ⟨b, o, none⟩) W c, .int .i64 at_] ∧ ((w.alloc (.cells #[VI, .int .i64 Wd, VT, VS, VF] 25)).alloc (.cells #[.slice (some ⟨b, o, none⟩) W c, .int .i64 at_] 27)).heap.size = w.heap.size + 2) := hID ⟨((Off.refl Nob w).alloc _).alloc _, (Blk.new w _ _).alloc _, by simpa using Blk.new (w.alloc (.cells #[VI, .int .i64 Wd, VT, VS, VF] 25)) 27 #[.slice (some ⟨b, o, none⟩) W c, .int .i64 at_], by simp⟩
 go_wp2_with fail
 revert HB0
 generalize ((w.alloc (.cells #[VI, .int .i64 Wd, VT, VS, VF] 25)).alloc (.cells #[.slice (some ⟨b, o, none⟩) W c, .int .i64 at_] 27)) = w0
 intro HB0
 obtain ⟨o0, b0, b1, hs0⟩ := HB0.out
 have c0 : w0.cell? ⟨w.heap.size, 0, none⟩ = some VI := (b0.cell 0).trans rfl
 have c1 : w0.cell? ⟨w.heap.size, 1, none⟩ = some (.int .i64 Wd) := (b0.cell 1).trans rfl
 have c2 : w0.cell? ⟨w.heap.size, 2, none⟩ = some VT := (b0.cell 2).trans rfl
 have c3 : w0.cell? ⟨w.heap.size, 3, none⟩ = some VS := (b0.cell 3).trans rfl
 have c4 : w0.cell? ⟨w.heap.size, 4, none⟩ = some VF := (b0.cell 4).trans rfl
 have d0 : w0.cell? ⟨w.heap.size + 1, 0, none⟩ = some (.slice (some ⟨b, o, none⟩) W c) := (b1.cell 0).trans rfl
 have d1 : w0.cell? ⟨w.heap.size + 1, 1, none⟩ = some (.int .i64 at_) := (b1.cell 1).trans rfl
 have hnews : ∀ j u, (qab X)[j]? = some u → w0.cell? ((⟨b, o, none⟩ : Addr).add j) = some u := fun j u hj => by
  rw [Addr.add_lit, o0.cell_old hlt]; exact HC.out j u hj
 have h1 : ∀ u ∈ qab X, u.oneCell' = true := by
  intro u hu; simp only [qab, List.mem_map] at hu; obtain ⟨x, _, rfl⟩ := hu; rfl
 have hwl : (qab X).length = W * 1 := by simp [qab, hX]
 clear o0 b0 b1
 go_region_held_law (fun V => V.cell? ⟨w.heap.size, 0, none⟩ = some VI ∧ V.cell? ⟨w.heap.size, 1, none⟩ = some (.int .i64 Wd) ∧ V.cell? ⟨w.heap.size, 2, none⟩ = some VT ∧ V.cell? ⟨w.heap.size, 3, none⟩ = some VS ∧ V.cell? ⟨w.heap.size, 4, none⟩ = some VF ∧
   V.cell? ⟨w.heap.size + 1, 0, none⟩ = some (.slice (some ⟨b, o, none⟩) W c) ∧ V.cell? ⟨w.heap.size + 1, 1, none⟩ = some (.int .i64 at_))
  (first
   | go_keep
   | (go_split_ands; refine ⟨?_, ?_, ?_, ?_, ?_, ?_, ?_⟩ <;> (rw [gW.cell_far _ (by simp; omega) (by simp [Value.ownBlock])]; assumption)))
  ((refine step_append_lies _ (by rfl) _ _ _ (by rfl) w0.heap.size 71 i0 _ 1 8 Tryz.underlying23 hi hz0 hz1 hz2 rfl (by omega) (.slice none 0 0) 0 [] (by rfl) (World.ownsRow_nil _ _ _ _) ⟨b, o, none⟩ W c (qab X) (by rfl) hwl (by first | exact hnews | (intro j u hj; simpa using hnews j u hj)) h1 (by omega) (by unfold maxLen; omega) (by omega) (by simp) (w0.heap.size) (by simp) ?_; intro gg cap w1 hown1 gW hat hlt1))
 go_wp2_with fail
 go_ret
 rcases hown1.2 with ⟨h, _⟩ | ⟨g', cap', cur, he, hb, hg, _, _, _, htake⟩
 ·simp at h
 ·injection he with he _ hcap
  injection he with he
  injection he with he
  subst he
  refine ⟨w1.heap.size, gg, cap, cur, rfl, Blk.new _ _ _, Blk.alloc (show Blk w1 gg _ cur from hg) _, fun j hj => ?_, by have := gW.size; omega, by omega, by omega, (HB0.out.1.also (Off.grown ((Off.refl Nob w0).drew) gW (fun k hk => by cases hk))).alloc _⟩
  have e := congrArg (fun l : List Value => l[j]?) htake
  simp only [List.nil_append] at e
  rw [List.getElem?_take_of_lt (by omega), Array.getElem?_toList, qdq (by omega)] at e
  exact e
theorem qq0 (w : World) (aB : Nat) (VI VW VT VS VF : Value) (A : Option Addr) (n c : Nat) (at_ : Int) (hb : Blk w aB 138 #[VI, VW, VT, VS, VF, .slice A n c, .int .i64 at_]) :
  Calls Tryz.prog 49 #[.pointer (some ⟨aB, 0, none⟩)] w (fun e w' => e = .returned (.agg #[.slice A n c, .int .i64 at_]) ∧ Off Nob w w') := by
 go_enter Tryz.func49, Tryz.ntmps49
 have HB0 : Hid (Off Nob w (w.alloc (.cells #[.slice none 0 0, .int .i64 0] 27)) ∧ Blk (w.alloc (.cells #[.slice none 0 0, .int .i64 0] 27)) aB 138 #[VI, VW, VT, VS, VF, .slice A n c, .int .i64 at_] ∧ Blk (w.alloc (.cells #[.slice none 0 0, .int .i64 0] 27)) w.heap.size 27 #[.slice none 0 0, .int .i64 0]) := hID ⟨(Off.refl Nob w).alloc _, hb.alloc _, Blk.new _ _ _⟩
 have hlt := hb.lt
 clear hb
 go_wp2_with fail
 revert HB0
 generalize (w.alloc (.cells #[.slice none 0 0, .int .i64 0] 27)) = w0
 intro HB0
 obtain ⟨o0, b0, b1⟩ := HB0.out
 have c5 : w0.cell? ⟨aB, 5, none⟩ = some (.slice A n c) := (b0.cell 5).trans rfl
 have c6 : w0.cell? ⟨aB, 6, none⟩ = some (.int .i64 at_) := (b0.cell 6).trans rfl
 have s0 : w0.cell? ⟨w.heap.size, 0, none⟩ = some (.slice none 0 0) := (b1.cell 0).trans rfl
 have s1 : w0.cell? ⟨w.heap.size, 1, none⟩ = some (.int .i64 0) := (b1.cell 1).trans rfl
 have z0 := b1.frozen 0
 have z1 := b1.frozen 1
 clear o0 b0 b1
 go_region
 go_wp2_with fail
 have XE : Hid (Blk ((w0.setCell ⟨w.heap.size, 0, none⟩ (.slice A n c)).setCell ⟨w.heap.size, 1, none⟩ (.int .i64 at_)).drew w.heap.size 27 #[.slice A n c, .int .i64 at_]) := hID ((HB0.out.2.2.put 0 (.slice A n c)).put 1 (.int .i64 at_))
 exact bodyPost_ret (results_cell_row rfl _ _ w.heap.size 27 _ (0, 0) _ rfl XE.out Tryz.underlying27 rfl Tryz.infoSs) rfl ⟨rfl, ((HB0.out.1.put (p := ⟨w.heap.size, 0, none⟩) (.inr (Nat.le_refl _)) _).put (p := ⟨w.heap.size, 1, none⟩) (.inr (Nat.le_refl _)) _).drew⟩
end
section
open Go.RowKit
def qdb (ids : List Int) (W : Nat) (T S F : List Nat) : Nat := match planR F S T W ids.length with | some l => lnEnd 0 l | none => 0
def shErr (ids : List Int) (Wd : Int) (T S F X : List Nat) (at_ : Int) : Int :=
 if qan ids Wd T S F ≠ 0 then qan ids Wd T S F else if (X.length : Int) ≠ Wd then 6 else if (onesN X).any (fun p => decide (qdb ids Wd.toNat T S F ≤ p)) = true then 6 else if at_ < 0 ∨ 1000000000 < at_ then 7 else 0
theorem qxz {ids : List Int} {T S F X : List Nat} {at_ : Int} {sp f : Nat} (h0 : qan ids (X.length : Int) T S F = 0) (hs : qdb ids X.length T S F = sp) (hf : f ∈ onesN X) (h : sp ≤ f) : shErr ids (X.length : Int) T S F X at_ = 6 := by
 unfold shErr
 rw [h0, if_neg (by simp), if_neg (by simp), Int.toNat_natCast, hs, if_pos (List.any_eq_true.2 ⟨f, hf, dT h⟩)]
theorem qx0 {ids : List Int} {T S F X : List Nat} {at_ : Int} {sp : Nat} (h0 : qan ids (X.length : Int) T S F = 0) (hs : qdb ids X.length T S F = sp) (h : ∀ f ∈ onesN X, f < sp) : shErr ids (X.length : Int) T S F X at_ = if at_ < 0 ∨ 1000000000 < at_ then 7 else 0 := by
 unfold shErr
 have hn : ¬ (onesN X).any (fun p => decide (sp ≤ p)) = true := by
  intro hh
  obtain ⟨f, hf, hd⟩ := List.any_eq_true.1 hh
  have := h f hf
  have := of_decide_eq_true hd
  omega
 rw [h0, if_neg (by simp), if_neg (by simp), Int.toNat_natCast, hs, if_neg hn]
theorem qe5 (ids : List Int) (Wd : Int) (T S F X : List Nat) (hX64 : ∀ x ∈ X, x < 18446744073709551616) (at_ : Int) (w : World) (VI VT VS VF XV : Value) (hs : SetV w VI VT VS VF ids Wd T S F) (hZ : TzT w) (hxv : Rd w (fun _ => True) 1 XV X.length (qab X)) :
  Calls Tryz.prog 15 #[.agg #[VI, .int .i64 Wd, VT, VS, VF], .agg #[XV, .int .i64 at_]] w (RetV w (.int .i64 (shErr ids Wd T S F X at_))) := by
 have HP := hID (fun (V : World) (oV : Off Nob w V) => qoi ids Wd T S F V VI VT VS VF (hs.keep oV) (qbq hZ oV))
 have HXV := hID hxv
 have HZ := hID hZ
 have HX64 := hID hX64
 obtain ⟨AX, cx, rfl, _⟩ := hxv.form
 clear hs hZ hxv hX64
 go_enter Tryz.func15, Tryz.ntmps15
 have HB0 : Hid (Off Nob w ((w.alloc (.cells #[VI, .int .i64 Wd, VT, VS, VF] 25)).alloc (.cells #[.slice AX X.length cx, .int .i64 at_] 27)) ∧ Blk ((w.alloc (.cells #[VI, .int .i64 Wd, VT, VS, VF] 25)).alloc (.cells #[.slice AX X.length cx, .int .i64 at_] 27)) w.heap.size 25 #[VI, .int .i64 Wd, VT, VS, VF] ∧ Blk ((w.alloc (.cells #[VI, .int .i64 Wd, VT, VS, VF] 25)).alloc (.cells #[.slice AX X.length cx, .int .i64 at_] 27)) (w.heap.size + 1) 27 #[.slice AX X.length cx, .int .i64 at_]) := hID ⟨(oRf.alloc _).alloc _, (Blk.new _ _ _).alloc _, qbn _ _ _ _⟩
 go_wp2_with fail
 revert HB0
 generalize ((w.alloc (.cells #[VI, .int .i64 Wd, VT, VS, VF] 25)).alloc (.cells #[.slice AX X.length cx, .int .i64 at_] 27)) = w0
 intro HB0
 have GC : Hid (∀ V, Off Nob w0 V → V.cell? ⟨w.heap.size, 0, none⟩ = some VI ∧ V.cell? ⟨w.heap.size, 1, none⟩ = some (.int .i64 Wd) ∧ V.cell? ⟨w.heap.size, 2, none⟩ = some VT ∧ V.cell? ⟨w.heap.size, 3, none⟩ = some VS ∧ V.cell? ⟨w.heap.size, 4, none⟩ = some VF ∧ V.cell? ⟨w.heap.size + 1, 0, none⟩ = some (.slice AX X.length cx) ∧ V.cell? ⟨w.heap.size + 1, 1, none⟩ = some (.int .i64 at_)) := hID (fun V ho => by
  have h := HB0.out.2.1.to (ho.block _ HB0.out.2.1.lt id)
  have k := HB0.out.2.2.to (ho.block _ HB0.out.2.2.lt id)
  exact ⟨h.cell 0, h.cell 1, h.cell 2, h.cell 3, h.cell 4, k.cell 0, k.cell 1⟩)
 obtain ⟨c0, c1, c2, c3, c4, x0, x1⟩ := GC.out _ oRf
 go_wp2_with fail
 refine (HP.out _ HB0.out.1).mono ?_
 rintro e w1 ⟨x, AP, kp, cp, rfl, hyes, o1⟩
 have Y1 := hID o1
 have HY := hID hyes
 clear o1 hyes c0 c1 c2 c3 c4 x0 x1
 have PB : Hid (Blk (w1.alloc (.cells #[.int .i64 x, .slice AP kp cp] 62)) w1.heap.size 62 #[.int .i64 x, .slice AP kp cp] ∧ Off Nob w0 (w1.alloc (.cells #[.int .i64 x, .slice AP kp cp] 62)) ∧ Off Nob w1 (w1.alloc (.cells #[.int .i64 x, .slice AP kp cp] 62))) := hID ⟨Blk.new _ _ _, Y1.out.alloc _, oRf.alloc _⟩
 obtain ⟨c0, c1, c2, c3, c4, x0, x1⟩ := GC.out _ PB.out.2.1
 have p0 := PB.out.1.cell 0
 have p1 := PB.out.1.cell 1
 obtain ⟨er, her⟩ : ∃ er, qan ids Wd T S F = er := ⟨_, rfl⟩
 have HER := hID her
 rw [her]
 by_cases hz : er = 0
 ·have dz : (er == 0) = true := by rw [hz]; rfl
  subst hz
  clear her dz
  by_cases hl : (X.length : Int) = Wd
  ·subst hl
   obtain ⟨hi1, hi16, _, ⟨Wx, hWx, w1', w4', hlt, hls, hlf, hpl⟩, _⟩ := qcr HER.out
   obtain rfl : X.length = Wx := by omega
   obtain ⟨rfl, l, hll, hrd⟩ := HY.out HER.out
   rw [Int.toNat_natCast] at hll
   have HSPO := hID (show qdb ids X.length T S F = lnEnd 0 l by unfold qdb; rw [hll])
   have HPL := hID (qoe hll)
   obtain rfl : kp = l.length := by obtain ⟨A', c', he, _⟩ := hrd; cases he; rfl
   have HRD := hID hrd.any
   clear hrd hll hlt hls hlf hpl hWx HY
   have hn4 : l.length ≤ 4096 := by have := (LnFacts.of HPL.out.1).len; omega
   have hnl : (onesN X).length ≤ 256 := by
    have h := List.length_filter_le (bitAt X) (List.range (64 * X.length))
    rw [List.length_range] at h
    have h5 : (onesN X).length ≤ 64 * X.length := h
    omega
   have HSP := hID (fun (V : World) (oV : Off Nob w1 V) => qvi X.length w1' (by omega) l hn4 HPL.out.1 V _ (HRD.out.keepT oV))
   have HON := hID (fun (V : World) (oV : Off Nob w V) => oones (.slice AX X.length cx) X HX64.out w1' (by omega) (by rw [(qca HX64.out).2]; omega) V (HXV.out.keepT oV) (qbq HZ.out oV))
   go_wp2_with fail
   refine (HSP.out _ PB.out.2.2).mono ?_
   rintro e w2 ⟨rfl, o2⟩
   have Y2 := hID (PB.out.2.1.also o2)
   clear o2 c0 c1 c2 c3 c4 x0 x1 p0 p1 HSP
   obtain ⟨c0, c1, c2, c3, c4, x0, x1⟩ := GC.out _ Y2.out
   obtain ⟨sp, hsp⟩ : ∃ sp, lnEnd 0 l = sp := ⟨_, rfl⟩
   have HS2 := hID (HSPO.out.trans hsp)
   rw [hsp]
   clear hsp HSPO
   go_wp2_with fail
   refine (HON.out _ (HB0.out.1.also Y2.out)).mono ?_
   rintro e w3 ⟨v3, rfl, oW, o3⟩
   rw [(qca HX64.out).1, (qca HX64.out).2] at oW
   have Y3 := hID (Y2.out.also o3)
   have HRO := hID (Rd.own (F := fun _ => True) oW (fun _ _ => trivial))
   clear oW o3 c0 c1 c2 c3 c4 x0 x1 HON
   obtain ⟨A3, c3', rfl, _⟩ := HRO.out.form
   obtain ⟨N, hN⟩ : ∃ N, (onesN X).length = N := ⟨_, rfl⟩
   have HN := hID hN
   rw [hN] at hnl HRO ⊢
   clear hN
   obtain ⟨c0, c1, c2, c3, c4, x0, x1⟩ := GC.out _ Y3.out
   go_wp2_with fail
   clear c0 c1 c2 c3 c4 x0 x1
   go_loopw [40] (fun q wr => ∃ k : Nat, k ≤ N ∧ q = .int .i64 (k : Int) ∧ Off Nob w3 wr ∧ ∀ j, j < k → (onesN X).getD j 0 < sp) (fun q _ => N - (intOf q).toNat)
   case atStart => exact ⟨0, Nat.zero_le _, rfl, Off.refl _ _, fun j hj => absurd hj (Nat.not_lt_zero _)⟩
   case round =>
    obtain ⟨k, hk, rfl, ok, hbel⟩ := hrel
    have OK := hID ok
    have HBE := hID hbel
    clear ok hbel
    obtain ⟨c0, c1, c2, c3, c4, x0, x1⟩ := GC.out _ (Y3.out.also OK.out)
    by_cases hlt : k < N
    ·have d1 : decide ((k : Int) < (N : Int)) = true := dcT
     obtain ⟨b3, o3, c3'', he, hc3⟩ := HRO.out.cellsT (by omega)
     injection he with he1 he2 he3
     subst he1
     have k0 := hc3 _ OK.out k _ (qdk (by rw [HN.out]; exact hlt))
     clear hc3 he3
     obtain ⟨f, hf⟩ : ∃ f, (onesN X).getD k 0 = f := ⟨_, rfl⟩
     have HF := hID hf
     rw [hf] at k0
     clear hf
     by_cases hsp : sp ≤ f
     ·have d2 : decide ((sp : Int) ≤ (f : Int)) = true := dcT
      have HR := hID (qxz (at_ := at_) HER.out HS2.out (by rw [← HF.out]; exact qxu (by rw [HN.out]; exact hlt)) hsp)
      go_wp2_with fail
      go_ret
      exact ⟨by rw [HR.out]; rfl, (HB0.out.1.also Y3.out).also OK.out⟩
     ·have d2 : decide ((sp : Int) ≤ (f : Int)) = false := dcF
      go_wp2_with fail
      refine ⟨⟨k + 1, by omega, rfl, OK.out, fun j hj => ?_⟩, ?_⟩
      ·rcases Nat.lt_or_ge j k with h | h
       ·exact HBE.out j h
       ·obtain rfl : j = k := by omega
        rw [HF.out]; omega
      ·simp [intOf]; omega
    ·have hkN : k = N := by omega
     have d1 : decide ((k : Int) < (N : Int)) = false := dcF
     have HR := hID (qx0 (at_ := at_) HER.out HS2.out (fun f hf => by
      obtain ⟨j, hj, rfl⟩ := List.getElem_of_mem hf
      have h := HBE.out j (by rw [hkN, ← HN.out]; exact hj)
      rw [gDe, gEe hj] at h
      exact h))
     by_cases ha : at_ < 0
     ·have d3 : decide (at_ < 0) = true := dT ha
      have HQ := hID (HR.out.trans (if_pos (.inl ha)))
      clear ha
      go_wp2_with fail
      go_ret
      exact ⟨by rw [HQ.out]; rfl, (HB0.out.1.also Y3.out).also OK.out⟩
     have d3 : decide (at_ < 0) = false := dF ha
     by_cases hb : 1000000000 < at_
     ·have d4 : decide (1000000000 < at_) = true := dT hb
      have HQ := hID (HR.out.trans (if_pos (.inr hb)))
      clear ha hb
      go_wp2_with fail
      go_ret
      exact ⟨by rw [HQ.out]; rfl, (HB0.out.1.also Y3.out).also OK.out⟩
     ·have d4 : decide (1000000000 < at_) = false := dF hb
      have HQ := hID (HR.out.trans (if_neg (fun h => h.elim ha hb)))
      clear ha hb
      go_wp2_with fail
      go_ret
      exact ⟨by rw [HQ.out]; rfl, (HB0.out.1.also Y3.out).also OK.out⟩
  ·have HR := hID (show shErr ids Wd T S F X at_ = 6 by unfold shErr; rw [HER.out, if_neg (by simp), if_pos hl])
   have dl : ((X.length : Int) == Wd) = false := beq_eq_false_iff_ne.2 hl
   go_wp2_with fail
   go_ret
   exact ⟨by rw [HR.out]; rfl, HB0.out.1.also PB.out.2.1⟩
 ·have HR := hID (show shErr ids Wd T S F X at_ = er by unfold shErr; rw [her, if_pos hz])
  have dz : (er == 0) = false := beq_eq_false_iff_ne.2 hz
  go_wp2_with fail
  go_ret
  exact ⟨by rw [HR.out]; rfl, HB0.out.1.also PB.out.2.1⟩
theorem qp6 (ids : List Int) (Wd : Int) (T S F : List Nat) (hno : qan ids Wd T S F ≠ 0) (w : World) (VI VT VS VF : Value) (hs : SetV w VI VT VS VF ids Wd T S F) (hZ : TzT w) :
  Calls Tryz.prog 12 #[.agg #[VI, .int .i64 Wd, VT, VS, VF]] w (RetV w (.tuple #[.agg #[.slice none 0 0, .int .i64 0], .int .i64 (qan ids Wd T S F)])) := by
 have HCK := hID (fun (V : World) (oV : Off Nob w V) => qqz ids Wd T S F V VI VT VS VF (hs.keep oV) (qbq hZ oV))
 clear hs hZ
 go_enter Tryz.func12, Tryz.ntmps12
 have HB0 : Hid (Off Nob w ((w.alloc (.cells #[VI, .int .i64 Wd, VT, VS, VF] 25)).alloc (.cells #[.slice none 0 0, .int .i64 0] 27)) ∧ Blk ((w.alloc (.cells #[VI, .int .i64 Wd, VT, VS, VF] 25)).alloc (.cells #[.slice none 0 0, .int .i64 0] 27)) w.heap.size 25 #[VI, .int .i64 Wd, VT, VS, VF] ∧ Blk ((w.alloc (.cells #[VI, .int .i64 Wd, VT, VS, VF] 25)).alloc (.cells #[.slice none 0 0, .int .i64 0] 27)) (w.heap.size + 1) 27 #[.slice none 0 0, .int .i64 0]) := hID ⟨(oRf.alloc _).alloc _, (Blk.new _ _ _).alloc _, qbn _ _ _ _⟩
 go_wp2_with fail
 revert HB0
 generalize ((w.alloc (.cells #[VI, .int .i64 Wd, VT, VS, VF] 25)).alloc (.cells #[.slice none 0 0, .int .i64 0] 27)) = w0
 intro HB0
 have GC : Hid (∀ V, Off Nob w0 V → V.cell? ⟨w.heap.size, 0, none⟩ = some (VI) ∧ V.cell? ⟨w.heap.size, 1, none⟩ = some (.int .i64 Wd) ∧ V.cell? ⟨w.heap.size, 2, none⟩ = some (VT) ∧ V.cell? ⟨w.heap.size, 3, none⟩ = some (VS) ∧ V.cell? ⟨w.heap.size, 4, none⟩ = some (VF)) := hID (fun V ho => by
  have h := HB0.out.2.1.to (ho.block _ HB0.out.2.1.lt id)
  exact ⟨h.cell 0, h.cell 1, h.cell 2, h.cell 3, h.cell 4⟩)
 obtain ⟨c0, c1, c2, c3, c4⟩ := GC.out _ oRf
 go_wp2_with fail
 refine (HCK.out _ HB0.out.1).mono ?_
 rintro e w1 ⟨rfl, o1⟩
 have Y1 := hID o1
 have B1 := HB0.out.2.2.to (Y1.out.block _ HB0.out.2.2.lt id)
 have x0 := B1.cell 0
 have x1 := B1.cell 1
 have z0 := B1.frozen 0
 have z1 := B1.frozen 1
 have XE := hID ((B1.put 0 (.slice none 0 0)).put 1 (.int .i64 0))
 clear o1 c0 c1 c2 c3 c4 HCK B1
 obtain ⟨er, her⟩ : ∃ er, qan ids Wd T S F = er := ⟨_, rfl⟩
 have HER := hID her
 rw [her] at hno ⊢
 have dz : (er == 0) = false := beq_eq_false_iff_ne.2 hno
 clear her
 go_wp2_with fail
 exact bodyPost_ret (qac rfl _ _ _ _ _ (0, 0) _ rfl XE.out Tryz.underlying27 rfl Tryz.infoSs) rfl ⟨by rw [HER.out]; rfl, ((HB0.out.1.also Y1.out).put (p := ⟨w.heap.size + 1, 0, none⟩) (.inr (Nat.le_add_right _ _)) _).put (p := ⟨w.heap.size + 1, 1, none⟩) (.inr (Nat.le_add_right _ _)) _⟩
end
end Go.Proofs.YtlgjaefcfnndhaaGreatDoor
