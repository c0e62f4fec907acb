/-
 tables.Plan and Check in general: they return what dragnetref18's do.
-/
import Derived.Test.YtkflicifngohcaaGreatDoorM36
import Derived.Test.YtkflicifngohcaaGreatDoorM37
import Derived.Test.YtkflicifngohcaaGreatDoorM20
import Derived.ChangeKeysEq
set_option linter.unusedVariables false
set_option linter.unusedSimpArgs false
namespace Go.Proofs.YtkflicifngohcaaGreatDoor
open Go.RowKit
set_option maxRecDepth 100000
theorem three_guard : Tryz.prog.eqGuardType Tryz.prog.depth 209 = false := by kernel_rfl
theorem three_cells : Tryz.prog.cellsOf 3 = 1 := by kernel_rfl
theorem three_eq (w : World) (a1 a2 a3 b1 b2 b3 : Int) : (Op.equalIn 10000 209 (.agg #[.int .i64 a1, .int .i64 a2, .int .i64 a3]) (.agg #[.int .i64 b1, .int .i64 b2, .int .i64 b3])).run Tryz.prog w = .ok (decide (a1 = b1 ∧ a2 = b2 ∧ a3 = b3)) w := by
 obtain ⟨i0, hi, hz0, hz1, hz2⟩ := info_parts Tryz.infoI'
 rw [show (10000 : Nat) = 9999 + 1 from rfl, run_equalIn_array w 9999 _ _ Tryz.underlying209 hi, three_cells]
 have hr : List.range 3 = [0, 1, 2] := rfl
 rw [hr]
 have hp : ∀ (x y z : Int) (w : World) (j : Nat) (v : Value), #[Value.int .i64 x, .int .i64 y, .int .i64 z][j]? = some v → (part 3 #[.int .i64 x, .int .i64 y, .int .i64 z] j).run Tryz.prog w = .ok v w := by
  intro x y z w j v hv
  exact run_part_plain w (by kernel_rfl) hv
 have he : ∀ (w : World) (a b : Int), (Op.equalIn 9999 3 (.int .i64 a) (.int .i64 b)).run Tryz.prog w = .ok (decide (a = b)) w := by
  intro w a b
  rw [show (9999 : Nat) = 9998 + 1 from rfl, run_equalIn_int w 9998 _ .i64 .i64 a b Tryz.underlying3]
  by_cases e : a = b <;> simp [e]
 simp only [Op.eqItems, Sem.run_bind, Nat.mul_one]
 rw [hp _ _ _ w 0 (.int .i64 a1) rfl]
 simp only [Result.andThen_ok, hp _ _ _ _ 0 (.int .i64 b1) rfl, he]
 by_cases e1 : a1 = b1
 ·simp only [e1, decide_true, Bool.not_true, Bool.false_eq_true, if_false, Sem.run_bind, hp _ _ _ _ 1 (.int .i64 a2) rfl, hp _ _ _ _ 1 (.int .i64 b2) rfl, Result.andThen_ok, he]
  by_cases e2 : a2 = b2
  ·simp only [e2, decide_true, Bool.not_true, Bool.false_eq_true, if_false, Sem.run_bind, hp _ _ _ _ 2 (.int .i64 a3) rfl, hp _ _ _ _ 2 (.int .i64 b3) rfl, Result.andThen_ok, he]
   by_cases e3 : a3 = b3 <;> simp [e3, Sem.run_pure]
  ·simp [e2, Sem.run_pure]
 ·simp [e1, Sem.run_pure]
theorem asc_ascB {xs : List Int} : Asc xs ↔ AscB xs = true := by
 unfold Asc AscB
 rw [List.all_eq_true]
 constructor
 ·intro h j hj
  exact decide_eq_true (h j (by have := List.mem_range.1 hj; omega))
 ·intro h j hj
  exact of_decide_eq_true (h j (List.mem_range.2 (by omega)))
set_option maxHeartbeats 16000000 in
theorem n_Plan (ids : List Int) (Wd : Int) (T S F : List Nat) (w : World) (VI VT VS VF : Value) (hs : SetV w VI VT VS VF ids Wd T S F) (hZ : TzT w) :
  Calls Tryz.prog 91 #[.agg #[VI, .int .i64 Wd, VT, VS, VF]] w (RPl ids Wd T S F w) := by
 have HSV := hID hs
 have HZ := hID hZ
 obtain ⟨AI, ci, rfl, _⟩ := hs.i.form
 obtain ⟨AT, ct, rfl, _⟩ := hs.t.form
 obtain ⟨AS, cs, rfl, _⟩ := hs.s.form
 obtain ⟨AF, cf, rfl, _⟩ := hs.f.form
 have hil := hs.il
 have htl := hs.tl
 have hsl := hs.sl
 have hfl := hs.fl
 have hw64 := hs.w64
 clear hs hZ
 go_enter Tryz.func91, Tryz.ntmps91
 have HB0 : Hid (Blk ((w.alloc (.cells #[.slice AI ids.length ci, .int .i64 Wd, .slice AT T.length ct, .slice AS S.length cs, .slice AF F.length cf] 25)).alloc (.cells #[.int .i64 0, .slice none 0 0] 97)) w.heap.size 25 #[.slice AI ids.length ci, .int .i64 Wd, .slice AT T.length ct, .slice AS S.length cs, .slice AF F.length cf] ∧ Blk ((w.alloc (.cells #[.slice AI ids.length ci, .int .i64 Wd, .slice AT T.length ct, .slice AS S.length cs, .slice AF F.length cf] 25)).alloc (.cells #[.int .i64 0, .slice none 0 0] 97)) (w.heap.size + 1) 97 #[.int .i64 0, .slice none 0 0] ∧ Off Nob w ((w.alloc (.cells #[.slice AI ids.length ci, .int .i64 Wd, .slice AT T.length ct, .slice AS S.length cs, .slice AF F.length cf] 25)).alloc (.cells #[.int .i64 0, .slice none 0 0] 97))) := hID ⟨(Blk.new _ _ _).alloc _, blk_second _ _ _ _, ((Off.refl _ _).alloc _).alloc _⟩
 by_cases hz : ids.length = 0
 ·have d0 : ((ids.length : Int) == 0) = true := by rw [beq_iff_eq]; omega
  have HN := hID (show setErr ids Wd T S F = 6 by unfold setErr; rw [if_pos hz])
  clear hz
  go_wp2_with fail
  exact bodyPost_ret (results_cell_row_tmp rfl _ _ _ _ _ (0, 0) _ rfl HB0.out.2.1 Tryz.underlying97 rfl Tryz.infoPl) rfl ⟨0, none, 0, 0, (by rw [HN.out]; try rfl), fun h => absurd h (by rw [HN.out]; decide), HB0.out.2.2⟩
 have d0 : ((ids.length : Int) == 0) = false := by rw [beq_eq_false_iff_ne]; omega
 by_cases h16 : 16 < ids.length
 ·have d1 : decide ((16 : Int) < (ids.length : Int)) = true := decide_eq_true (by omega)
  have d1n : decide (16 < ids.length) = true := decide_eq_true h16
  have HN := hID (show setErr ids Wd T S F = 3 by unfold setErr; rw [if_neg hz, if_pos h16])
  go_wp2_with fail
  exact bodyPost_ret (results_cell_row_tmp rfl _ _ _ _ _ (0, 0) _ rfl HB0.out.2.1 Tryz.underlying97 rfl Tryz.infoPl) rfl ⟨0, none, 0, 0, (by rw [HN.out]; try rfl), fun h => absurd h (by rw [HN.out]; decide), HB0.out.2.2⟩
 have d1 : decide ((16 : Int) < (ids.length : Int)) = false := decide_eq_false (by omega)
 have d1n : decide (16 < ids.length) = false := decide_eq_false h16
 have H16 := hID (And.intro hz h16)
 have HMIN := hID (fun (W' : World) (o : Off Nob w W') => smin ids HSV.out.i64 (by omega) (by omega) W' _ (HSV.out.i.keepT o))
 have HMAX := hID (fun (W' : World) (o : Off Nob w W') => smax ids HSV.out.i64 (by omega) (by omega) W' _ (HSV.out.i.keepT o))
 go_wp2_with fail
 revert HB0
 generalize ((w.alloc (.cells #[.slice AI ids.length ci, .int .i64 Wd, .slice AT T.length ct, .slice AS S.length cs, .slice AF F.length cf] 25)).alloc (.cells #[.int .i64 0, .slice none 0 0] 97)) = w0
 intro HB0
 have GC : Hid (∀ W', Off Nob w0 W' → W'.cell? ⟨w.heap.size, 0, none⟩ = some (.slice AI ids.length ci) ∧ W'.cell? ⟨w.heap.size, 1, none⟩ = some (.int .i64 Wd) ∧ W'.cell? ⟨w.heap.size, 2, none⟩ = some (.slice AT T.length ct) ∧ W'.cell? ⟨w.heap.size, 3, none⟩ = some (.slice AS S.length cs) ∧ W'.cell? ⟨w.heap.size, 4, none⟩ = some (.slice AF F.length cf) ∧ W'.cell? ⟨w.heap.size + 1, 0, none⟩ = some (.int .i64 0) ∧ W'.cell? ⟨w.heap.size + 1, 1, none⟩ = some (.slice none 0 0) ∧ W'.frozen? ⟨w.heap.size + 1, 0, none⟩ = false ∧ W'.frozen? ⟨w.heap.size + 1, 1, none⟩ = false) := hID (fun W' ho => by
  have h := HB0.out.1.to (ho.block _ HB0.out.1.lt id)
  have k := HB0.out.2.1.to (ho.block _ HB0.out.2.1.lt id)
  exact ⟨h.cell 0, h.cell 1, h.cell 2, h.cell 3, h.cell 4, k.cell 0, k.cell 1, k.frozen 0, k.frozen 1⟩)
 have O0 : Hid (Off Nob w0 w0) := hID (Off.refl _ _)
 have H7 := hID (fun (h : ¬ ((∀ x ∈ ids, 1 ≤ x ∧ x ≤ 1000) ∧ 1 ≤ Wd ∧ Wd ≤ 4)) => show setErr ids Wd T S F = 7 by
  unfold setErr
  rw [if_neg H16.out.1, if_neg H16.out.2, if_neg]
  simp only [Bool.and_eq_true, List.all_eq_true, decide_eq_true_eq]
  exact h)
 refine (HMIN.out _ HB0.out.2.2).mono ?_
 rintro e w1 ⟨⟨lo, rfl, hlo, hloa⟩, rfl⟩
 obtain ⟨s0, s1, s2, s3, s4, q0, q1, f0, f1⟩ := GC.out _ O0.out
 by_cases h1 : lo < 1
 ·have e1 : decide (lo < 1) = true := decide_eq_true h1
  have HN := hID (H7.out (fun h => by have := (h.1 lo hlo).1; omega))
  clear hloa
  have HRB := hID (HB0.out.2.1.to (O0.out.block _ HB0.out.2.1.lt id))
  go_wp2_with fail
  have XE := hID ((HRB.out.put 0 (.int .i64 0)).put 1 (.slice none 0 0))
  exact bodyPost_ret (results_cell_row_tmp rfl _ _ _ _ _ (0, 0) _ rfl XE.out Tryz.underlying97 rfl Tryz.infoPl) rfl ⟨0, none, 0, 0, (by rw [HN.out]; try rfl), fun h => absurd h (by rw [HN.out]; decide), ((HB0.out.2.2.also O0.out).put (.inr (Nat.le_succ _)) _).put (.inr (Nat.le_succ _)) _⟩
 have e1 : decide (lo < 1) = false := decide_eq_false h1
 have HLO := hID (show ∀ x ∈ ids, 1 ≤ x from fun x hx => by have := hloa x hx; omega)
 clear hloa hlo
 go_wp2_with fail
 refine (HMAX.out _ HB0.out.2.2).mono ?_
 rintro e w1 ⟨⟨hi, rfl, hhi, hhia⟩, rfl⟩
 by_cases h2 : 1000 < hi
 ·have e2 : decide (1000 < hi) = true := decide_eq_true h2
  have HN := hID (H7.out (fun h => by have := (h.1 hi hhi).2; omega))
  clear hhia s0 s1 s2 s3 s4 q0 q1 f0 f1
  obtain ⟨s0, s1, s2, s3, s4, q0, q1, f0, f1⟩ := GC.out _ O0.out
  have HRB := hID (HB0.out.2.1.to (O0.out.block _ HB0.out.2.1.lt id))
  go_wp2_with fail
  have XE := hID ((HRB.out.put 0 (.int .i64 0)).put 1 (.slice none 0 0))
  exact bodyPost_ret (results_cell_row_tmp rfl _ _ _ _ _ (0, 0) _ rfl XE.out Tryz.underlying97 rfl Tryz.infoPl) rfl ⟨0, none, 0, 0, (by rw [HN.out]; try rfl), fun h => absurd h (by rw [HN.out]; decide), ((HB0.out.2.2.also O0.out).put (.inr (Nat.le_succ _)) _).put (.inr (Nat.le_succ _)) _⟩
 have e2 : decide (1000 < hi) = false := decide_eq_false h2
 have HIN := hID (show ∀ x ∈ ids, 1 ≤ x ∧ x ≤ 1000 from fun x hx => ⟨HLO.out x hx, by have := hhia x hx; omega⟩)
 clear hhia hhi
 by_cases h3 : Wd < 1
 ·have e3 : decide (Wd < 1) = true := decide_eq_true h3
  have HN := hID (H7.out (fun h => by omega))
  clear s0 s1 s2 s3 s4 q0 q1 f0 f1
  obtain ⟨s0, s1, s2, s3, s4, q0, q1, f0, f1⟩ := GC.out _ O0.out
  have HRB := hID (HB0.out.2.1.to (O0.out.block _ HB0.out.2.1.lt id))
  go_wp2_with fail
  have XE := hID ((HRB.out.put 0 (.int .i64 0)).put 1 (.slice none 0 0))
  exact bodyPost_ret (results_cell_row_tmp rfl _ _ _ _ _ (0, 0) _ rfl XE.out Tryz.underlying97 rfl Tryz.infoPl) rfl ⟨0, none, 0, 0, (by rw [HN.out]; try rfl), fun h => absurd h (by rw [HN.out]; decide), ((HB0.out.2.2.also O0.out).put (.inr (Nat.le_succ _)) _).put (.inr (Nat.le_succ _)) _⟩
 have e3 : decide (Wd < 1) = false := decide_eq_false h3
 by_cases h4 : 4 < Wd
 ·have e4 : decide (4 < Wd) = true := decide_eq_true h4
  have HN := hID (H7.out (fun h => by omega))
  clear s0 s1 s2 s3 s4 q0 q1 f0 f1
  obtain ⟨s0, s1, s2, s3, s4, q0, q1, f0, f1⟩ := GC.out _ O0.out
  have HRB := hID (HB0.out.2.1.to (O0.out.block _ HB0.out.2.1.lt id))
  go_wp2_with fail
  have XE := hID ((HRB.out.put 0 (.int .i64 0)).put 1 (.slice none 0 0))
  exact bodyPost_ret (results_cell_row_tmp rfl _ _ _ _ _ (0, 0) _ rfl XE.out Tryz.underlying97 rfl Tryz.infoPl) rfl ⟨0, none, 0, 0, (by rw [HN.out]; try rfl), fun h => absurd h (by rw [HN.out]; decide), ((HB0.out.2.2.also O0.out).put (.inr (Nat.le_succ _)) _).put (.inr (Nat.le_succ _)) _⟩
 have e4 : decide (4 < Wd) = false := decide_eq_false h4
 obtain ⟨W, rfl⟩ : ∃ W : Nat, Wd = (W : Int) := ⟨Wd.toNat, by omega⟩
 have hW1 : 1 ≤ W := by omega
 have hW4 : W ≤ 4 := by omega
 have HSE := hID (show setErr ids (W : Int) T S F = if AscB ids && decide (T.length = 256 * W ∧ S.length = W ∧ F.length = ids.length * W) && (planR F S T W ids.length).isSome then 0 else 6 by
  unfold setErr
  rw [if_neg H16.out.1, if_neg H16.out.2, if_pos (by
   simp only [Bool.and_eq_true, List.all_eq_true, decide_eq_true_eq]
   exact ⟨HIN.out, by omega, by omega⟩)]
  rfl)
 have HNM := hID (fun (W' : World) (o : Off Nob w W') => tnamed ids HIN.out (by omega) W' _ (HSV.out.i.keepT o))
 clear h1 h2 h3 h4 H7 HMIN HMAX
 go_wp2_with fail
 refine (HNM.out _ HB0.out.2.2).mono ?_
 rintro e w1 ⟨⟨x, m, rfl, hasc⟩, rfl⟩
 clear s0 s1 s2 s3 s4 q0 q1 f0 f1
 obtain ⟨s0, s1, s2, s3, s4, q0, q1, f0, f1⟩ := GC.out _ O0.out
 rcases hasc with ⟨hasc, rfl⟩ | ⟨hasc, rfl⟩
 rotate_left
 ·have HN := hID (show setErr ids (W : Int) T S F = 6 by
   rw [HSE.out, show AscB ids = false from by
    cases h : AscB ids with
    | false => rfl
    | true => exact absurd (asc_ascB.2 h) hasc]
   rfl)
  clear hasc
  have HRB := hID (HB0.out.2.1.to (O0.out.block _ HB0.out.2.1.lt id))
  go_wp2_with fail
  have XE := hID ((HRB.out.put 0 (.int .i64 0)).put 1 (.slice none 0 0))
  exact bodyPost_ret (results_cell_row_tmp rfl _ _ _ _ _ (0, 0) _ rfl XE.out Tryz.underlying97 rfl Tryz.infoPl) rfl ⟨0, none, 0, 0, (by rw [HN.out]; try rfl), fun h => absurd h (by rw [HN.out]; decide), ((HB0.out.2.2.also O0.out).put (.inr (Nat.le_succ _)) _).put (.inr (Nat.le_succ _)) _⟩
 have HASC := hID (asc_ascB.1 hasc)
 have HSZ := hID (fun (h : ¬ (T.length = 256 * W ∧ S.length = W ∧ F.length = ids.length * W)) => show setErr ids (W : Int) T S F = 6 by
  rw [HSE.out, HASC.out, decide_eq_false h]
  rfl)
 clear hasc
 have hnw : ids.length * W ≤ 64 := Nat.le_trans (Nat.mul_le_mul (show ids.length ≤ 16 by have := H16.out.2; omega) hW4) (by decide)
 have hcast : (ids.length : Int) * (W : Int) = ((ids.length * W : Nat) : Int) := by push_cast; rfl
 obtain ⟨m, hm⟩ : ∃ m, ids.length * W = m := ⟨_, rfl⟩
 have HM := hID hm
 rw [hm] at hnw hcast HSZ
 clear hm
 have hfg := three_guard
 have HPL := hID (fun (h : T.length = 256 * W ∧ S.length = W ∧ F.length = ids.length * W) (W' : World) (o : Off Nob w W') => n_plan W hW1 hW4 ids.length (by have := H16.out.1; omega) (by have := H16.out.2; omega) F S T h.2.2 h.2.1 h.1 HSV.out.f64 HSV.out.s64 HSV.out.t64 W' AI ci _ _ _ (HSV.out.t.keepT o) (HSV.out.s.keepT o) (HSV.out.f.keepT o) HSV.out.ct HSV.out.cf (tz_keep HZ.out o))
 by_cases hsz : T.length = 256 * W ∧ S.length = W ∧ F.length = m
 rotate_left
 ·have HN := hID (HSZ.out hsz)
  have hfe : ∀ W', (Op.equalIn 10000 209 (.agg #[.int .i64 T.length, .int .i64 S.length, .int .i64 F.length]) (.agg #[.int .i64 (256 * (W : Int)), .int .i64 W, .int .i64 m])).run Tryz.prog W' = .ok false W' := fun W' => by
   rw [three_eq, decide_eq_false]
   exact fun h => hsz ⟨by omega, by omega, by omega⟩
  have O1 := hID (O0.out.alloc (.cells #[.int .i64 T.length, .int .i64 S.length, .int .i64 F.length] 209))
  clear hsz s0 s1 s2 s3 s4 q0 q1 f0 f1
  obtain ⟨s0, s1, s2, s3, s4, q0, q1, f0, f1⟩ := GC.out _ O0.out
  obtain ⟨r0, r1, r2, r3, r4, t0, t1, t2, t3⟩ := GC.out _ O1.out
  have HRB := hID (HB0.out.2.1.to (O1.out.block _ HB0.out.2.1.lt id))
  go_wp2_with fail
  have XE := hID ((HRB.out.put 0 (.int .i64 0)).put 1 (.slice none 0 0))
  exact bodyPost_ret (results_cell_row_tmp rfl _ _ _ _ _ (0, 0) _ rfl XE.out Tryz.underlying97 rfl Tryz.infoPl) rfl ⟨0, none, 0, 0, (by rw [HN.out]; try rfl), fun h => absurd h (by rw [HN.out]; decide), ((HB0.out.2.2.also O1.out).put (.inr (Nat.le_succ _)) _).put (.inr (Nat.le_succ _)) _⟩
 have hfe : ∀ W', (Op.equalIn 10000 209 (.agg #[.int .i64 T.length, .int .i64 S.length, .int .i64 F.length]) (.agg #[.int .i64 (256 * (W : Int)), .int .i64 W, .int .i64 m])).run Tryz.prog W' = .ok true W' := fun W' => by
  rw [three_eq, decide_eq_true]
  exact ⟨by omega, by omega, by omega⟩
 have HSZ2 := hID (show T.length = 256 * W ∧ S.length = W ∧ F.length = ids.length * W from ⟨hsz.1, hsz.2.1, by rw [HM.out]; exact hsz.2.2⟩)
 have O1 := hID (O0.out.alloc (.cells #[.int .i64 T.length, .int .i64 S.length, .int .i64 F.length] 209))
 clear hsz
 obtain ⟨r0, r1, r2, r3, r4, t0, t1, t2, t3⟩ := GC.out _ O1.out
 go_wp2_with fail
 refine (HPL.out HSZ2.out _ (HB0.out.2.2.also O1.out)).mono ?_
 rintro e v1 ⟨x, A, kk, cc, bb, rfl, hres, o1⟩
 have O2 := hID (O1.out.also o1)
 have HPB := hID (Blk.new v1 97 #[.int .i64 x, .slice A kk cc])
 clear o1 s0 s1 s2 s3 s4 q0 q1 f0 f1 r0 r1 r2 r3 r4 t0 t1 t2 t3
 have O3 := hID (O2.out.alloc (.cells #[.int .i64 x, .slice A kk cc] 97))
 obtain ⟨s0, s1, s2, s3, s4, q0, q1, f0, f1⟩ := GC.out _ O3.out
 have z0 := HPB.out.cell 0
 have z1 := HPB.out.cell 1
 simp only [List.getElem?_toArray, List.getElem?_cons_succ, List.getElem?_cons_zero] at z0 z1
 rcases hres with ⟨hno, rfl⟩ | ⟨l, hl, rfl, rfl, hrd⟩
 ·have HN := hID (show setErr ids (W : Int) T S F = 6 by rw [HSE.out, ← plan_same HSZ2.out.2.2 HSZ2.out.2.1 HSV.out.f64 HSV.out.s64, hno]; simp)
  clear hno
  have HRB := hID (HB0.out.2.1.to (O3.out.block _ HB0.out.2.1.lt id))
  go_wp2_with fail
  have XE := hID ((HRB.out.put 0 (.int .i64 0)).put 1 (.slice none 0 0))
  exact bodyPost_ret (results_cell_row_tmp rfl _ _ _ _ _ (0, 0) _ rfl XE.out Tryz.underlying97 rfl Tryz.infoPl) rfl ⟨0, none, 0, 0, (by rw [HN.out]; try rfl), fun h => absurd h (by rw [HN.out]; decide), ((HB0.out.2.2.also O3.out).put (.inr (Nat.le_succ _)) _).put (.inr (Nat.le_succ _)) _⟩
 ·have HL := hID (show planR F S T W ids.length = some l by rw [← plan_same HSZ2.out.2.2 HSZ2.out.2.1 HSV.out.f64 HSV.out.s64]; exact hl)
  have HN := hID (show setErr ids (W : Int) T S F = 0 by
   rw [HSE.out, HL.out, HASC.out, decide_eq_true HSZ2.out]
   rfl)
  have HRD := hID hrd
  clear hl hrd
  have HRB := hID (HB0.out.2.1.to (O3.out.block _ HB0.out.2.1.lt id))
  go_wp2_with fail
  have XE := hID ((HRB.out.put 0 (.int .i64 W)).put 1 (.slice A kk cc))
  have o7 := (off_cell (v1.alloc (.cells #[.int .i64 W, .slice A kk cc] 97)) ⟨w.heap.size + 1, 0, none⟩ (.int .i64 W)).also (off_cell _ ⟨w.heap.size + 1, 1, none⟩ (.slice A kk cc))
  have hrd2 : Rd (v1.alloc (.cells #[.int .i64 W, .slice A kk cc] 97)) (fun k => w0.heap.size + 1 ≤ k) 3 (.slice A kk cc) l.length (lnV l) := (HRD.out.keep (Off.alloc (Off.refl Nob _) _) (fun _ _ h => h)).mono (fun j hj => by simpa using hj)
  have hrd3 := (hrd2.keep o7 (fun j hj hj2 => by have h1 := HB0.out.2.1.lt; have h3 : j = w.heap.size + 1 := hj2; omega)).mono (G := fun k => w.heap.size ≤ k) (fun j hj => by have := HB0.out.2.2.size; omega)
  exact bodyPost_ret (results_cell_row_tmp rfl _ _ _ _ _ (0, 0) _ rfl XE.out Tryz.underlying97 rfl Tryz.infoPl) rfl ⟨_, _, _, _, (by rw [HN.out]; try rfl), fun _ => ⟨rfl, l, HL.out, hrd3⟩, ((HB0.out.2.2.also O3.out).put (.inr (Nat.le_succ _)) _).put (.inr (Nat.le_succ _)) _⟩
theorem n_Check (ids : List Int) (Wd : Int) (T S F : List Nat) (w : World) (VI VT VS VF : Value) (hs : SetV w VI VT VS VF ids Wd T S F) (hZ : TzT w) :
  Calls Tryz.prog 42 #[.agg #[VI, .int .i64 Wd, VT, VS, VF]] w (RetV w (.int .i64 (setErr ids Wd T S F))) := by
 have HSV := hID hs
 have HZ := hID hZ
 obtain ⟨AI, ci, rfl, _⟩ := hs.i.form
 obtain ⟨AT, ct, rfl, _⟩ := hs.t.form
 obtain ⟨AS, cs, rfl, _⟩ := hs.s.form
 obtain ⟨AF, cf, rfl, _⟩ := hs.f.form
 clear hs hZ
 go_enter Tryz.func42, Tryz.ntmps42
 have X0 : Hid (Off Nob w (w.alloc (.cells #[.slice AI ids.length ci, .int .i64 Wd, .slice AT T.length ct, .slice AS S.length cs, .slice AF F.length cf] 25)) ∧ Blk (w.alloc (.cells #[.slice AI ids.length ci, .int .i64 Wd, .slice AT T.length ct, .slice AS S.length cs, .slice AF F.length cf] 25)) w.heap.size 25 #[.slice AI ids.length ci, .int .i64 Wd, .slice AT T.length ct, .slice AS S.length cs, .slice AF F.length cf]) := hID ⟨(Off.refl _ _).alloc _, Blk.new _ _ _⟩
 go_wp2_with fail
 refine (n_Plan ids Wd T S F _ _ _ _ _ (HSV.out.keep X0.out.1) (tz_keep HZ.out X0.out.1)).mono ?_
 rintro e w2 ⟨x, A, k, c, rfl, _, o2⟩
 have X2 := hID ((X0.out.1.also o2).alloc (.cells #[.int .i64 x, .slice A k c] 97))
 clear o2
 go_wp2_with fail
 go_ret
 exact ⟨rfl, X2.out⟩
end Go.Proofs.YtkflicifngohcaaGreatDoor
