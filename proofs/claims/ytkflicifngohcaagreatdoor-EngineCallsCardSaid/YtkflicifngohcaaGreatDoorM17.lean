/-
 dragnetref15 at the patterns of the example.
-/
import Derived.Test.YtkflicifngohcaaGreatDoorM16
set_option linter.unusedVariables false
set_option linter.unusedSimpArgs false
namespace Go.Proofs.YtkflicifngohcaaGreatDoor
open Go.RowKit
set_option maxRecDepth 100000
theorem Tryz.infoIs : (Tryz.prog.info? 22).map (fun i => (i.zero, i.size, i.bytes)) = some (some (.slice none 0 0), 1, 24) := by kernel_rfl
theorem Tryz.infoCl4 : (Tryz.prog.info? 146).map (fun i => (i.zero, i.size, i.bytes)) = some (some (.agg #[.int .u64 0, .int .u64 0, .int .u64 0, .int .u64 0]), 4, 32) := by kernel_rfl
theorem Tryz.infoLn : (Tryz.prog.info? 224).map (fun i => (i.zero, i.size, i.bytes)) = some (some (.slice none 0 0), 1, 24) := by kernel_rfl
def se_a : List Value := [.int .u64 0, .int .u64 8589934592, .int .u64 0, .int .u64 0, .int .u64 0, .int .u64 17179869184, .int .u64 0, .int .u64 0]
def se_b : List Value := [.int .u64 0, .int .u64 25769803776, .int .u64 0, .int .u64 0]
theorem co_sum0 (w : World) (A : Option Addr) (c : Nat) : Calls Tryz.prog 164 #[.slice A 0 c] w (RetV w (.int .i64 0)) := by
 go_enter Tryz.func164, Tryz.ntmps164
 go_wp2_with fail
 refine wp_loop_rounds 1 ?_
 rw [rounds_succ]
 go_wp2_with fail
 go_ret
 exact ⟨rfl, Off.refl _ _⟩
set_option maxHeartbeats 4000000 in
theorem co_gaps_a (w : World) (v : Value) (hv : Rd w (fun _ => True) 7 v 2 pa_a) : Calls Tryz.prog 162 #[v] w (RetV w (.slice none 0 0)) := by
 have HV0 := hID hv
 obtain ⟨b, o, c, rfl, hc⟩ := hv.cellsT (by decide)
 have HV := HV0
 have GC : Hid (∀ W, Off Nob w W → W.cell? ⟨b, o, none⟩ = some (.bool false) ∧ W.cell? ⟨b, o + 1, none⟩ = some (.int .u64 0) ∧ W.cell? ⟨b, o + 2, none⟩ = some (.int .u64 8589934592) ∧ W.cell? ⟨b, o + 3, none⟩ = some (.int .u64 0) ∧ W.cell? ⟨b, o + 4, none⟩ = some (.int .u64 0) ∧ W.cell? ⟨b, o + 5, none⟩ = some (.int .i64 0) ∧ W.cell? ⟨b, o + 6, none⟩ = some (.int .i64 0) ∧ W.cell? ⟨b, o + 7, none⟩ = some (.bool false) ∧ W.cell? ⟨b, o + 8, none⟩ = some (.int .u64 0) ∧ W.cell? ⟨b, o + 9, none⟩ = some (.int .u64 17179869184) ∧ W.cell? ⟨b, o + 10, none⟩ = some (.int .u64 0) ∧ W.cell? ⟨b, o + 11, none⟩ = some (.int .u64 0) ∧ W.cell? ⟨b, o + 12, none⟩ = some (.int .i64 0) ∧ W.cell? ⟨b, o + 13, none⟩ = some (.int .i64 0)) := hID (fun W ho => ⟨hc W ho 0 _ rfl, hc W ho 1 _ rfl, hc W ho 2 _ rfl, hc W ho 3 _ rfl, hc W ho 4 _ rfl, hc W ho 5 _ rfl, hc W ho 6 _ rfl, hc W ho 7 _ rfl, hc W ho 8 _ rfl, hc W ho 9 _ rfl, hc W ho 10 _ rfl, hc W ho 11 _ rfl, hc W ho 12 _ rfl, hc W ho 13 _ rfl⟩)
 clear hc hv HV0
 go_enter Tryz.func162, Tryz.ntmps162
 have X0 : Hid (Off Nob w w) := hID (Off.refl _ _)
 obtain ⟨c0, c1, c2, c3, c4, c5, c6, c7, c8, c9, c10, c11, c12, c13⟩ := GC.out _ X0.out
 go_wp2_with fail
 refine wp_loop_rounds 3 ?_
 rw [rounds_succ]
 clear c0 c1 c2 c3 c4 c5 c6 c7 c8 c9 c10 c11 c12 c13
 obtain ⟨c0, c1, c2, c3, c4, c5, c6, c7, c8, c9, c10, c11, c12, c13⟩ := GC.out _ X0.out
 go_wp2_with fail
 rw [rounds_succ]
 clear c0 c1 c2 c3 c4 c5 c6 c7 c8 c9 c10 c11 c12 c13
 obtain ⟨c0, c1, c2, c3, c4, c5, c6, c7, c8, c9, c10, c11, c12, c13⟩ := GC.out _ X0.out
 go_wp2_with fail
 rw [rounds_succ]
 clear c0 c1 c2 c3 c4 c5 c6 c7 c8 c9 c10 c11 c12 c13
 obtain ⟨c0, c1, c2, c3, c4, c5, c6, c7, c8, c9, c10, c11, c12, c13⟩ := GC.out _ X0.out
 go_wp2_with fail
 go_ret
 exact ⟨rfl, X0.out⟩
set_option maxHeartbeats 4000000 in
theorem co_count15_a (w : World) (v : Value) (hv : Rd w (fun _ => True) 7 v 2 pa_a) : Calls Tryz.prog 161 #[v] w (RetV w (.tuple #[.int .i64 1, .int .i64 0])) := by
 have HV0 := hID hv
 obtain ⟨b, o, c, rfl, hc⟩ := hv.cellsT (by decide)
 have HV := HV0
 have GC : Hid (∀ W, Off Nob w W → W.cell? ⟨b, o, none⟩ = some (.bool false) ∧ W.cell? ⟨b, o + 1, none⟩ = some (.int .u64 0) ∧ W.cell? ⟨b, o + 2, none⟩ = some (.int .u64 8589934592) ∧ W.cell? ⟨b, o + 3, none⟩ = some (.int .u64 0) ∧ W.cell? ⟨b, o + 4, none⟩ = some (.int .u64 0) ∧ W.cell? ⟨b, o + 5, none⟩ = some (.int .i64 0) ∧ W.cell? ⟨b, o + 6, none⟩ = some (.int .i64 0) ∧ W.cell? ⟨b, o + 7, none⟩ = some (.bool false) ∧ W.cell? ⟨b, o + 8, none⟩ = some (.int .u64 0) ∧ W.cell? ⟨b, o + 9, none⟩ = some (.int .u64 17179869184) ∧ W.cell? ⟨b, o + 10, none⟩ = some (.int .u64 0) ∧ W.cell? ⟨b, o + 11, none⟩ = some (.int .u64 0) ∧ W.cell? ⟨b, o + 12, none⟩ = some (.int .i64 0) ∧ W.cell? ⟨b, o + 13, none⟩ = some (.int .i64 0)) := hID (fun W ho => ⟨hc W ho 0 _ rfl, hc W ho 1 _ rfl, hc W ho 2 _ rfl, hc W ho 3 _ rfl, hc W ho 4 _ rfl, hc W ho 5 _ rfl, hc W ho 6 _ rfl, hc W ho 7 _ rfl, hc W ho 8 _ rfl, hc W ho 9 _ rfl, hc W ho 10 _ rfl, hc W ho 11 _ rfl, hc W ho 12 _ rfl, hc W ho 13 _ rfl⟩)
 clear hc hv HV0
 go_enter Tryz.func161, Tryz.ntmps161
 have X0 : Hid (Off Nob w w) := hID (Off.refl _ _)
 obtain ⟨c0, c1, c2, c3, c4, c5, c6, c7, c8, c9, c10, c11, c12, c13⟩ := GC.out _ X0.out
 go_wp2_with fail
 refine (co_pcheck_a _ _ HV.out).mono ?_
 rintro e w1 ⟨rfl, o1⟩
 have X1 := hID (X0.out.also o1)
 clear o1 X0
 clear c0 c1 c2 c3 c4 c5 c6 c7 c8 c9 c10 c11 c12 c13
 obtain ⟨c0, c1, c2, c3, c4, c5, c6, c7, c8, c9, c10, c11, c12, c13⟩ := GC.out _ X1.out
 go_wp2_with fail
 refine (co_gaps_a _ _ (HV.out.keepT X1.out)).mono ?_
 rintro e w2 ⟨rfl, o1⟩
 have X2 := hID (X1.out.also o1)
 clear o1 X1
 clear c0 c1 c2 c3 c4 c5 c6 c7 c8 c9 c10 c11 c12 c13
 obtain ⟨c0, c1, c2, c3, c4, c5, c6, c7, c8, c9, c10, c11, c12, c13⟩ := GC.out _ X2.out
 go_wp2_with fail
 refine wp_loop_rounds 1 ?_
 rw [rounds_succ]
 clear c0 c1 c2 c3 c4 c5 c6 c7 c8 c9 c10 c11 c12 c13
 obtain ⟨c0, c1, c2, c3, c4, c5, c6, c7, c8, c9, c10, c11, c12, c13⟩ := GC.out _ X2.out
 go_wp2_with fail
 go_ret2
 exact ⟨rfl, X2.out⟩
set_option maxHeartbeats 4000000 in
theorem co_choices15_a (w : World) (v : Value) (hv : Rd w (fun _ => True) 7 v 2 pa_a) : Calls Tryz.prog 163 #[v] w (fun e w' => ∃ u A c, e = .returned u ∧ Rd w' (fun _ => True) 1 u 1 [.slice A 0 c] ∧ Off Nob w w') := by
 have HV0 := hID hv
 obtain ⟨b, o, c, rfl, hc⟩ := hv.cellsT (by decide)
 have HV := HV0
 have GC : Hid (∀ W, Off Nob w W → W.cell? ⟨b, o, none⟩ = some (.bool false) ∧ W.cell? ⟨b, o + 1, none⟩ = some (.int .u64 0) ∧ W.cell? ⟨b, o + 2, none⟩ = some (.int .u64 8589934592) ∧ W.cell? ⟨b, o + 3, none⟩ = some (.int .u64 0) ∧ W.cell? ⟨b, o + 4, none⟩ = some (.int .u64 0) ∧ W.cell? ⟨b, o + 5, none⟩ = some (.int .i64 0) ∧ W.cell? ⟨b, o + 6, none⟩ = some (.int .i64 0) ∧ W.cell? ⟨b, o + 7, none⟩ = some (.bool false) ∧ W.cell? ⟨b, o + 8, none⟩ = some (.int .u64 0) ∧ W.cell? ⟨b, o + 9, none⟩ = some (.int .u64 17179869184) ∧ W.cell? ⟨b, o + 10, none⟩ = some (.int .u64 0) ∧ W.cell? ⟨b, o + 11, none⟩ = some (.int .u64 0) ∧ W.cell? ⟨b, o + 12, none⟩ = some (.int .i64 0) ∧ W.cell? ⟨b, o + 13, none⟩ = some (.int .i64 0)) := hID (fun W ho => ⟨hc W ho 0 _ rfl, hc W ho 1 _ rfl, hc W ho 2 _ rfl, hc W ho 3 _ rfl, hc W ho 4 _ rfl, hc W ho 5 _ rfl, hc W ho 6 _ rfl, hc W ho 7 _ rfl, hc W ho 8 _ rfl, hc W ho 9 _ rfl, hc W ho 10 _ rfl, hc W ho 11 _ rfl, hc W ho 12 _ rfl, hc W ho 13 _ rfl⟩)
 clear hc hv HV0
 obtain ⟨i_ints, h_ints, z_ints, s_ints, b_ints⟩ := info_parts Tryz.infoIs
 go_enter Tryz.func163, Tryz.ntmps163
 have X0 : Hid (Off Nob w w) := hID (Off.refl _ _)
 obtain ⟨c0, c1, c2, c3, c4, c5, c6, c7, c8, c9, c10, c11, c12, c13⟩ := GC.out _ X0.out
 go_wp2_with fail
 have X1 : Hid (Off Nob w ((w.alloc (.cells #[] 3)).alloc (.cells #[.slice (some ⟨w.heap.size, 0, none⟩) 0 0] 22))) := hID (Off.alloc (Off.alloc (Off.refl _ _) _) _)
 have B1 : Hid (Blk ((w.alloc (.cells #[] 3)).alloc (.cells #[.slice (some ⟨w.heap.size, 0, none⟩) 0 0] 22)) (w.heap.size + 1) 22 #[.slice (some ⟨w.heap.size, 0, none⟩) 0 0]) := hID (blk_second _ _ _ _)
 clear X0
 revert X1 B1
 generalize ((w.alloc (.cells #[] 3)).alloc (.cells #[.slice (some ⟨w.heap.size, 0, none⟩) 0 0] 22)) = w1
 intro X1 B1
 have GA : Hid (∀ W, Off Nob w1 W → W.cell? ⟨w.heap.size + 1, 0, none⟩ = some (.slice (some ⟨w.heap.size, 0, none⟩) 0 0)) := hID (fun W ho => (B1.out.to (ho.block _ B1.out.lt (fun h => h))).cell 0)
 have Y1 : Hid (Off Nob w1 w1) := hID (Off.refl _ _)
 clear c0 c1 c2 c3 c4 c5 c6 c7 c8 c9 c10 c11 c12 c13
 obtain ⟨c0, c1, c2, c3, c4, c5, c6, c7, c8, c9, c10, c11, c12, c13⟩ := GC.out _ X1.out
 go_wp2_with fail
 refine (co_gaps_a _ _ (HV.out.keepT X1.out)).mono ?_
 rintro e w2 ⟨rfl, o1⟩
 have X2 := hID (X1.out.also o1)
 have Y2 := hID (Y1.out.also o1)
 clear Y1
 clear o1 X1
 clear c0 c1 c2 c3 c4 c5 c6 c7 c8 c9 c10 c11 c12 c13
 have d0 := GA.out _ Y2.out
 go_wp2_with fail
 refine wp_loop_rounds 1 ?_
 rw [rounds_succ]
 go_wp2_with fail
 refine wp_loop_rounds 2 ?_
 rw [rounds_succ]
 go_wp2_with fail
 refine wp_loop_rounds 2 ?_
 rw [rounds_succ]
 go_wp2_with fail
 go_quiet (fail)
 have X3 := hID (X2.out.drewN nq)
 have Y3 := hID (Y2.out.drewN nq)
 clear X2 Y2 d0
 generalize w2.drewN nq = w3 at *
 have d0 := GA.out _ Y3.out
 go_wp2_with fail
 go_quiet (fail)
 have X4 := hID (X3.out.drewN nq)
 have Y4 := hID (Y3.out.drewN nq)
 clear X3 Y3 d0
 generalize w3.drewN nq = w4 at *
 have d0 := GA.out _ Y4.out
 go_wp2_with fail
 rw [rounds_succ]
 go_wp2_with (at_builtin; refine @wpList_append_lies _ _ _ _ _ _ _ rfl _ _ 221 rfl w.heap.size 22 i_ints (.slice none 0 0) 1 24 Tryz.underlying221 h_ints z_ints s_ints b_ints rfl (by decide) (.slice none 0 0) (0) ([]) rfl ((OwnL.nilAt X4.out 22 1).1.alloc _) ⟨w4.heap.size, 0, none⟩ 1 1 [.slice (some ⟨w.heap.size, 0, none⟩) 0 0] rfl rfl ?c1 (by intro u hu; simp at hu; subst hu; rfl) (by decide) (by decide) (by decide) (by have := (OwnL.nilAt X4.out 22 1).2.size; simp; omega) _ rfl ?_)
 case c1 => exact cell_lit _ [.slice (some ⟨w.heap.size, 0, none⟩) 0 0] _
 intro g5 cap5 w5 hown hgrow hat hlt
 have OW5 := hID ((OwnL.nilAt X4.out 22 1).grown (Off.alloc (Off.refl Nob w4) (.cells #[.slice (some ⟨w.heap.size, 0, none⟩) 0 0] 22)) hown hgrow)
 have X5 := hID OW5.out.2
 clear hown hgrow hat hlt X4
 clear d0 Y4
 go_wp2_with fail
 rw [rounds_succ]
 go_wp2_with fail
 go_ret
 exact ⟨_, _, _, rfl, OW5.out.rd, OW5.out.2⟩
set_option maxHeartbeats 4000000 in
theorem co_positions_a (w : World) (v : Value) (hv : Rd w (fun _ => True) 7 v 2 pa_a) : Calls Tryz.prog 147 #[v] w (RetV w (.tuple #[.int .i64 2, .int .i64 0])) := by
 have HV0 := hID hv
 obtain ⟨b, o, c, rfl, hc⟩ := hv.cellsT (by decide)
 have HV := HV0
 have GC : Hid (∀ W, Off Nob w W → W.cell? ⟨b, o, none⟩ = some (.bool false) ∧ W.cell? ⟨b, o + 1, none⟩ = some (.int .u64 0) ∧ W.cell? ⟨b, o + 2, none⟩ = some (.int .u64 8589934592) ∧ W.cell? ⟨b, o + 3, none⟩ = some (.int .u64 0) ∧ W.cell? ⟨b, o + 4, none⟩ = some (.int .u64 0) ∧ W.cell? ⟨b, o + 5, none⟩ = some (.int .i64 0) ∧ W.cell? ⟨b, o + 6, none⟩ = some (.int .i64 0) ∧ W.cell? ⟨b, o + 7, none⟩ = some (.bool false) ∧ W.cell? ⟨b, o + 8, none⟩ = some (.int .u64 0) ∧ W.cell? ⟨b, o + 9, none⟩ = some (.int .u64 17179869184) ∧ W.cell? ⟨b, o + 10, none⟩ = some (.int .u64 0) ∧ W.cell? ⟨b, o + 11, none⟩ = some (.int .u64 0) ∧ W.cell? ⟨b, o + 12, none⟩ = some (.int .i64 0) ∧ W.cell? ⟨b, o + 13, none⟩ = some (.int .i64 0)) := hID (fun W ho => ⟨hc W ho 0 _ rfl, hc W ho 1 _ rfl, hc W ho 2 _ rfl, hc W ho 3 _ rfl, hc W ho 4 _ rfl, hc W ho 5 _ rfl, hc W ho 6 _ rfl, hc W ho 7 _ rfl, hc W ho 8 _ rfl, hc W ho 9 _ rfl, hc W ho 10 _ rfl, hc W ho 11 _ rfl, hc W ho 12 _ rfl, hc W ho 13 _ rfl⟩)
 clear hc hv HV0
 go_enter Tryz.func147, Tryz.ntmps147
 have X0 : Hid (Off Nob w w) := hID (Off.refl _ _)
 obtain ⟨c0, c1, c2, c3, c4, c5, c6, c7, c8, c9, c10, c11, c12, c13⟩ := GC.out _ X0.out
 go_wp2_with fail
 refine (co_count15_a _ _ HV.out).mono ?_
 rintro e w1 ⟨rfl, o1⟩
 have X1 := hID (X0.out.also o1)
 clear o1 X0
 clear c0 c1 c2 c3 c4 c5 c6 c7 c8 c9 c10 c11 c12 c13
 obtain ⟨c0, c1, c2, c3, c4, c5, c6, c7, c8, c9, c10, c11, c12, c13⟩ := GC.out _ X1.out
 go_wp2_with fail
 refine (co_gaps_a _ _ (HV.out.keepT X1.out)).mono ?_
 rintro e w2 ⟨rfl, o1⟩
 have X2 := hID (X1.out.also o1)
 clear o1 X1
 clear c0 c1 c2 c3 c4 c5 c6 c7 c8 c9 c10 c11 c12 c13
 obtain ⟨c0, c1, c2, c3, c4, c5, c6, c7, c8, c9, c10, c11, c12, c13⟩ := GC.out _ X2.out
 go_wp2_with fail
 refine (co_choices15_a _ _ (HV.out.keepT X2.out)).mono ?_
 rintro e w3 ⟨u1, A1, k1, rfl, hr, o1⟩
 have X3 := hID (X2.out.also o1)
 obtain ⟨hr, o1⟩ := id (And.intro hr o1)
 obtain ⟨b1, p1, cc, rfl, hd⟩ := hr.cellsT (by decide)
 have HD := hID hd
 clear hr hd
 clear o1 X2
 clear c0 c1 c2 c3 c4 c5 c6 c7 c8 c9 c10 c11 c12 c13
 have d0 := HD.out _ (Off.refl _ _) 0 _ rfl
 simp only [Nat.add_zero] at d0
 obtain ⟨c0, c1, c2, c3, c4, c5, c6, c7, c8, c9, c10, c11, c12, c13⟩ := GC.out _ X3.out
 go_wp2_with fail
 refine wp_loop_rounds 2 ?_
 rw [rounds_succ]
 clear c0 c1 c2 c3 c4 c5 c6 c7 c8 c9 c10 c11 c12 c13
 obtain ⟨c0, c1, c2, c3, c4, c5, c6, c7, c8, c9, c10, c11, c12, c13⟩ := GC.out _ X3.out
 go_wp2_with fail
 refine (co_sum0 _ _ _).mono ?_
 rintro e w4 ⟨rfl, o1⟩
 have X4 := hID (X3.out.also o1)
 clear o1 X3
 clear c0 c1 c2 c3 c4 c5 c6 c7 c8 c9 c10 c11 c12 c13
 clear d0
 obtain ⟨c0, c1, c2, c3, c4, c5, c6, c7, c8, c9, c10, c11, c12, c13⟩ := GC.out _ X4.out
 go_wp2_with fail
 rw [rounds_succ]
 clear c0 c1 c2 c3 c4 c5 c6 c7 c8 c9 c10 c11 c12 c13
 obtain ⟨c0, c1, c2, c3, c4, c5, c6, c7, c8, c9, c10, c11, c12, c13⟩ := GC.out _ X4.out
 go_wp2_with fail
 go_ret2
 exact ⟨rfl, X4.out⟩
set_option maxHeartbeats 4000000 in
theorem co_Choices_a (w : World) (v : Value) (hv : Rd w (fun _ => True) 7 v 2 pa_a) : Calls Tryz.prog 148 #[v] w (fun e w' => ∃ u A c, e = .returned (.tuple #[u, .int .i64 0]) ∧ Rd w' (fun _ => True) 1 u 1 [.slice A 0 c] ∧ Off Nob w w') := by
 have HV0 := hID hv
 obtain ⟨b, o, c, rfl, hc⟩ := hv.cellsT (by decide)
 have HV := HV0
 have GC : Hid (∀ W, Off Nob w W → W.cell? ⟨b, o, none⟩ = some (.bool false) ∧ W.cell? ⟨b, o + 1, none⟩ = some (.int .u64 0) ∧ W.cell? ⟨b, o + 2, none⟩ = some (.int .u64 8589934592) ∧ W.cell? ⟨b, o + 3, none⟩ = some (.int .u64 0) ∧ W.cell? ⟨b, o + 4, none⟩ = some (.int .u64 0) ∧ W.cell? ⟨b, o + 5, none⟩ = some (.int .i64 0) ∧ W.cell? ⟨b, o + 6, none⟩ = some (.int .i64 0) ∧ W.cell? ⟨b, o + 7, none⟩ = some (.bool false) ∧ W.cell? ⟨b, o + 8, none⟩ = some (.int .u64 0) ∧ W.cell? ⟨b, o + 9, none⟩ = some (.int .u64 17179869184) ∧ W.cell? ⟨b, o + 10, none⟩ = some (.int .u64 0) ∧ W.cell? ⟨b, o + 11, none⟩ = some (.int .u64 0) ∧ W.cell? ⟨b, o + 12, none⟩ = some (.int .i64 0) ∧ W.cell? ⟨b, o + 13, none⟩ = some (.int .i64 0)) := hID (fun W ho => ⟨hc W ho 0 _ rfl, hc W ho 1 _ rfl, hc W ho 2 _ rfl, hc W ho 3 _ rfl, hc W ho 4 _ rfl, hc W ho 5 _ rfl, hc W ho 6 _ rfl, hc W ho 7 _ rfl, hc W ho 8 _ rfl, hc W ho 9 _ rfl, hc W ho 10 _ rfl, hc W ho 11 _ rfl, hc W ho 12 _ rfl, hc W ho 13 _ rfl⟩)
 clear hc hv HV0
 go_enter Tryz.func148, Tryz.ntmps148
 have X0 : Hid (Off Nob w w) := hID (Off.refl _ _)
 obtain ⟨c0, c1, c2, c3, c4, c5, c6, c7, c8, c9, c10, c11, c12, c13⟩ := GC.out _ X0.out
 go_wp2_with fail
 refine (co_positions_a _ _ HV.out).mono ?_
 rintro e w1 ⟨rfl, o1⟩
 have X1 := hID (X0.out.also o1)
 clear o1 X0
 clear c0 c1 c2 c3 c4 c5 c6 c7 c8 c9 c10 c11 c12 c13
 obtain ⟨c0, c1, c2, c3, c4, c5, c6, c7, c8, c9, c10, c11, c12, c13⟩ := GC.out _ X1.out
 go_wp2_with fail
 refine (co_choices15_a _ _ (HV.out.keepT X1.out)).mono ?_
 rintro e w2 ⟨u1, A1, k1, rfl, hr, o1⟩
 have X2 := hID (X1.out.also o1)
 obtain ⟨hr, o1⟩ := id (And.intro hr o1)
 have HD := hID hr
 clear hr
 clear o1 X1
 clear c0 c1 c2 c3 c4 c5 c6 c7 c8 c9 c10 c11 c12 c13
 obtain ⟨c0, c1, c2, c3, c4, c5, c6, c7, c8, c9, c10, c11, c12, c13⟩ := GC.out _ X2.out
 go_wp2_with fail
 go_ret2
 exact ⟨_, _, _, rfl, HD.out, X2.out⟩
set_option maxHeartbeats 4000000 in
theorem co_line_a (w : World) (v : Value) (hv : Rd w (fun _ => True) 7 v 2 pa_a) (AA : Option Addr) (ac : Nat) : Calls Tryz.prog 149 #[v, .slice AA 0 ac] w (fun e w' => ∃ u, e = .returned (.tuple #[u, .int .i64 0]) ∧ Rd w' (fun k => w.heap.size ≤ k) 4 u 2 se_a ∧ Off Nob w w') := by
 have HV0 := hID hv
 obtain ⟨b, o, c, rfl, hc⟩ := hv.cellsT (by decide)
 have HV := HV0
 have GC : Hid (∀ W, Off Nob w W → W.cell? ⟨b, o, none⟩ = some (.bool false) ∧ W.cell? ⟨b, o + 1, none⟩ = some (.int .u64 0) ∧ W.cell? ⟨b, o + 2, none⟩ = some (.int .u64 8589934592) ∧ W.cell? ⟨b, o + 3, none⟩ = some (.int .u64 0) ∧ W.cell? ⟨b, o + 4, none⟩ = some (.int .u64 0) ∧ W.cell? ⟨b, o + 5, none⟩ = some (.int .i64 0) ∧ W.cell? ⟨b, o + 6, none⟩ = some (.int .i64 0) ∧ W.cell? ⟨b, o + 7, none⟩ = some (.bool false) ∧ W.cell? ⟨b, o + 8, none⟩ = some (.int .u64 0) ∧ W.cell? ⟨b, o + 9, none⟩ = some (.int .u64 17179869184) ∧ W.cell? ⟨b, o + 10, none⟩ = some (.int .u64 0) ∧ W.cell? ⟨b, o + 11, none⟩ = some (.int .u64 0) ∧ W.cell? ⟨b, o + 12, none⟩ = some (.int .i64 0) ∧ W.cell? ⟨b, o + 13, none⟩ = some (.int .i64 0)) := hID (fun W ho => ⟨hc W ho 0 _ rfl, hc W ho 1 _ rfl, hc W ho 2 _ rfl, hc W ho 3 _ rfl, hc W ho 4 _ rfl, hc W ho 5 _ rfl, hc W ho 6 _ rfl, hc W ho 7 _ rfl, hc W ho 8 _ rfl, hc W ho 9 _ rfl, hc W ho 10 _ rfl, hc W ho 11 _ rfl, hc W ho 12 _ rfl, hc W ho 13 _ rfl⟩)
 clear hc hv HV0
 obtain ⟨i_cl, h_cl, z_cl, s_cl, b_cl⟩ := info_parts Tryz.infoCl4
 go_enter Tryz.func149, Tryz.ntmps149
 have X0 : Hid (Off Nob w w) := hID (Off.refl _ _)
 obtain ⟨c0, c1, c2, c3, c4, c5, c6, c7, c8, c9, c10, c11, c12, c13⟩ := GC.out _ X0.out
 go_wp2_with fail
 refine (co_pcheck_a _ _ HV.out).mono ?_
 rintro e w1 ⟨rfl, o1⟩
 have X1 := hID (X0.out.also o1)
 clear o1 X0
 clear c0 c1 c2 c3 c4 c5 c6 c7 c8 c9 c10 c11 c12 c13
 obtain ⟨c0, c1, c2, c3, c4, c5, c6, c7, c8, c9, c10, c11, c12, c13⟩ := GC.out _ X1.out
 go_wp2_with fail
 refine (co_gaps_a _ _ (HV.out.keepT X1.out)).mono ?_
 rintro e w2 ⟨rfl, o1⟩
 have X2 := hID (X1.out.also o1)
 clear o1 X1
 clear c0 c1 c2 c3 c4 c5 c6 c7 c8 c9 c10 c11 c12 c13
 obtain ⟨c0, c1, c2, c3, c4, c5, c6, c7, c8, c9, c10, c11, c12, c13⟩ := GC.out _ X2.out
 go_wp2_with fail
 refine wp_loop_rounds 1 ?_
 rw [rounds_succ]
 clear c0 c1 c2 c3 c4 c5 c6 c7 c8 c9 c10 c11 c12 c13
 obtain ⟨c0, c1, c2, c3, c4, c5, c6, c7, c8, c9, c10, c11, c12, c13⟩ := GC.out _ X2.out
 go_wp2_with fail
 refine wp_loop_rounds 3 ?_
 rw [rounds_succ]
 clear c0 c1 c2 c3 c4 c5 c6 c7 c8 c9 c10 c11 c12 c13
 obtain ⟨c0, c1, c2, c3, c4, c5, c6, c7, c8, c9, c10, c11, c12, c13⟩ := GC.out _ X2.out
 go_wp2_with (at_builtin; refine @wpList_append_lies _ _ _ _ _ _ _ rfl _ _ 224 rfl w.heap.size 146 i_cl (.agg #[.int .u64 0, .int .u64 0, .int .u64 0, .int .u64 0]) 4 32 Tryz.underlying224 h_cl z_cl s_cl b_cl rfl (by decide) (.slice none 0 0) (0) ([]) rfl ((OwnL.nilAt X2.out 146 4).1.alloc _) ⟨w2.heap.size, 0, none⟩ 1 1 [.int .u64 0, .int .u64 8589934592, .int .u64 0, .int .u64 0] rfl rfl ?c1 (by decide) (by decide) (by decide) (by decide) (by have := (OwnL.nilAt X2.out 146 4).2.size; simp; omega) _ rfl ?_)
 case c1 => exact cell_lit _ [.int .u64 0, .int .u64 8589934592, .int .u64 0, .int .u64 0] _
 intro g3 cap3 w3 hown hgrow hat hlt
 have OW3 := hID ((OwnL.nilAt X2.out 146 4).grown (Off.alloc (Off.refl Nob w2) (.cells #[.int .u64 0, .int .u64 8589934592, .int .u64 0, .int .u64 0] 146)) hown hgrow)
 have X3 := hID OW3.out.2
 clear hown hgrow hat hlt X2
 clear c0 c1 c2 c3 c4 c5 c6 c7 c8 c9 c10 c11 c12 c13
 obtain ⟨c0, c1, c2, c3, c4, c5, c6, c7, c8, c9, c10, c11, c12, c13⟩ := GC.out _ X3.out
 go_wp2_with fail
 rw [rounds_succ]
 clear c0 c1 c2 c3 c4 c5 c6 c7 c8 c9 c10 c11 c12 c13
 obtain ⟨c0, c1, c2, c3, c4, c5, c6, c7, c8, c9, c10, c11, c12, c13⟩ := GC.out _ X3.out
 go_wp2_with (at_builtin; refine @wpList_append_lies _ _ _ _ _ _ _ rfl _ _ 224 rfl w.heap.size 146 i_cl (.agg #[.int .u64 0, .int .u64 0, .int .u64 0, .int .u64 0]) 4 32 Tryz.underlying224 h_cl z_cl s_cl b_cl rfl (by decide) (.slice (some ⟨g3, 0, none⟩) (0 + 1) cap3) (0 + 1) ([] ++ [.int .u64 0, .int .u64 8589934592, .int .u64 0, .int .u64 0]) rfl (OW3.out.1.alloc _) ⟨w3.heap.size, 0, none⟩ 1 1 [.int .u64 0, .int .u64 17179869184, .int .u64 0, .int .u64 0] rfl rfl ?c1 (by decide) (by decide) (by decide) (by decide) (by have := OW3.out.2.size; simp; omega) _ rfl ?_)
 case c1 => exact cell_lit _ [.int .u64 0, .int .u64 17179869184, .int .u64 0, .int .u64 0] _
 intro g4 cap4 w4 hown hgrow hat hlt
 have OW4 := hID (OW3.out.grown (Off.alloc (Off.refl Nob w3) (.cells #[.int .u64 0, .int .u64 17179869184, .int .u64 0, .int .u64 0] 146)) hown hgrow)
 have X4 := hID OW4.out.2
 clear hown hgrow hat hlt X3 OW3
 clear c0 c1 c2 c3 c4 c5 c6 c7 c8 c9 c10 c11 c12 c13
 obtain ⟨c0, c1, c2, c3, c4, c5, c6, c7, c8, c9, c10, c11, c12, c13⟩ := GC.out _ X4.out
 go_wp2_with fail
 rw [rounds_succ]
 clear c0 c1 c2 c3 c4 c5 c6 c7 c8 c9 c10 c11 c12 c13
 obtain ⟨c0, c1, c2, c3, c4, c5, c6, c7, c8, c9, c10, c11, c12, c13⟩ := GC.out _ X4.out
 go_wp2_with fail
 go_ret2
 exact ⟨_, rfl, Rd.own OW4.out.1 (fun k hk => (OW4.out.1.lt k hk).1), OW4.out.2⟩
set_option maxHeartbeats 4000000 in
theorem co_lines_a (w : World) (v : Value) (hv : Rd w (fun _ => True) 7 v 2 pa_a) : Calls Tryz.prog 126 #[v] w (fun e w' => ∃ u v, e = .returned (.tuple #[u, .int .i64 0]) ∧ Rd w' (fun k => w.heap.size ≤ k) 1 u 1 [v] ∧ (∃ A c, v = .slice A 2 c) ∧ Rd w' (fun k => w.heap.size ≤ k) 4 v 2 se_a ∧ Off Nob w w') := by
 have HV0 := hID hv
 obtain ⟨b, o, c, rfl, hc⟩ := hv.cellsT (by decide)
 have HV := HV0
 have GC : Hid (∀ W, Off Nob w W → W.cell? ⟨b, o, none⟩ = some (.bool false) ∧ W.cell? ⟨b, o + 1, none⟩ = some (.int .u64 0) ∧ W.cell? ⟨b, o + 2, none⟩ = some (.int .u64 8589934592) ∧ W.cell? ⟨b, o + 3, none⟩ = some (.int .u64 0) ∧ W.cell? ⟨b, o + 4, none⟩ = some (.int .u64 0) ∧ W.cell? ⟨b, o + 5, none⟩ = some (.int .i64 0) ∧ W.cell? ⟨b, o + 6, none⟩ = some (.int .i64 0) ∧ W.cell? ⟨b, o + 7, none⟩ = some (.bool false) ∧ W.cell? ⟨b, o + 8, none⟩ = some (.int .u64 0) ∧ W.cell? ⟨b, o + 9, none⟩ = some (.int .u64 17179869184) ∧ W.cell? ⟨b, o + 10, none⟩ = some (.int .u64 0) ∧ W.cell? ⟨b, o + 11, none⟩ = some (.int .u64 0) ∧ W.cell? ⟨b, o + 12, none⟩ = some (.int .i64 0) ∧ W.cell? ⟨b, o + 13, none⟩ = some (.int .i64 0)) := hID (fun W ho => ⟨hc W ho 0 _ rfl, hc W ho 1 _ rfl, hc W ho 2 _ rfl, hc W ho 3 _ rfl, hc W ho 4 _ rfl, hc W ho 5 _ rfl, hc W ho 6 _ rfl, hc W ho 7 _ rfl, hc W ho 8 _ rfl, hc W ho 9 _ rfl, hc W ho 10 _ rfl, hc W ho 11 _ rfl, hc W ho 12 _ rfl, hc W ho 13 _ rfl⟩)
 clear hc hv HV0
 obtain ⟨i_line, h_line, z_line, s_line, b_line⟩ := info_parts Tryz.infoLn
 go_enter Tryz.func126, Tryz.ntmps126
 have X0 : Hid (Off Nob w w) := hID (Off.refl _ _)
 obtain ⟨c0, c1, c2, c3, c4, c5, c6, c7, c8, c9, c10, c11, c12, c13⟩ := GC.out _ X0.out
 go_wp2_with fail
 refine (co_Choices_a _ _ HV.out).mono ?_
 rintro e w1 ⟨u1, A1, k1, rfl, hr, o1⟩
 have X1 := hID (X0.out.also o1)
 obtain ⟨hr, o1⟩ := id (And.intro hr o1)
 obtain ⟨b1, p1, cc, rfl, hd⟩ := hr.cellsT (by decide)
 have HD := hID hd
 clear hr hd
 clear o1 X0
 clear c0 c1 c2 c3 c4 c5 c6 c7 c8 c9 c10 c11 c12 c13
 have d0 := HD.out _ (Off.refl _ _) 0 _ rfl
 simp only [Nat.add_zero] at d0
 obtain ⟨c0, c1, c2, c3, c4, c5, c6, c7, c8, c9, c10, c11, c12, c13⟩ := GC.out _ X1.out
 go_wp2_with fail
 refine wp_loop_rounds 2 ?_
 rw [rounds_succ]
 clear c0 c1 c2 c3 c4 c5 c6 c7 c8 c9 c10 c11 c12 c13
 obtain ⟨c0, c1, c2, c3, c4, c5, c6, c7, c8, c9, c10, c11, c12, c13⟩ := GC.out _ X1.out
 go_wp2_with fail
 refine (co_line_a _ _ (HV.out.keepT X1.out) _ _).mono ?_
 rintro e w2 ⟨u2, rfl, hr, o1⟩
 have X2 := hID (X1.out.also o1)
 obtain ⟨hr, o1⟩ := id (And.intro hr o1)
 obtain ⟨A2, k2, rfl, _⟩ := hr.form
 have HS := hID (Rd.mono hr (G := fun k => w.heap.size ≤ k) (fun k hk => Nat.le_trans X1.out.size hk))
 clear hr d0
 clear o1 X1
 clear c0 c1 c2 c3 c4 c5 c6 c7 c8 c9 c10 c11 c12 c13
 obtain ⟨c0, c1, c2, c3, c4, c5, c6, c7, c8, c9, c10, c11, c12, c13⟩ := GC.out _ X2.out
 go_wp2_with (at_builtin; refine @wpList_append_lies _ _ _ _ _ _ _ rfl _ _ 201 rfl w.heap.size 224 i_line (.slice none 0 0) 1 24 Tryz.underlying201 h_line z_line s_line b_line rfl (by decide) (.slice none 0 0) (0) ([]) rfl ((OwnL.nilAt X2.out 224 1).1.alloc _) ⟨w2.heap.size, 0, none⟩ 1 1 [.slice A2 2 k2] rfl rfl ?c1 (by intro u hu; simp at hu; subst hu; rfl) (by decide) (by decide) (by decide) (by have := (OwnL.nilAt X2.out 224 1).2.size; simp; omega) _ rfl ?_)
 case c1 => exact cell_lit _ [.slice A2 2 k2] _
 intro g3 cap3 w3 hown hgrow hat hlt
 have HS' := hID (HS.out.keep (Off.grown (Off.alloc (Off.refl Nob w2) _) hgrow (fun k hk => by cases hk)) (fun _ _ h => h))
 have OW3 := hID ((OwnL.nilAt X2.out 224 1).grown (Off.alloc (Off.refl Nob w2) (.cells #[.slice A2 2 k2] 224)) hown hgrow)
 have X3 := hID OW3.out.2
 clear hown hgrow hat hlt X2
 clear c0 c1 c2 c3 c4 c5 c6 c7 c8 c9 c10 c11 c12 c13
 obtain ⟨c0, c1, c2, c3, c4, c5, c6, c7, c8, c9, c10, c11, c12, c13⟩ := GC.out _ X3.out
 go_wp2_with fail
 rw [rounds_succ]
 clear c0 c1 c2 c3 c4 c5 c6 c7 c8 c9 c10 c11 c12 c13
 obtain ⟨c0, c1, c2, c3, c4, c5, c6, c7, c8, c9, c10, c11, c12, c13⟩ := GC.out _ X3.out
 go_wp2_with fail
 go_ret2
 exact ⟨_, _, rfl, Rd.own OW3.out.1 (fun k hk => (OW3.out.1.lt k hk).1), ⟨_, _, rfl⟩, HS'.out, OW3.out.2⟩
set_option maxHeartbeats 4000000 in
theorem co_gaps_b (w : World) (v : Value) (hv : Rd w (fun _ => True) 7 v 1 pa_b) : Calls Tryz.prog 162 #[v] w (RetV w (.slice none 0 0)) := by
 have HV0 := hID hv
 obtain ⟨b, o, c, rfl, hc⟩ := hv.cellsT (by decide)
 have HV := HV0
 have GC : Hid (∀ W, Off Nob w W → W.cell? ⟨b, o, none⟩ = some (.bool false) ∧ W.cell? ⟨b, o + 1, none⟩ = some (.int .u64 0) ∧ W.cell? ⟨b, o + 2, none⟩ = some (.int .u64 25769803776) ∧ W.cell? ⟨b, o + 3, none⟩ = some (.int .u64 0) ∧ W.cell? ⟨b, o + 4, none⟩ = some (.int .u64 0) ∧ W.cell? ⟨b, o + 5, none⟩ = some (.int .i64 0) ∧ W.cell? ⟨b, o + 6, none⟩ = some (.int .i64 0)) := hID (fun W ho => ⟨hc W ho 0 _ rfl, hc W ho 1 _ rfl, hc W ho 2 _ rfl, hc W ho 3 _ rfl, hc W ho 4 _ rfl, hc W ho 5 _ rfl, hc W ho 6 _ rfl⟩)
 clear hc hv HV0
 go_enter Tryz.func162, Tryz.ntmps162
 have X0 : Hid (Off Nob w w) := hID (Off.refl _ _)
 obtain ⟨c0, c1, c2, c3, c4, c5, c6⟩ := GC.out _ X0.out
 go_wp2_with fail
 refine wp_loop_rounds 2 ?_
 rw [rounds_succ]
 clear c0 c1 c2 c3 c4 c5 c6
 obtain ⟨c0, c1, c2, c3, c4, c5, c6⟩ := GC.out _ X0.out
 go_wp2_with fail
 rw [rounds_succ]
 clear c0 c1 c2 c3 c4 c5 c6
 obtain ⟨c0, c1, c2, c3, c4, c5, c6⟩ := GC.out _ X0.out
 go_wp2_with fail
 go_ret
 exact ⟨rfl, X0.out⟩
set_option maxHeartbeats 4000000 in
theorem co_count15_b (w : World) (v : Value) (hv : Rd w (fun _ => True) 7 v 1 pa_b) : Calls Tryz.prog 161 #[v] w (RetV w (.tuple #[.int .i64 1, .int .i64 0])) := by
 have HV0 := hID hv
 obtain ⟨b, o, c, rfl, hc⟩ := hv.cellsT (by decide)
 have HV := HV0
 have GC : Hid (∀ W, Off Nob w W → W.cell? ⟨b, o, none⟩ = some (.bool false) ∧ W.cell? ⟨b, o + 1, none⟩ = some (.int .u64 0) ∧ W.cell? ⟨b, o + 2, none⟩ = some (.int .u64 25769803776) ∧ W.cell? ⟨b, o + 3, none⟩ = some (.int .u64 0) ∧ W.cell? ⟨b, o + 4, none⟩ = some (.int .u64 0) ∧ W.cell? ⟨b, o + 5, none⟩ = some (.int .i64 0) ∧ W.cell? ⟨b, o + 6, none⟩ = some (.int .i64 0)) := hID (fun W ho => ⟨hc W ho 0 _ rfl, hc W ho 1 _ rfl, hc W ho 2 _ rfl, hc W ho 3 _ rfl, hc W ho 4 _ rfl, hc W ho 5 _ rfl, hc W ho 6 _ rfl⟩)
 clear hc hv HV0
 go_enter Tryz.func161, Tryz.ntmps161
 have X0 : Hid (Off Nob w w) := hID (Off.refl _ _)
 obtain ⟨c0, c1, c2, c3, c4, c5, c6⟩ := GC.out _ X0.out
 go_wp2_with fail
 refine (co_pcheck_b _ _ HV.out).mono ?_
 rintro e w1 ⟨rfl, o1⟩
 have X1 := hID (X0.out.also o1)
 clear o1 X0
 clear c0 c1 c2 c3 c4 c5 c6
 obtain ⟨c0, c1, c2, c3, c4, c5, c6⟩ := GC.out _ X1.out
 go_wp2_with fail
 refine (co_gaps_b _ _ (HV.out.keepT X1.out)).mono ?_
 rintro e w2 ⟨rfl, o1⟩
 have X2 := hID (X1.out.also o1)
 clear o1 X1
 clear c0 c1 c2 c3 c4 c5 c6
 obtain ⟨c0, c1, c2, c3, c4, c5, c6⟩ := GC.out _ X2.out
 go_wp2_with fail
 refine wp_loop_rounds 1 ?_
 rw [rounds_succ]
 clear c0 c1 c2 c3 c4 c5 c6
 obtain ⟨c0, c1, c2, c3, c4, c5, c6⟩ := GC.out _ X2.out
 go_wp2_with fail
 go_ret2
 exact ⟨rfl, X2.out⟩
set_option maxHeartbeats 4000000 in
theorem co_choices15_b (w : World) (v : Value) (hv : Rd w (fun _ => True) 7 v 1 pa_b) : Calls Tryz.prog 163 #[v] w (fun e w' => ∃ u A c, e = .returned u ∧ Rd w' (fun _ => True) 1 u 1 [.slice A 0 c] ∧ Off Nob w w') := by
 have HV0 := hID hv
 obtain ⟨b, o, c, rfl, hc⟩ := hv.cellsT (by decide)
 have HV := HV0
 have GC : Hid (∀ W, Off Nob w W → W.cell? ⟨b, o, none⟩ = some (.bool false) ∧ W.cell? ⟨b, o + 1, none⟩ = some (.int .u64 0) ∧ W.cell? ⟨b, o + 2, none⟩ = some (.int .u64 25769803776) ∧ W.cell? ⟨b, o + 3, none⟩ = some (.int .u64 0) ∧ W.cell? ⟨b, o + 4, none⟩ = some (.int .u64 0) ∧ W.cell? ⟨b, o + 5, none⟩ = some (.int .i64 0) ∧ W.cell? ⟨b, o + 6, none⟩ = some (.int .i64 0)) := hID (fun W ho => ⟨hc W ho 0 _ rfl, hc W ho 1 _ rfl, hc W ho 2 _ rfl, hc W ho 3 _ rfl, hc W ho 4 _ rfl, hc W ho 5 _ rfl, hc W ho 6 _ rfl⟩)
 clear hc hv HV0
 obtain ⟨i_ints, h_ints, z_ints, s_ints, b_ints⟩ := info_parts Tryz.infoIs
 go_enter Tryz.func163, Tryz.ntmps163
 have X0 : Hid (Off Nob w w) := hID (Off.refl _ _)
 obtain ⟨c0, c1, c2, c3, c4, c5, c6⟩ := GC.out _ X0.out
 go_wp2_with fail
 have X1 : Hid (Off Nob w ((w.alloc (.cells #[] 3)).alloc (.cells #[.slice (some ⟨w.heap.size, 0, none⟩) 0 0] 22))) := hID (Off.alloc (Off.alloc (Off.refl _ _) _) _)
 have B1 : Hid (Blk ((w.alloc (.cells #[] 3)).alloc (.cells #[.slice (some ⟨w.heap.size, 0, none⟩) 0 0] 22)) (w.heap.size + 1) 22 #[.slice (some ⟨w.heap.size, 0, none⟩) 0 0]) := hID (blk_second _ _ _ _)
 clear X0
 revert X1 B1
 generalize ((w.alloc (.cells #[] 3)).alloc (.cells #[.slice (some ⟨w.heap.size, 0, none⟩) 0 0] 22)) = w1
 intro X1 B1
 have GA : Hid (∀ W, Off Nob w1 W → W.cell? ⟨w.heap.size + 1, 0, none⟩ = some (.slice (some ⟨w.heap.size, 0, none⟩) 0 0)) := hID (fun W ho => (B1.out.to (ho.block _ B1.out.lt (fun h => h))).cell 0)
 have Y1 : Hid (Off Nob w1 w1) := hID (Off.refl _ _)
 clear c0 c1 c2 c3 c4 c5 c6
 obtain ⟨c0, c1, c2, c3, c4, c5, c6⟩ := GC.out _ X1.out
 go_wp2_with fail
 refine (co_gaps_b _ _ (HV.out.keepT X1.out)).mono ?_
 rintro e w2 ⟨rfl, o1⟩
 have X2 := hID (X1.out.also o1)
 have Y2 := hID (Y1.out.also o1)
 clear Y1
 clear o1 X1
 clear c0 c1 c2 c3 c4 c5 c6
 have d0 := GA.out _ Y2.out
 go_wp2_with fail
 refine wp_loop_rounds 1 ?_
 rw [rounds_succ]
 go_wp2_with fail
 refine wp_loop_rounds 2 ?_
 rw [rounds_succ]
 go_wp2_with fail
 refine wp_loop_rounds 2 ?_
 rw [rounds_succ]
 go_wp2_with fail
 go_quiet (fail)
 have X3 := hID (X2.out.drewN nq)
 have Y3 := hID (Y2.out.drewN nq)
 clear X2 Y2 d0
 generalize w2.drewN nq = w3 at *
 have d0 := GA.out _ Y3.out
 go_wp2_with fail
 go_quiet (fail)
 have X4 := hID (X3.out.drewN nq)
 have Y4 := hID (Y3.out.drewN nq)
 clear X3 Y3 d0
 generalize w3.drewN nq = w4 at *
 have d0 := GA.out _ Y4.out
 go_wp2_with fail
 rw [rounds_succ]
 go_wp2_with (at_builtin; refine @wpList_append_lies _ _ _ _ _ _ _ rfl _ _ 221 rfl w.heap.size 22 i_ints (.slice none 0 0) 1 24 Tryz.underlying221 h_ints z_ints s_ints b_ints rfl (by decide) (.slice none 0 0) (0) ([]) rfl ((OwnL.nilAt X4.out 22 1).1.alloc _) ⟨w4.heap.size, 0, none⟩ 1 1 [.slice (some ⟨w.heap.size, 0, none⟩) 0 0] rfl rfl ?c1 (by intro u hu; simp at hu; subst hu; rfl) (by decide) (by decide) (by decide) (by have := (OwnL.nilAt X4.out 22 1).2.size; simp; omega) _ rfl ?_)
 case c1 => exact cell_lit _ [.slice (some ⟨w.heap.size, 0, none⟩) 0 0] _
 intro g5 cap5 w5 hown hgrow hat hlt
 have OW5 := hID ((OwnL.nilAt X4.out 22 1).grown (Off.alloc (Off.refl Nob w4) (.cells #[.slice (some ⟨w.heap.size, 0, none⟩) 0 0] 22)) hown hgrow)
 have X5 := hID OW5.out.2
 clear hown hgrow hat hlt X4
 clear d0 Y4
 go_wp2_with fail
 rw [rounds_succ]
 go_wp2_with fail
 go_ret
 exact ⟨_, _, _, rfl, OW5.out.rd, OW5.out.2⟩
set_option maxHeartbeats 4000000 in
theorem co_positions_b (w : World) (v : Value) (hv : Rd w (fun _ => True) 7 v 1 pa_b) : Calls Tryz.prog 147 #[v] w (RetV w (.tuple #[.int .i64 1, .int .i64 0])) := by
 have HV0 := hID hv
 obtain ⟨b, o, c, rfl, hc⟩ := hv.cellsT (by decide)
 have HV := HV0
 have GC : Hid (∀ W, Off Nob w W → W.cell? ⟨b, o, none⟩ = some (.bool false) ∧ W.cell? ⟨b, o + 1, none⟩ = some (.int .u64 0) ∧ W.cell? ⟨b, o + 2, none⟩ = some (.int .u64 25769803776) ∧ W.cell? ⟨b, o + 3, none⟩ = some (.int .u64 0) ∧ W.cell? ⟨b, o + 4, none⟩ = some (.int .u64 0) ∧ W.cell? ⟨b, o + 5, none⟩ = some (.int .i64 0) ∧ W.cell? ⟨b, o + 6, none⟩ = some (.int .i64 0)) := hID (fun W ho => ⟨hc W ho 0 _ rfl, hc W ho 1 _ rfl, hc W ho 2 _ rfl, hc W ho 3 _ rfl, hc W ho 4 _ rfl, hc W ho 5 _ rfl, hc W ho 6 _ rfl⟩)
 clear hc hv HV0
 go_enter Tryz.func147, Tryz.ntmps147
 have X0 : Hid (Off Nob w w) := hID (Off.refl _ _)
 obtain ⟨c0, c1, c2, c3, c4, c5, c6⟩ := GC.out _ X0.out
 go_wp2_with fail
 refine (co_count15_b _ _ HV.out).mono ?_
 rintro e w1 ⟨rfl, o1⟩
 have X1 := hID (X0.out.also o1)
 clear o1 X0
 clear c0 c1 c2 c3 c4 c5 c6
 obtain ⟨c0, c1, c2, c3, c4, c5, c6⟩ := GC.out _ X1.out
 go_wp2_with fail
 refine (co_gaps_b _ _ (HV.out.keepT X1.out)).mono ?_
 rintro e w2 ⟨rfl, o1⟩
 have X2 := hID (X1.out.also o1)
 clear o1 X1
 clear c0 c1 c2 c3 c4 c5 c6
 obtain ⟨c0, c1, c2, c3, c4, c5, c6⟩ := GC.out _ X2.out
 go_wp2_with fail
 refine (co_choices15_b _ _ (HV.out.keepT X2.out)).mono ?_
 rintro e w3 ⟨u1, A1, k1, rfl, hr, o1⟩
 have X3 := hID (X2.out.also o1)
 obtain ⟨hr, o1⟩ := id (And.intro hr o1)
 obtain ⟨b1, p1, cc, rfl, hd⟩ := hr.cellsT (by decide)
 have HD := hID hd
 clear hr hd
 clear o1 X2
 clear c0 c1 c2 c3 c4 c5 c6
 have d0 := HD.out _ (Off.refl _ _) 0 _ rfl
 simp only [Nat.add_zero] at d0
 obtain ⟨c0, c1, c2, c3, c4, c5, c6⟩ := GC.out _ X3.out
 go_wp2_with fail
 refine wp_loop_rounds 2 ?_
 rw [rounds_succ]
 clear c0 c1 c2 c3 c4 c5 c6
 obtain ⟨c0, c1, c2, c3, c4, c5, c6⟩ := GC.out _ X3.out
 go_wp2_with fail
 refine (co_sum0 _ _ _).mono ?_
 rintro e w4 ⟨rfl, o1⟩
 have X4 := hID (X3.out.also o1)
 clear o1 X3
 clear c0 c1 c2 c3 c4 c5 c6
 clear d0
 obtain ⟨c0, c1, c2, c3, c4, c5, c6⟩ := GC.out _ X4.out
 go_wp2_with fail
 rw [rounds_succ]
 clear c0 c1 c2 c3 c4 c5 c6
 obtain ⟨c0, c1, c2, c3, c4, c5, c6⟩ := GC.out _ X4.out
 go_wp2_with fail
 go_ret2
 exact ⟨rfl, X4.out⟩
set_option maxHeartbeats 4000000 in
theorem co_Choices_b (w : World) (v : Value) (hv : Rd w (fun _ => True) 7 v 1 pa_b) : Calls Tryz.prog 148 #[v] w (fun e w' => ∃ u A c, e = .returned (.tuple #[u, .int .i64 0]) ∧ Rd w' (fun _ => True) 1 u 1 [.slice A 0 c] ∧ Off Nob w w') := by
 have HV0 := hID hv
 obtain ⟨b, o, c, rfl, hc⟩ := hv.cellsT (by decide)
 have HV := HV0
 have GC : Hid (∀ W, Off Nob w W → W.cell? ⟨b, o, none⟩ = some (.bool false) ∧ W.cell? ⟨b, o + 1, none⟩ = some (.int .u64 0) ∧ W.cell? ⟨b, o + 2, none⟩ = some (.int .u64 25769803776) ∧ W.cell? ⟨b, o + 3, none⟩ = some (.int .u64 0) ∧ W.cell? ⟨b, o + 4, none⟩ = some (.int .u64 0) ∧ W.cell? ⟨b, o + 5, none⟩ = some (.int .i64 0) ∧ W.cell? ⟨b, o + 6, none⟩ = some (.int .i64 0)) := hID (fun W ho => ⟨hc W ho 0 _ rfl, hc W ho 1 _ rfl, hc W ho 2 _ rfl, hc W ho 3 _ rfl, hc W ho 4 _ rfl, hc W ho 5 _ rfl, hc W ho 6 _ rfl⟩)
 clear hc hv HV0
 go_enter Tryz.func148, Tryz.ntmps148
 have X0 : Hid (Off Nob w w) := hID (Off.refl _ _)
 obtain ⟨c0, c1, c2, c3, c4, c5, c6⟩ := GC.out _ X0.out
 go_wp2_with fail
 refine (co_positions_b _ _ HV.out).mono ?_
 rintro e w1 ⟨rfl, o1⟩
 have X1 := hID (X0.out.also o1)
 clear o1 X0
 clear c0 c1 c2 c3 c4 c5 c6
 obtain ⟨c0, c1, c2, c3, c4, c5, c6⟩ := GC.out _ X1.out
 go_wp2_with fail
 refine (co_choices15_b _ _ (HV.out.keepT X1.out)).mono ?_
 rintro e w2 ⟨u1, A1, k1, rfl, hr, o1⟩
 have X2 := hID (X1.out.also o1)
 obtain ⟨hr, o1⟩ := id (And.intro hr o1)
 have HD := hID hr
 clear hr
 clear o1 X1
 clear c0 c1 c2 c3 c4 c5 c6
 obtain ⟨c0, c1, c2, c3, c4, c5, c6⟩ := GC.out _ X2.out
 go_wp2_with fail
 go_ret2
 exact ⟨_, _, _, rfl, HD.out, X2.out⟩
set_option maxHeartbeats 4000000 in
theorem co_line_b (w : World) (v : Value) (hv : Rd w (fun _ => True) 7 v 1 pa_b) (AA : Option Addr) (ac : Nat) : Calls Tryz.prog 149 #[v, .slice AA 0 ac] w (fun e w' => ∃ u, e = .returned (.tuple #[u, .int .i64 0]) ∧ Rd w' (fun k => w.heap.size ≤ k) 4 u 1 se_b ∧ Off Nob w w') := by
 have HV0 := hID hv
 obtain ⟨b, o, c, rfl, hc⟩ := hv.cellsT (by decide)
 have HV := HV0
 have GC : Hid (∀ W, Off Nob w W → W.cell? ⟨b, o, none⟩ = some (.bool false) ∧ W.cell? ⟨b, o + 1, none⟩ = some (.int .u64 0) ∧ W.cell? ⟨b, o + 2, none⟩ = some (.int .u64 25769803776) ∧ W.cell? ⟨b, o + 3, none⟩ = some (.int .u64 0) ∧ W.cell? ⟨b, o + 4, none⟩ = some (.int .u64 0) ∧ W.cell? ⟨b, o + 5, none⟩ = some (.int .i64 0) ∧ W.cell? ⟨b, o + 6, none⟩ = some (.int .i64 0)) := hID (fun W ho => ⟨hc W ho 0 _ rfl, hc W ho 1 _ rfl, hc W ho 2 _ rfl, hc W ho 3 _ rfl, hc W ho 4 _ rfl, hc W ho 5 _ rfl, hc W ho 6 _ rfl⟩)
 clear hc hv HV0
 obtain ⟨i_cl, h_cl, z_cl, s_cl, b_cl⟩ := info_parts Tryz.infoCl4
 go_enter Tryz.func149, Tryz.ntmps149
 have X0 : Hid (Off Nob w w) := hID (Off.refl _ _)
 obtain ⟨c0, c1, c2, c3, c4, c5, c6⟩ := GC.out _ X0.out
 go_wp2_with fail
 refine (co_pcheck_b _ _ HV.out).mono ?_
 rintro e w1 ⟨rfl, o1⟩
 have X1 := hID (X0.out.also o1)
 clear o1 X0
 clear c0 c1 c2 c3 c4 c5 c6
 obtain ⟨c0, c1, c2, c3, c4, c5, c6⟩ := GC.out _ X1.out
 go_wp2_with fail
 refine (co_gaps_b _ _ (HV.out.keepT X1.out)).mono ?_
 rintro e w2 ⟨rfl, o1⟩
 have X2 := hID (X1.out.also o1)
 clear o1 X1
 clear c0 c1 c2 c3 c4 c5 c6
 obtain ⟨c0, c1, c2, c3, c4, c5, c6⟩ := GC.out _ X2.out
 go_wp2_with fail
 refine wp_loop_rounds 1 ?_
 rw [rounds_succ]
 clear c0 c1 c2 c3 c4 c5 c6
 obtain ⟨c0, c1, c2, c3, c4, c5, c6⟩ := GC.out _ X2.out
 go_wp2_with fail
 refine wp_loop_rounds 2 ?_
 rw [rounds_succ]
 clear c0 c1 c2 c3 c4 c5 c6
 obtain ⟨c0, c1, c2, c3, c4, c5, c6⟩ := GC.out _ X2.out
 go_wp2_with (at_builtin; refine @wpList_append_lies _ _ _ _ _ _ _ rfl _ _ 224 rfl w.heap.size 146 i_cl (.agg #[.int .u64 0, .int .u64 0, .int .u64 0, .int .u64 0]) 4 32 Tryz.underlying224 h_cl z_cl s_cl b_cl rfl (by decide) (.slice none 0 0) (0) ([]) rfl ((OwnL.nilAt X2.out 146 4).1.alloc _) ⟨w2.heap.size, 0, none⟩ 1 1 [.int .u64 0, .int .u64 25769803776, .int .u64 0, .int .u64 0] rfl rfl ?c1 (by decide) (by decide) (by decide) (by decide) (by have := (OwnL.nilAt X2.out 146 4).2.size; simp; omega) _ rfl ?_)
 case c1 => exact cell_lit _ [.int .u64 0, .int .u64 25769803776, .int .u64 0, .int .u64 0] _
 intro g3 cap3 w3 hown hgrow hat hlt
 have OW3 := hID ((OwnL.nilAt X2.out 146 4).grown (Off.alloc (Off.refl Nob w2) (.cells #[.int .u64 0, .int .u64 25769803776, .int .u64 0, .int .u64 0] 146)) hown hgrow)
 have X3 := hID OW3.out.2
 clear hown hgrow hat hlt X2
 clear c0 c1 c2 c3 c4 c5 c6
 obtain ⟨c0, c1, c2, c3, c4, c5, c6⟩ := GC.out _ X3.out
 go_wp2_with fail
 rw [rounds_succ]
 clear c0 c1 c2 c3 c4 c5 c6
 obtain ⟨c0, c1, c2, c3, c4, c5, c6⟩ := GC.out _ X3.out
 go_wp2_with fail
 go_ret2
 exact ⟨_, rfl, Rd.own OW3.out.1 (fun k hk => (OW3.out.1.lt k hk).1), OW3.out.2⟩
set_option maxHeartbeats 4000000 in
theorem co_lines_b (w : World) (v : Value) (hv : Rd w (fun _ => True) 7 v 1 pa_b) : Calls Tryz.prog 126 #[v] w (fun e w' => ∃ u v, e = .returned (.tuple #[u, .int .i64 0]) ∧ Rd w' (fun k => w.heap.size ≤ k) 1 u 1 [v] ∧ (∃ A c, v = .slice A 1 c) ∧ Rd w' (fun k => w.heap.size ≤ k) 4 v 1 se_b ∧ Off Nob w w') := by
 have HV0 := hID hv
 obtain ⟨b, o, c, rfl, hc⟩ := hv.cellsT (by decide)
 have HV := HV0
 have GC : Hid (∀ W, Off Nob w W → W.cell? ⟨b, o, none⟩ = some (.bool false) ∧ W.cell? ⟨b, o + 1, none⟩ = some (.int .u64 0) ∧ W.cell? ⟨b, o + 2, none⟩ = some (.int .u64 25769803776) ∧ W.cell? ⟨b, o + 3, none⟩ = some (.int .u64 0) ∧ W.cell? ⟨b, o + 4, none⟩ = some (.int .u64 0) ∧ W.cell? ⟨b, o + 5, none⟩ = some (.int .i64 0) ∧ W.cell? ⟨b, o + 6, none⟩ = some (.int .i64 0)) := hID (fun W ho => ⟨hc W ho 0 _ rfl, hc W ho 1 _ rfl, hc W ho 2 _ rfl, hc W ho 3 _ rfl, hc W ho 4 _ rfl, hc W ho 5 _ rfl, hc W ho 6 _ rfl⟩)
 clear hc hv HV0
 obtain ⟨i_line, h_line, z_line, s_line, b_line⟩ := info_parts Tryz.infoLn
 go_enter Tryz.func126, Tryz.ntmps126
 have X0 : Hid (Off Nob w w) := hID (Off.refl _ _)
 obtain ⟨c0, c1, c2, c3, c4, c5, c6⟩ := GC.out _ X0.out
 go_wp2_with fail
 refine (co_Choices_b _ _ HV.out).mono ?_
 rintro e w1 ⟨u1, A1, k1, rfl, hr, o1⟩
 have X1 := hID (X0.out.also o1)
 obtain ⟨hr, o1⟩ := id (And.intro hr o1)
 obtain ⟨b1, p1, cc, rfl, hd⟩ := hr.cellsT (by decide)
 have HD := hID hd
 clear hr hd
 clear o1 X0
 clear c0 c1 c2 c3 c4 c5 c6
 have d0 := HD.out _ (Off.refl _ _) 0 _ rfl
 simp only [Nat.add_zero] at d0
 obtain ⟨c0, c1, c2, c3, c4, c5, c6⟩ := GC.out _ X1.out
 go_wp2_with fail
 refine wp_loop_rounds 2 ?_
 rw [rounds_succ]
 clear c0 c1 c2 c3 c4 c5 c6
 obtain ⟨c0, c1, c2, c3, c4, c5, c6⟩ := GC.out _ X1.out
 go_wp2_with fail
 refine (co_line_b _ _ (HV.out.keepT X1.out) _ _).mono ?_
 rintro e w2 ⟨u2, rfl, hr, o1⟩
 have X2 := hID (X1.out.also o1)
 obtain ⟨hr, o1⟩ := id (And.intro hr o1)
 obtain ⟨A2, k2, rfl, _⟩ := hr.form
 have HS := hID (Rd.mono hr (G := fun k => w.heap.size ≤ k) (fun k hk => Nat.le_trans X1.out.size hk))
 clear hr d0
 clear o1 X1
 clear c0 c1 c2 c3 c4 c5 c6
 obtain ⟨c0, c1, c2, c3, c4, c5, c6⟩ := GC.out _ X2.out
 go_wp2_with (at_builtin; refine @wpList_append_lies _ _ _ _ _ _ _ rfl _ _ 201 rfl w.heap.size 224 i_line (.slice none 0 0) 1 24 Tryz.underlying201 h_line z_line s_line b_line rfl (by decide) (.slice none 0 0) (0) ([]) rfl ((OwnL.nilAt X2.out 224 1).1.alloc _) ⟨w2.heap.size, 0, none⟩ 1 1 [.slice A2 1 k2] rfl rfl ?c1 (by intro u hu; simp at hu; subst hu; rfl) (by decide) (by decide) (by decide) (by have := (OwnL.nilAt X2.out 224 1).2.size; simp; omega) _ rfl ?_)
 case c1 => exact cell_lit _ [.slice A2 1 k2] _
 intro g3 cap3 w3 hown hgrow hat hlt
 have HS' := hID (HS.out.keep (Off.grown (Off.alloc (Off.refl Nob w2) _) hgrow (fun k hk => by cases hk)) (fun _ _ h => h))
 have OW3 := hID ((OwnL.nilAt X2.out 224 1).grown (Off.alloc (Off.refl Nob w2) (.cells #[.slice A2 1 k2] 224)) hown hgrow)
 have X3 := hID OW3.out.2
 clear hown hgrow hat hlt X2
 clear c0 c1 c2 c3 c4 c5 c6
 obtain ⟨c0, c1, c2, c3, c4, c5, c6⟩ := GC.out _ X3.out
 go_wp2_with fail
 rw [rounds_succ]
 clear c0 c1 c2 c3 c4 c5 c6
 obtain ⟨c0, c1, c2, c3, c4, c5, c6⟩ := GC.out _ X3.out
 go_wp2_with fail
 go_ret2
 exact ⟨_, _, rfl, Rd.own OW3.out.1 (fun k hk => (OW3.out.1.lt k hk).1), ⟨_, _, rfl⟩, HS'.out, OW3.out.2⟩
set_option maxHeartbeats 4000000 in
theorem co_fit (w : World) (v va vb : Value) (hv : Rd w (fun _ => True) 1 v 2 [va, vb]) (ha : Rd w (fun _ => True) 7 va 2 pa_a) (hb : Rd w (fun _ => True) 7 vb 1 pa_b) : Calls Tryz.prog 125 #[v] w (RetV w (.tuple #[.int .i64 0, .int .i64 0])) := by
 have Ha := hID ha
 have Hb := hID hb
 obtain ⟨b, o, c, rfl, hc⟩ := hv.cellsT (by decide)
 have GC : Hid (∀ W, Off Nob w W → W.cell? ⟨b, o, none⟩ = some va ∧ W.cell? ⟨b, o + 1, none⟩ = some vb) := hID (fun W ho => ⟨hc W ho 0 _ rfl, hc W ho 1 _ rfl⟩)
 clear hc hv ha hb
 go_enter Tryz.func125, Tryz.ntmps125
 have X0 : Hid (Off Nob w w) := hID (Off.refl _ _)
 obtain ⟨c0, c1⟩ := GC.out _ X0.out
 go_wp2_with fail
 refine wp_loop_rounds 3 ?_
 rw [rounds_succ]
 clear c0 c1
 obtain ⟨c0, c1⟩ := GC.out _ X0.out
 go_wp2_with fail
 refine (co_positions_a _ _ Ha.out).mono ?_
 rintro e w1 ⟨rfl, o1⟩
 have X1 := hID (X0.out.also o1)
 clear o1 X0
 clear c0 c1
 obtain ⟨c0, c1⟩ := GC.out _ X1.out
 go_wp2_with fail
 rw [rounds_succ]
 clear c0 c1
 obtain ⟨c0, c1⟩ := GC.out _ X1.out
 go_wp2_with fail
 refine (co_positions_b _ _ (Hb.out.keepT X1.out)).mono ?_
 rintro e w2 ⟨rfl, o1⟩
 have X2 := hID (X1.out.also o1)
 clear o1 X1
 clear c0 c1
 obtain ⟨c0, c1⟩ := GC.out _ X2.out
 go_wp2_with fail
 rw [rounds_succ]
 clear c0 c1
 obtain ⟨c0, c1⟩ := GC.out _ X2.out
 go_wp2_with fail
 go_ret2
 exact ⟨rfl, X2.out⟩
end Go.Proofs.YtkflicifngohcaaGreatDoor

namespace Go.Proofs.YtkflicifngohcaaGreatDoor
open Go.RowKit
set_option maxRecDepth 100000
theorem Tryz.infoU64 : (Tryz.prog.info? 41).map (fun i => (i.zero, i.size, i.bytes)) = some (some (.int .u64 0), 1, 8) := by kernel_rfl
theorem made_u1 : (madeCells (Value.int .u64 0).cells (1 * 1)).toList = [.int .u64 0] := by
 rw [Nat.mul_one]
 show (madeCells #[.int .u64 0] 1).toList = _
 rw [toList_madeCells_one]
 rfl
set_option maxHeartbeats 2000000 in
theorem co_get_0_0 (w : World) (v : Value) (hv : Rd w (fun _ => True) 1 v 1 [.int .u64 0]) : Calls Tryz.prog 139 #[v, .int .i64 0] w (RetV w (.bool false)) := by
 have hb : bits .and .u64 0 1 = 0 := by decide
 obtain ⟨b, o, c, rfl, hc⟩ := hv.cellsT (by decide)
 have c0 := hc _ (Off.refl _ _) 0 _ rfl
 simp only [Nat.add_zero] at c0
 clear hc hv
 go_enter Tryz.func139, Tryz.ntmps139
 go_wp2_with fail
 go_ret
 exact ⟨rfl, Off.refl _ _⟩
set_option maxHeartbeats 2000000 in
theorem co_with_0_0 (w : World) (v : Value) (hv : Rd w (fun _ => True) 1 v 1 [.int .u64 0]) : Calls Tryz.prog 140 #[v, .int .i64 0, .bool true] w (fun e w' => ∃ v, e = .returned v ∧ Rd w' (fun k => w.heap.size ≤ k) 1 v 1 [.int .u64 1] ∧ Off Nob w w') := by
 have hb : bits .xor .u64 0 1 = 1 := by decide
 obtain ⟨i_u64, h_u64, z_u64, s_u64, b_u64⟩ := info_parts Tryz.infoU64
 have HV := hID hv
 obtain ⟨b, o, c, rfl, hc⟩ := hv.cellsT (by decide)
 have HV1 := HV
 have HC := hID hc
 clear hc hv HV
 go_enter Tryz.func140, Tryz.ntmps140
 go_wp2_with (at_builtin; refine @wpList_append_lies _ _ _ _ _ _ _ rfl _ _ 23 rfl w.heap.size 41 i_u64 (.int .u64 0) 1 8 Tryz.underlying23 h_u64 z_u64 s_u64 b_u64 rfl (by decide) (.slice (some ⟨w.heap.size, 0, none⟩) 0 0) 0 [] rfl (World.ownsRow_made w #[] 0 (Nat.le_refl _) (by decide) rfl) ⟨b, o, none⟩ 1 c [.int .u64 0] rfl rfl ?c1 (by decide) (by decide) (by decide) (by decide) (Off.alloc (Off.refl Nob w) (.cells #[] 41)).size _ rfl ?_)
 case c1 => intro j u hj; rw [add_addr]; exact HC.out _ (Off.alloc (Off.refl _ _) _) j u hj
 intro g cap w1 hown hgrow hat hlt
 have OW1 : Hid (OwnL w w1 41 1 (.slice (some ⟨g, 0, none⟩) (0 + 1) cap) (0 + 1) ([] ++ [.int .u64 0])) := hID ⟨hown, Off.grown (Off.alloc (Off.refl _ _) _) hgrow (fun k hk => by simp [Value.ownBlock] at hk; right; omega)⟩
 clear hown hgrow hat hlt
 go_wp2_with fail
 refine (co_get_0_0 _ _ (HV1.out.keepT OW1.out.2)).mono ?_
 rintro e w2 ⟨rfl, o1⟩
 have OW2 := hID (OW1.out.off o1)
 clear o1 OW1
 have c0 := OW2.out.1.cellAt 0 (by decide)
 have f0 := OW2.out.1.frozenAt 0
 replace c0 : w2.cell? ⟨g, 0, none⟩ = some (.int .u64 0) := c0
 have OW3 : Hid (OwnL w (w2.setCell ⟨g, 0, none⟩ (.int .u64 1)) 41 1 (.slice (some ⟨g, 0, none⟩) 1 cap) 1 [.int .u64 1]) := hID ⟨(OW2.out.1.stored 0 (.int .u64 1)).1, OW2.out.2.put (.inr (OW2.out.1.lt g rfl).1) _⟩
 clear OW2
 go_wp2_with fail
 go_ret
 exact ⟨_, rfl, Rd.own OW3.out.1 (fun k hk => (OW3.out.1.lt k hk).1), OW3.out.2⟩
set_option maxHeartbeats 2000000 in
theorem co_get_1_2 (w : World) (v : Value) (hv : Rd w (fun _ => True) 1 v 1 [.int .u64 1]) : Calls Tryz.prog 139 #[v, .int .i64 2] w (RetV w (.bool false)) := by
 have hb : bits .and .u64 0 1 = 0 := by decide
 obtain ⟨b, o, c, rfl, hc⟩ := hv.cellsT (by decide)
 have c0 := hc _ (Off.refl _ _) 0 _ rfl
 simp only [Nat.add_zero] at c0
 clear hc hv
 go_enter Tryz.func139, Tryz.ntmps139
 go_wp2_with fail
 go_ret
 exact ⟨rfl, Off.refl _ _⟩
set_option maxHeartbeats 2000000 in
theorem co_with_1_2 (w : World) (v : Value) (hv : Rd w (fun _ => True) 1 v 1 [.int .u64 1]) : Calls Tryz.prog 140 #[v, .int .i64 2, .bool true] w (fun e w' => ∃ v, e = .returned v ∧ Rd w' (fun k => w.heap.size ≤ k) 1 v 1 [.int .u64 5] ∧ Off Nob w w') := by
 have hb : bits .xor .u64 1 4 = 5 := by decide
 obtain ⟨i_u64, h_u64, z_u64, s_u64, b_u64⟩ := info_parts Tryz.infoU64
 have HV := hID hv
 obtain ⟨b, o, c, rfl, hc⟩ := hv.cellsT (by decide)
 have HV1 := HV
 have HC := hID hc
 clear hc hv HV
 go_enter Tryz.func140, Tryz.ntmps140
 go_wp2_with (at_builtin; refine @wpList_append_lies _ _ _ _ _ _ _ rfl _ _ 23 rfl w.heap.size 41 i_u64 (.int .u64 0) 1 8 Tryz.underlying23 h_u64 z_u64 s_u64 b_u64 rfl (by decide) (.slice (some ⟨w.heap.size, 0, none⟩) 0 0) 0 [] rfl (World.ownsRow_made w #[] 0 (Nat.le_refl _) (by decide) rfl) ⟨b, o, none⟩ 1 c [.int .u64 1] rfl rfl ?c1 (by decide) (by decide) (by decide) (by decide) (Off.alloc (Off.refl Nob w) (.cells #[] 41)).size _ rfl ?_)
 case c1 => intro j u hj; rw [add_addr]; exact HC.out _ (Off.alloc (Off.refl _ _) _) j u hj
 intro g cap w1 hown hgrow hat hlt
 have OW1 : Hid (OwnL w w1 41 1 (.slice (some ⟨g, 0, none⟩) (0 + 1) cap) (0 + 1) ([] ++ [.int .u64 1])) := hID ⟨hown, Off.grown (Off.alloc (Off.refl _ _) _) hgrow (fun k hk => by simp [Value.ownBlock] at hk; right; omega)⟩
 clear hown hgrow hat hlt
 go_wp2_with fail
 refine (co_get_1_2 _ _ (HV1.out.keepT OW1.out.2)).mono ?_
 rintro e w2 ⟨rfl, o1⟩
 have OW2 := hID (OW1.out.off o1)
 clear o1 OW1
 have c0 := OW2.out.1.cellAt 0 (by decide)
 have f0 := OW2.out.1.frozenAt 0
 replace c0 : w2.cell? ⟨g, 0, none⟩ = some (.int .u64 1) := c0
 have OW3 : Hid (OwnL w (w2.setCell ⟨g, 0, none⟩ (.int .u64 5)) 41 1 (.slice (some ⟨g, 0, none⟩) 1 cap) 1 [.int .u64 5]) := hID ⟨(OW2.out.1.stored 0 (.int .u64 5)).1, OW2.out.2.put (.inr (OW2.out.1.lt g rfl).1) _⟩
 clear OW2
 go_wp2_with fail
 go_ret
 exact ⟨_, rfl, Rd.own OW3.out.1 (fun k hk => (OW3.out.1.lt k hk).1), OW3.out.2⟩
set_option maxHeartbeats 2000000 in
theorem co_get_0_1 (w : World) (v : Value) (hv : Rd w (fun _ => True) 1 v 1 [.int .u64 0]) : Calls Tryz.prog 139 #[v, .int .i64 1] w (RetV w (.bool false)) := by
 have hb : bits .and .u64 0 1 = 0 := by decide
 obtain ⟨b, o, c, rfl, hc⟩ := hv.cellsT (by decide)
 have c0 := hc _ (Off.refl _ _) 0 _ rfl
 simp only [Nat.add_zero] at c0
 clear hc hv
 go_enter Tryz.func139, Tryz.ntmps139
 go_wp2_with fail
 go_ret
 exact ⟨rfl, Off.refl _ _⟩
set_option maxHeartbeats 2000000 in
theorem co_with_0_1 (w : World) (v : Value) (hv : Rd w (fun _ => True) 1 v 1 [.int .u64 0]) : Calls Tryz.prog 140 #[v, .int .i64 1, .bool true] w (fun e w' => ∃ v, e = .returned v ∧ Rd w' (fun k => w.heap.size ≤ k) 1 v 1 [.int .u64 2] ∧ Off Nob w w') := by
 have hb : bits .xor .u64 0 2 = 2 := by decide
 obtain ⟨i_u64, h_u64, z_u64, s_u64, b_u64⟩ := info_parts Tryz.infoU64
 have HV := hID hv
 obtain ⟨b, o, c, rfl, hc⟩ := hv.cellsT (by decide)
 have HV1 := HV
 have HC := hID hc
 clear hc hv HV
 go_enter Tryz.func140, Tryz.ntmps140
 go_wp2_with (at_builtin; refine @wpList_append_lies _ _ _ _ _ _ _ rfl _ _ 23 rfl w.heap.size 41 i_u64 (.int .u64 0) 1 8 Tryz.underlying23 h_u64 z_u64 s_u64 b_u64 rfl (by decide) (.slice (some ⟨w.heap.size, 0, none⟩) 0 0) 0 [] rfl (World.ownsRow_made w #[] 0 (Nat.le_refl _) (by decide) rfl) ⟨b, o, none⟩ 1 c [.int .u64 0] rfl rfl ?c1 (by decide) (by decide) (by decide) (by decide) (Off.alloc (Off.refl Nob w) (.cells #[] 41)).size _ rfl ?_)
 case c1 => intro j u hj; rw [add_addr]; exact HC.out _ (Off.alloc (Off.refl _ _) _) j u hj
 intro g cap w1 hown hgrow hat hlt
 have OW1 : Hid (OwnL w w1 41 1 (.slice (some ⟨g, 0, none⟩) (0 + 1) cap) (0 + 1) ([] ++ [.int .u64 0])) := hID ⟨hown, Off.grown (Off.alloc (Off.refl _ _) _) hgrow (fun k hk => by simp [Value.ownBlock] at hk; right; omega)⟩
 clear hown hgrow hat hlt
 go_wp2_with fail
 refine (co_get_0_1 _ _ (HV1.out.keepT OW1.out.2)).mono ?_
 rintro e w2 ⟨rfl, o1⟩
 have OW2 := hID (OW1.out.off o1)
 clear o1 OW1
 have c0 := OW2.out.1.cellAt 0 (by decide)
 have f0 := OW2.out.1.frozenAt 0
 replace c0 : w2.cell? ⟨g, 0, none⟩ = some (.int .u64 0) := c0
 have OW3 : Hid (OwnL w (w2.setCell ⟨g, 0, none⟩ (.int .u64 2)) 41 1 (.slice (some ⟨g, 0, none⟩) 1 cap) 1 [.int .u64 2]) := hID ⟨(OW2.out.1.stored 0 (.int .u64 2)).1, OW2.out.2.put (.inr (OW2.out.1.lt g rfl).1) _⟩
 clear OW2
 go_wp2_with fail
 go_ret
 exact ⟨_, rfl, Rd.own OW3.out.1 (fun k hk => (OW3.out.1.lt k hk).1), OW3.out.2⟩
set_option maxHeartbeats 2000000 in
theorem co_get_0_2 (w : World) (v : Value) (hv : Rd w (fun _ => True) 1 v 1 [.int .u64 0]) : Calls Tryz.prog 139 #[v, .int .i64 2] w (RetV w (.bool false)) := by
 have hb : bits .and .u64 0 1 = 0 := by decide
 obtain ⟨b, o, c, rfl, hc⟩ := hv.cellsT (by decide)
 have c0 := hc _ (Off.refl _ _) 0 _ rfl
 simp only [Nat.add_zero] at c0
 clear hc hv
 go_enter Tryz.func139, Tryz.ntmps139
 go_wp2_with fail
 go_ret
 exact ⟨rfl, Off.refl _ _⟩
set_option maxHeartbeats 2000000 in
theorem co_with_0_2 (w : World) (v : Value) (hv : Rd w (fun _ => True) 1 v 1 [.int .u64 0]) : Calls Tryz.prog 140 #[v, .int .i64 2, .bool true] w (fun e w' => ∃ v, e = .returned v ∧ Rd w' (fun k => w.heap.size ≤ k) 1 v 1 [.int .u64 4] ∧ Off Nob w w') := by
 have hb : bits .xor .u64 0 4 = 4 := by decide
 obtain ⟨i_u64, h_u64, z_u64, s_u64, b_u64⟩ := info_parts Tryz.infoU64
 have HV := hID hv
 obtain ⟨b, o, c, rfl, hc⟩ := hv.cellsT (by decide)
 have HV1 := HV
 have HC := hID hc
 clear hc hv HV
 go_enter Tryz.func140, Tryz.ntmps140
 go_wp2_with (at_builtin; refine @wpList_append_lies _ _ _ _ _ _ _ rfl _ _ 23 rfl w.heap.size 41 i_u64 (.int .u64 0) 1 8 Tryz.underlying23 h_u64 z_u64 s_u64 b_u64 rfl (by decide) (.slice (some ⟨w.heap.size, 0, none⟩) 0 0) 0 [] rfl (World.ownsRow_made w #[] 0 (Nat.le_refl _) (by decide) rfl) ⟨b, o, none⟩ 1 c [.int .u64 0] rfl rfl ?c1 (by decide) (by decide) (by decide) (by decide) (Off.alloc (Off.refl Nob w) (.cells #[] 41)).size _ rfl ?_)
 case c1 => intro j u hj; rw [add_addr]; exact HC.out _ (Off.alloc (Off.refl _ _) _) j u hj
 intro g cap w1 hown hgrow hat hlt
 have OW1 : Hid (OwnL w w1 41 1 (.slice (some ⟨g, 0, none⟩) (0 + 1) cap) (0 + 1) ([] ++ [.int .u64 0])) := hID ⟨hown, Off.grown (Off.alloc (Off.refl _ _) _) hgrow (fun k hk => by simp [Value.ownBlock] at hk; right; omega)⟩
 clear hown hgrow hat hlt
 go_wp2_with fail
 refine (co_get_0_2 _ _ (HV1.out.keepT OW1.out.2)).mono ?_
 rintro e w2 ⟨rfl, o1⟩
 have OW2 := hID (OW1.out.off o1)
 clear o1 OW1
 have c0 := OW2.out.1.cellAt 0 (by decide)
 have f0 := OW2.out.1.frozenAt 0
 replace c0 : w2.cell? ⟨g, 0, none⟩ = some (.int .u64 0) := c0
 have OW3 : Hid (OwnL w (w2.setCell ⟨g, 0, none⟩ (.int .u64 4)) 41 1 (.slice (some ⟨g, 0, none⟩) 1 cap) 1 [.int .u64 4]) := hID ⟨(OW2.out.1.stored 0 (.int .u64 4)).1, OW2.out.2.put (.inr (OW2.out.1.lt g rfl).1) _⟩
 clear OW2
 go_wp2_with fail
 go_ret
 exact ⟨_, rfl, Rd.own OW3.out.1 (fun k hk => (OW3.out.1.lt k hk).1), OW3.out.2⟩
set_option maxHeartbeats 2000000 in
theorem co_get_2_2 (w : World) (v : Value) (hv : Rd w (fun _ => True) 1 v 1 [.int .u64 2]) : Calls Tryz.prog 139 #[v, .int .i64 2] w (RetV w (.bool false)) := by
 have hb : bits .and .u64 0 1 = 0 := by decide
 obtain ⟨b, o, c, rfl, hc⟩ := hv.cellsT (by decide)
 have c0 := hc _ (Off.refl _ _) 0 _ rfl
 simp only [Nat.add_zero] at c0
 clear hc hv
 go_enter Tryz.func139, Tryz.ntmps139
 go_wp2_with fail
 go_ret
 exact ⟨rfl, Off.refl _ _⟩
set_option maxHeartbeats 2000000 in
theorem co_with_2_2 (w : World) (v : Value) (hv : Rd w (fun _ => True) 1 v 1 [.int .u64 2]) : Calls Tryz.prog 140 #[v, .int .i64 2, .bool true] w (fun e w' => ∃ v, e = .returned v ∧ Rd w' (fun k => w.heap.size ≤ k) 1 v 1 [.int .u64 6] ∧ Off Nob w w') := by
 have hb : bits .xor .u64 2 4 = 6 := by decide
 obtain ⟨i_u64, h_u64, z_u64, s_u64, b_u64⟩ := info_parts Tryz.infoU64
 have HV := hID hv
 obtain ⟨b, o, c, rfl, hc⟩ := hv.cellsT (by decide)
 have HV1 := HV
 have HC := hID hc
 clear hc hv HV
 go_enter Tryz.func140, Tryz.ntmps140
 go_wp2_with (at_builtin; refine @wpList_append_lies _ _ _ _ _ _ _ rfl _ _ 23 rfl w.heap.size 41 i_u64 (.int .u64 0) 1 8 Tryz.underlying23 h_u64 z_u64 s_u64 b_u64 rfl (by decide) (.slice (some ⟨w.heap.size, 0, none⟩) 0 0) 0 [] rfl (World.ownsRow_made w #[] 0 (Nat.le_refl _) (by decide) rfl) ⟨b, o, none⟩ 1 c [.int .u64 2] rfl rfl ?c1 (by decide) (by decide) (by decide) (by decide) (Off.alloc (Off.refl Nob w) (.cells #[] 41)).size _ rfl ?_)
 case c1 => intro j u hj; rw [add_addr]; exact HC.out _ (Off.alloc (Off.refl _ _) _) j u hj
 intro g cap w1 hown hgrow hat hlt
 have OW1 : Hid (OwnL w w1 41 1 (.slice (some ⟨g, 0, none⟩) (0 + 1) cap) (0 + 1) ([] ++ [.int .u64 2])) := hID ⟨hown, Off.grown (Off.alloc (Off.refl _ _) _) hgrow (fun k hk => by simp [Value.ownBlock] at hk; right; omega)⟩
 clear hown hgrow hat hlt
 go_wp2_with fail
 refine (co_get_2_2 _ _ (HV1.out.keepT OW1.out.2)).mono ?_
 rintro e w2 ⟨rfl, o1⟩
 have OW2 := hID (OW1.out.off o1)
 clear o1 OW1
 have c0 := OW2.out.1.cellAt 0 (by decide)
 have f0 := OW2.out.1.frozenAt 0
 replace c0 : w2.cell? ⟨g, 0, none⟩ = some (.int .u64 2) := c0
 have OW3 : Hid (OwnL w (w2.setCell ⟨g, 0, none⟩ (.int .u64 6)) 41 1 (.slice (some ⟨g, 0, none⟩) 1 cap) 1 [.int .u64 6]) := hID ⟨(OW2.out.1.stored 0 (.int .u64 6)).1, OW2.out.2.put (.inr (OW2.out.1.lt g rfl).1) _⟩
 clear OW2
 go_wp2_with fail
 go_ret
 exact ⟨_, rfl, Rd.own OW3.out.1 (fun k hk => (OW3.out.1.lt k hk).1), OW3.out.2⟩
set_option maxHeartbeats 4000000 in
theorem co_rof_02 (w : World) (v : Value) (hv : Rd w (fun _ => True) 1 v 2 [.int .i64 0, .int .i64 2]) : Calls Tryz.prog 142 #[.int .i64 1, v] w (fun e w' => ∃ u, e = .returned (.tuple #[u, .int .i64 0]) ∧ Rd w' (fun k => w.heap.size ≤ k) 1 u 1 [.int .u64 5] ∧ Off Nob w w') := by
 obtain ⟨i_u64, h_u64, z_u64, s_u64, b_u64⟩ := info_parts Tryz.infoU64
 obtain ⟨b, o, c, rfl, hc⟩ := hv.cellsT (by decide)
 have GC : Hid (∀ W, Off Nob w W → W.cell? ⟨b, o, none⟩ = some (.int .i64 0) ∧ W.cell? ⟨b, o + 1, none⟩ = some (.int .i64 2)) := hID (fun W ho => ⟨hc W ho 0 _ rfl, hc W ho 1 _ rfl⟩)
 clear hc hv
 go_enter Tryz.func142, Tryz.ntmps142
 have X0 : Hid (Off Nob w w) := hID (Off.refl _ _)
 have X0' := X0
 clear X0'
 go_wp2_with (at_make; refine wpList_make_full _ rfl _ _ 23 rfl w.heap.size 41 i_u64 (.int .u64 0) 1 Tryz.underlying23 h_u64 z_u64 s_u64 .i64 .i64 _ _ 1 rfl rfl rfl rfl (by rw [b_u64]; decide) (by decide) (Nat.le_refl _) ?_; intro w1 hown hgrow)
 rw [made_u1] at hown
 have HR1 : Hid (Rd w1 (fun k => w.heap.size ≤ k) 1 (.slice (some ⟨w.heap.size, 0, none⟩) 1 1) 1 [.int .u64 0]) := hID (Rd.own hown (fun k hk => (hown.lt k hk).1))
 have X1 : Hid (Off Nob w w1) := hID (Off.grown (Off.refl _ _) hgrow (fun k hk => by cases hk))
 clear hown hgrow X0
 go_wp2_with fail
 refine wp_loop_rounds 3 ?_
 rw [rounds_succ]
 obtain ⟨c0, c1⟩ := GC.out _ X1.out
 go_wp2_with fail
 refine (co_with_0_0 _ _ HR1.out.any).mono ?_
 rintro e w2 ⟨v0, rfl, hr, o1⟩
 have X2 := hID (X1.out.also o1)
 obtain ⟨hr, o1⟩ := id (And.intro hr o1)
 obtain ⟨A0, k0, rfl, _⟩ := hr.form
 have HR2 := hID (Rd.mono hr (G := fun k => w.heap.size ≤ k) (fun k hk => Nat.le_trans X1.out.size hk))
 clear hr HR1
 clear o1 X1
 clear c0 c1
 obtain ⟨c0, c1⟩ := GC.out _ X2.out
 go_wp2_with fail
 rw [rounds_succ]
 clear c0 c1
 obtain ⟨c0, c1⟩ := GC.out _ X2.out
 go_wp2_with fail
 refine (co_with_1_2 _ _ HR2.out.any).mono ?_
 rintro e w3 ⟨v1, rfl, hr, o1⟩
 have X3 := hID (X2.out.also o1)
 obtain ⟨hr, o1⟩ := id (And.intro hr o1)
 obtain ⟨A1, k1, rfl, _⟩ := hr.form
 have HR3 := hID (Rd.mono hr (G := fun k => w.heap.size ≤ k) (fun k hk => Nat.le_trans X2.out.size hk))
 clear hr HR2
 clear o1 X2
 clear c0 c1
 obtain ⟨c0, c1⟩ := GC.out _ X3.out
 go_wp2_with fail
 rw [rounds_succ]
 clear c0 c1
 obtain ⟨c0, c1⟩ := GC.out _ X3.out
 go_wp2_with fail
 go_ret2
 exact ⟨_, rfl, HR3.out, X3.out⟩
set_option maxHeartbeats 4000000 in
theorem co_rof_1 (w : World) (v : Value) (hv : Rd w (fun _ => True) 1 v 1 [.int .i64 1]) : Calls Tryz.prog 142 #[.int .i64 1, v] w (fun e w' => ∃ u, e = .returned (.tuple #[u, .int .i64 0]) ∧ Rd w' (fun k => w.heap.size ≤ k) 1 u 1 [.int .u64 2] ∧ Off Nob w w') := by
 obtain ⟨i_u64, h_u64, z_u64, s_u64, b_u64⟩ := info_parts Tryz.infoU64
 obtain ⟨b, o, c, rfl, hc⟩ := hv.cellsT (by decide)
 have GC : Hid (∀ W, Off Nob w W → W.cell? ⟨b, o, none⟩ = some (.int .i64 1)) := hID (fun W ho => hc W ho 0 _ rfl)
 clear hc hv
 go_enter Tryz.func142, Tryz.ntmps142
 have X0 : Hid (Off Nob w w) := hID (Off.refl _ _)
 have X0' := X0
 clear X0'
 go_wp2_with (at_make; refine wpList_make_full _ rfl _ _ 23 rfl w.heap.size 41 i_u64 (.int .u64 0) 1 Tryz.underlying23 h_u64 z_u64 s_u64 .i64 .i64 _ _ 1 rfl rfl rfl rfl (by rw [b_u64]; decide) (by decide) (Nat.le_refl _) ?_; intro w1 hown hgrow)
 rw [made_u1] at hown
 have HR1 : Hid (Rd w1 (fun k => w.heap.size ≤ k) 1 (.slice (some ⟨w.heap.size, 0, none⟩) 1 1) 1 [.int .u64 0]) := hID (Rd.own hown (fun k hk => (hown.lt k hk).1))
 have X1 : Hid (Off Nob w w1) := hID (Off.grown (Off.refl _ _) hgrow (fun k hk => by cases hk))
 clear hown hgrow X0
 go_wp2_with fail
 refine wp_loop_rounds 2 ?_
 rw [rounds_succ]
 have c0 := GC.out _ X1.out
 go_wp2_with fail
 refine (co_with_0_1 _ _ HR1.out.any).mono ?_
 rintro e w2 ⟨v0, rfl, hr, o1⟩
 have X2 := hID (X1.out.also o1)
 obtain ⟨hr, o1⟩ := id (And.intro hr o1)
 obtain ⟨A0, k0, rfl, _⟩ := hr.form
 have HR2 := hID (Rd.mono hr (G := fun k => w.heap.size ≤ k) (fun k hk => Nat.le_trans X1.out.size hk))
 clear hr HR1
 clear o1 X1
 clear c0
 have c0 := GC.out _ X2.out
 go_wp2_with fail
 rw [rounds_succ]
 clear c0
 have c0 := GC.out _ X2.out
 go_wp2_with fail
 go_ret2
 exact ⟨_, rfl, HR2.out, X2.out⟩
set_option maxHeartbeats 4000000 in
theorem co_rof_2 (w : World) (v : Value) (hv : Rd w (fun _ => True) 1 v 1 [.int .i64 2]) : Calls Tryz.prog 142 #[.int .i64 1, v] w (fun e w' => ∃ u, e = .returned (.tuple #[u, .int .i64 0]) ∧ Rd w' (fun k => w.heap.size ≤ k) 1 u 1 [.int .u64 4] ∧ Off Nob w w') := by
 obtain ⟨i_u64, h_u64, z_u64, s_u64, b_u64⟩ := info_parts Tryz.infoU64
 obtain ⟨b, o, c, rfl, hc⟩ := hv.cellsT (by decide)
 have GC : Hid (∀ W, Off Nob w W → W.cell? ⟨b, o, none⟩ = some (.int .i64 2)) := hID (fun W ho => hc W ho 0 _ rfl)
 clear hc hv
 go_enter Tryz.func142, Tryz.ntmps142
 have X0 : Hid (Off Nob w w) := hID (Off.refl _ _)
 have X0' := X0
 clear X0'
 go_wp2_with (at_make; refine wpList_make_full _ rfl _ _ 23 rfl w.heap.size 41 i_u64 (.int .u64 0) 1 Tryz.underlying23 h_u64 z_u64 s_u64 .i64 .i64 _ _ 1 rfl rfl rfl rfl (by rw [b_u64]; decide) (by decide) (Nat.le_refl _) ?_; intro w1 hown hgrow)
 rw [made_u1] at hown
 have HR1 : Hid (Rd w1 (fun k => w.heap.size ≤ k) 1 (.slice (some ⟨w.heap.size, 0, none⟩) 1 1) 1 [.int .u64 0]) := hID (Rd.own hown (fun k hk => (hown.lt k hk).1))
 have X1 : Hid (Off Nob w w1) := hID (Off.grown (Off.refl _ _) hgrow (fun k hk => by cases hk))
 clear hown hgrow X0
 go_wp2_with fail
 refine wp_loop_rounds 2 ?_
 rw [rounds_succ]
 have c0 := GC.out _ X1.out
 go_wp2_with fail
 refine (co_with_0_2 _ _ HR1.out.any).mono ?_
 rintro e w2 ⟨v0, rfl, hr, o1⟩
 have X2 := hID (X1.out.also o1)
 obtain ⟨hr, o1⟩ := id (And.intro hr o1)
 obtain ⟨A0, k0, rfl, _⟩ := hr.form
 have HR2 := hID (Rd.mono hr (G := fun k => w.heap.size ≤ k) (fun k hk => Nat.le_trans X1.out.size hk))
 clear hr HR1
 clear o1 X1
 clear c0
 have c0 := GC.out _ X2.out
 go_wp2_with fail
 rw [rounds_succ]
 clear c0
 have c0 := GC.out _ X2.out
 go_wp2_with fail
 go_ret2
 exact ⟨_, rfl, HR2.out, X2.out⟩
set_option maxHeartbeats 4000000 in
theorem co_rof_12 (w : World) (v : Value) (hv : Rd w (fun _ => True) 1 v 2 [.int .i64 1, .int .i64 2]) : Calls Tryz.prog 142 #[.int .i64 1, v] w (fun e w' => ∃ u, e = .returned (.tuple #[u, .int .i64 0]) ∧ Rd w' (fun k => w.heap.size ≤ k) 1 u 1 [.int .u64 6] ∧ Off Nob w w') := by
 obtain ⟨i_u64, h_u64, z_u64, s_u64, b_u64⟩ := info_parts Tryz.infoU64
 obtain ⟨b, o, c, rfl, hc⟩ := hv.cellsT (by decide)
 have GC : Hid (∀ W, Off Nob w W → W.cell? ⟨b, o, none⟩ = some (.int .i64 1) ∧ W.cell? ⟨b, o + 1, none⟩ = some (.int .i64 2)) := hID (fun W ho => ⟨hc W ho 0 _ rfl, hc W ho 1 _ rfl⟩)
 clear hc hv
 go_enter Tryz.func142, Tryz.ntmps142
 have X0 : Hid (Off Nob w w) := hID (Off.refl _ _)
 have X0' := X0
 clear X0'
 go_wp2_with (at_make; refine wpList_make_full _ rfl _ _ 23 rfl w.heap.size 41 i_u64 (.int .u64 0) 1 Tryz.underlying23 h_u64 z_u64 s_u64 .i64 .i64 _ _ 1 rfl rfl rfl rfl (by rw [b_u64]; decide) (by decide) (Nat.le_refl _) ?_; intro w1 hown hgrow)
 rw [made_u1] at hown
 have HR1 : Hid (Rd w1 (fun k => w.heap.size ≤ k) 1 (.slice (some ⟨w.heap.size, 0, none⟩) 1 1) 1 [.int .u64 0]) := hID (Rd.own hown (fun k hk => (hown.lt k hk).1))
 have X1 : Hid (Off Nob w w1) := hID (Off.grown (Off.refl _ _) hgrow (fun k hk => by cases hk))
 clear hown hgrow X0
 go_wp2_with fail
 refine wp_loop_rounds 3 ?_
 rw [rounds_succ]
 obtain ⟨c0, c1⟩ := GC.out _ X1.out
 go_wp2_with fail
 refine (co_with_0_1 _ _ HR1.out.any).mono ?_
 rintro e w2 ⟨v0, rfl, hr, o1⟩
 have X2 := hID (X1.out.also o1)
 obtain ⟨hr, o1⟩ := id (And.intro hr o1)
 obtain ⟨A0, k0, rfl, _⟩ := hr.form
 have HR2 := hID (Rd.mono hr (G := fun k => w.heap.size ≤ k) (fun k hk => Nat.le_trans X1.out.size hk))
 clear hr HR1
 clear o1 X1
 clear c0 c1
 obtain ⟨c0, c1⟩ := GC.out _ X2.out
 go_wp2_with fail
 rw [rounds_succ]
 clear c0 c1
 obtain ⟨c0, c1⟩ := GC.out _ X2.out
 go_wp2_with fail
 refine (co_with_2_2 _ _ HR2.out.any).mono ?_
 rintro e w3 ⟨v1, rfl, hr, o1⟩
 have X3 := hID (X2.out.also o1)
 obtain ⟨hr, o1⟩ := id (And.intro hr o1)
 obtain ⟨A1, k1, rfl, _⟩ := hr.form
 have HR3 := hID (Rd.mono hr (G := fun k => w.heap.size ≤ k) (fun k hk => Nat.le_trans X2.out.size hk))
 clear hr HR2
 clear o1 X2
 clear c0 c1
 obtain ⟨c0, c1⟩ := GC.out _ X3.out
 go_wp2_with fail
 rw [rounds_succ]
 clear c0 c1
 obtain ⟨c0, c1⟩ := GC.out _ X3.out
 go_wp2_with fail
 go_ret2
 exact ⟨_, rfl, HR3.out, X3.out⟩
set_option maxHeartbeats 4000000 in
theorem co_rof_no (w : World) (v : Value) (hv : Rd w (fun _ => True) 1 v 0 []) : Calls Tryz.prog 142 #[.int .i64 1, v] w (fun e w' => ∃ u, e = .returned (.tuple #[u, .int .i64 0]) ∧ Rd w' (fun k => w.heap.size ≤ k) 1 u 1 [.int .u64 0] ∧ Off Nob w w') := by
 obtain ⟨i_u64, h_u64, z_u64, s_u64, b_u64⟩ := info_parts Tryz.infoU64
 obtain ⟨AA, cc, rfl, _⟩ := hv.form
 have hc := True.intro
 clear hc hv
 go_enter Tryz.func142, Tryz.ntmps142
 have X0 : Hid (Off Nob w w) := hID (Off.refl _ _)
 have X0' := X0
 clear X0'
 go_wp2_with (at_make; refine wpList_make_full _ rfl _ _ 23 rfl w.heap.size 41 i_u64 (.int .u64 0) 1 Tryz.underlying23 h_u64 z_u64 s_u64 .i64 .i64 _ _ 1 rfl rfl rfl rfl (by rw [b_u64]; decide) (by decide) (Nat.le_refl _) ?_; intro w1 hown hgrow)
 rw [made_u1] at hown
 have HR1 : Hid (Rd w1 (fun k => w.heap.size ≤ k) 1 (.slice (some ⟨w.heap.size, 0, none⟩) 1 1) 1 [.int .u64 0]) := hID (Rd.own hown (fun k hk => (hown.lt k hk).1))
 have X1 : Hid (Off Nob w w1) := hID (Off.grown (Off.refl _ _) hgrow (fun k hk => by cases hk))
 clear hown hgrow X0
 go_wp2_with fail
 refine wp_loop_rounds 1 ?_
 rw [rounds_succ]
 go_wp2_with fail
 go_ret2
 exact ⟨_, rfl, HR1.out, X1.out⟩
end Go.Proofs.YtkflicifngohcaaGreatDoor
