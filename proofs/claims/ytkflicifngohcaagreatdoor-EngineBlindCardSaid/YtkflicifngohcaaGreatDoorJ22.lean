/-
  dragnetref15 at the patterns of the example.
-/
import Derived.Test.YtkflicifngohcaaGreatDoorJ21
namespace Go.Proofs.YtkflicifngohcaaGreatDoor
open Go.RowKit
set_option linter.unusedVariables false
set_option linter.unusedSimpArgs false
set_option maxRecDepth 100000
theorem Tryz.infoIs : (Tryz.prog.info? 22).map (fun i => (i.zero, i.size, i.bytes)) = some (some (.slice none 0 0), 1, 24) := by kernel_rfl
theorem Tryz.infoCl4 : (Tryz.prog.info? 146).map (fun i => (i.zero, i.size, i.bytes)) = some (some (.agg #[.int .u64 0, .int .u64 0, .int .u64 0, .int .u64 0]), 4, 32) := by kernel_rfl
theorem Tryz.infoLn : (Tryz.prog.info? 224).map (fun i => (i.zero, i.size, i.bytes)) = some (some (.slice none 0 0), 1, 24) := by kernel_rfl
def se_a : List Value := [.int .u64 0, .int .u64 8589934592, .int .u64 0, .int .u64 0, .int .u64 0, .int .u64 17179869184, .int .u64 0, .int .u64 0]
def se_b : List Value := [.int .u64 0, .int .u64 25769803776, .int .u64 0, .int .u64 0]
theorem co_sum0 (w : World) (A : Option Addr) (c : Nat) : Calls Tryz.prog 164 #[.slice A 0 c] w (RetV w (.int .i64 0)) := by
  go_enter Tryz.func164, Tryz.ntmps164
  go_wp2_with fail
  refine wp_loop_rounds 1 ?_
  rw [rounds_succ]
  go_wp2_with fail
  go_ret
  exact ⟨rfl, Off.refl _ _⟩
set_option maxHeartbeats 4000000 in
theorem co_gaps_a (w : World) (v : Value) (hv : Rd w (fun _ => True) 7 v 2 pa_a) : Calls Tryz.prog 162 #[v] w (RetV w (.slice none 0 0)) := by
  have HV0 := Lib.hid hv
  obtain ⟨b, o, c, rfl, hc⟩ := hv.cellsT (by decide)
  have HV := HV0
  have GC : Hid (∀ W, Off Nob w W → W.cell? ⟨b, o, none⟩ = some (.bool false) ∧ W.cell? ⟨b, o + 1, none⟩ = some (.int .u64 0) ∧ W.cell? ⟨b, o + 2, none⟩ = some (.int .u64 8589934592) ∧ W.cell? ⟨b, o + 3, none⟩ = some (.int .u64 0) ∧ W.cell? ⟨b, o + 4, none⟩ = some (.int .u64 0) ∧ W.cell? ⟨b, o + 5, none⟩ = some (.int .i64 0) ∧ W.cell? ⟨b, o + 6, none⟩ = some (.int .i64 0) ∧ W.cell? ⟨b, o + 7, none⟩ = some (.bool false) ∧ W.cell? ⟨b, o + 8, none⟩ = some (.int .u64 0) ∧ W.cell? ⟨b, o + 9, none⟩ = some (.int .u64 17179869184) ∧ W.cell? ⟨b, o + 10, none⟩ = some (.int .u64 0) ∧ W.cell? ⟨b, o + 11, none⟩ = some (.int .u64 0) ∧ W.cell? ⟨b, o + 12, none⟩ = some (.int .i64 0) ∧ W.cell? ⟨b, o + 13, none⟩ = some (.int .i64 0)) := Lib.hid (fun W ho => ⟨hc W ho 0 _ rfl, hc W ho 1 _ rfl, hc W ho 2 _ rfl, hc W ho 3 _ rfl, hc W ho 4 _ rfl, hc W ho 5 _ rfl, hc W ho 6 _ rfl, hc W ho 7 _ rfl, hc W ho 8 _ rfl, hc W ho 9 _ rfl, hc W ho 10 _ rfl, hc W ho 11 _ rfl, hc W ho 12 _ rfl, hc W ho 13 _ rfl⟩)
  clear hc hv HV0
  go_enter Tryz.func162, Tryz.ntmps162
  have X0 : Hid (Off Nob w w) := Lib.hid (Off.refl _ _)
  obtain ⟨c0, c1, c2, c3, c4, c5, c6, c7, c8, c9, c10, c11, c12, c13⟩ := GC.out _ X0.out
  go_wp2_with fail
  refine wp_loop_rounds 3 ?_
  rw [rounds_succ]
  clear c0 c1 c2 c3 c4 c5 c6 c7 c8 c9 c10 c11 c12 c13
  obtain ⟨c0, c1, c2, c3, c4, c5, c6, c7, c8, c9, c10, c11, c12, c13⟩ := GC.out _ X0.out
  go_wp2_with fail
  rw [rounds_succ]
  clear c0 c1 c2 c3 c4 c5 c6 c7 c8 c9 c10 c11 c12 c13
  obtain ⟨c0, c1, c2, c3, c4, c5, c6, c7, c8, c9, c10, c11, c12, c13⟩ := GC.out _ X0.out
  go_wp2_with fail
  rw [rounds_succ]
  clear c0 c1 c2 c3 c4 c5 c6 c7 c8 c9 c10 c11 c12 c13
  obtain ⟨c0, c1, c2, c3, c4, c5, c6, c7, c8, c9, c10, c11, c12, c13⟩ := GC.out _ X0.out
  go_wp2_with fail
  go_ret
  exact ⟨rfl, X0.out⟩
set_option maxHeartbeats 4000000 in
theorem co_count15_a (w : World) (v : Value) (hv : Rd w (fun _ => True) 7 v 2 pa_a) : Calls Tryz.prog 161 #[v] w (RetV w (.tuple #[.int .i64 1, .int .i64 0])) := by
  have HV0 := Lib.hid hv
  obtain ⟨b, o, c, rfl, hc⟩ := hv.cellsT (by decide)
  have HV := HV0
  have GC : Hid (∀ W, Off Nob w W → W.cell? ⟨b, o, none⟩ = some (.bool false) ∧ W.cell? ⟨b, o + 1, none⟩ = some (.int .u64 0) ∧ W.cell? ⟨b, o + 2, none⟩ = some (.int .u64 8589934592) ∧ W.cell? ⟨b, o + 3, none⟩ = some (.int .u64 0) ∧ W.cell? ⟨b, o + 4, none⟩ = some (.int .u64 0) ∧ W.cell? ⟨b, o + 5, none⟩ = some (.int .i64 0) ∧ W.cell? ⟨b, o + 6, none⟩ = some (.int .i64 0) ∧ W.cell? ⟨b, o + 7, none⟩ = some (.bool false) ∧ W.cell? ⟨b, o + 8, none⟩ = some (.int .u64 0) ∧ W.cell? ⟨b, o + 9, none⟩ = some (.int .u64 17179869184) ∧ W.cell? ⟨b, o + 10, none⟩ = some (.int .u64 0) ∧ W.cell? ⟨b, o + 11, none⟩ = some (.int .u64 0) ∧ W.cell? ⟨b, o + 12, none⟩ = some (.int .i64 0) ∧ W.cell? ⟨b, o + 13, none⟩ = some (.int .i64 0)) := Lib.hid (fun W ho => ⟨hc W ho 0 _ rfl, hc W ho 1 _ rfl, hc W ho 2 _ rfl, hc W ho 3 _ rfl, hc W ho 4 _ rfl, hc W ho 5 _ rfl, hc W ho 6 _ rfl, hc W ho 7 _ rfl, hc W ho 8 _ rfl, hc W ho 9 _ rfl, hc W ho 10 _ rfl, hc W ho 11 _ rfl, hc W ho 12 _ rfl, hc W ho 13 _ rfl⟩)
  clear hc hv HV0
  go_enter Tryz.func161, Tryz.ntmps161
  have X0 : Hid (Off Nob w w) := Lib.hid (Off.refl _ _)
  obtain ⟨c0, c1, c2, c3, c4, c5, c6, c7, c8, c9, c10, c11, c12, c13⟩ := GC.out _ X0.out
  go_wp2_with fail
  refine (co_pcheck_a _ _ HV.out).mono ?_
  rintro e w1 ⟨rfl, o1⟩
  have X1 := Lib.hid (X0.out.also o1)
  clear o1 X0
  clear c0 c1 c2 c3 c4 c5 c6 c7 c8 c9 c10 c11 c12 c13
  obtain ⟨c0, c1, c2, c3, c4, c5, c6, c7, c8, c9, c10, c11, c12, c13⟩ := GC.out _ X1.out
  go_wp2_with fail
  refine (co_gaps_a _ _ (HV.out.keepT X1.out)).mono ?_
  rintro e w2 ⟨rfl, o1⟩
  have X2 := Lib.hid (X1.out.also o1)
  clear o1 X1
  clear c0 c1 c2 c3 c4 c5 c6 c7 c8 c9 c10 c11 c12 c13
  obtain ⟨c0, c1, c2, c3, c4, c5, c6, c7, c8, c9, c10, c11, c12, c13⟩ := GC.out _ X2.out
  go_wp2_with fail
  refine wp_loop_rounds 1 ?_
  rw [rounds_succ]
  clear c0 c1 c2 c3 c4 c5 c6 c7 c8 c9 c10 c11 c12 c13
  obtain ⟨c0, c1, c2, c3, c4, c5, c6, c7, c8, c9, c10, c11, c12, c13⟩ := GC.out _ X2.out
  go_wp2_with fail
  go_ret2
  exact ⟨rfl, X2.out⟩
set_option maxHeartbeats 4000000 in
theorem co_choices15_a (w : World) (v : Value) (hv : Rd w (fun _ => True) 7 v 2 pa_a) : Calls Tryz.prog 163 #[v] w (fun e w' => ∃ u A c, e = .returned u ∧ Rd w' (fun _ => True) 1 u 1 [.slice A 0 c] ∧ Off Nob w w') := by
  have HV0 := Lib.hid hv
  obtain ⟨b, o, c, rfl, hc⟩ := hv.cellsT (by decide)
  have HV := HV0
  have GC : Hid (∀ W, Off Nob w W → W.cell? ⟨b, o, none⟩ = some (.bool false) ∧ W.cell? ⟨b, o + 1, none⟩ = some (.int .u64 0) ∧ W.cell? ⟨b, o + 2, none⟩ = some (.int .u64 8589934592) ∧ W.cell? ⟨b, o + 3, none⟩ = some (.int .u64 0) ∧ W.cell? ⟨b, o + 4, none⟩ = some (.int .u64 0) ∧ W.cell? ⟨b, o + 5, none⟩ = some (.int .i64 0) ∧ W.cell? ⟨b, o + 6, none⟩ = some (.int .i64 0) ∧ W.cell? ⟨b, o + 7, none⟩ = some (.bool false) ∧ W.cell? ⟨b, o + 8, none⟩ = some (.int .u64 0) ∧ W.cell? ⟨b, o + 9, none⟩ = some (.int .u64 17179869184) ∧ W.cell? ⟨b, o + 10, none⟩ = some (.int .u64 0) ∧ W.cell? ⟨b, o + 11, none⟩ = some (.int .u64 0) ∧ W.cell? ⟨b, o + 12, none⟩ = some (.int .i64 0) ∧ W.cell? ⟨b, o + 13, none⟩ = some (.int .i64 0)) := Lib.hid (fun W ho => ⟨hc W ho 0 _ rfl, hc W ho 1 _ rfl, hc W ho 2 _ rfl, hc W ho 3 _ rfl, hc W ho 4 _ rfl, hc W ho 5 _ rfl, hc W ho 6 _ rfl, hc W ho 7 _ rfl, hc W ho 8 _ rfl, hc W ho 9 _ rfl, hc W ho 10 _ rfl, hc W ho 11 _ rfl, hc W ho 12 _ rfl, hc W ho 13 _ rfl⟩)
  clear hc hv HV0
  obtain ⟨i_ints, h_ints, z_ints, s_ints, b_ints⟩ := info_parts Tryz.infoIs
  go_enter Tryz.func163, Tryz.ntmps163
  have X0 : Hid (Off Nob w w) := Lib.hid (Off.refl _ _)
  obtain ⟨c0, c1, c2, c3, c4, c5, c6, c7, c8, c9, c10, c11, c12, c13⟩ := GC.out _ X0.out
  go_wp2_with fail
  have X1 : Hid (Off Nob w ((w.alloc (.cells #[] 3)).alloc (.cells #[.slice (some ⟨w.heap.size, 0, none⟩) 0 0] 22))) := Lib.hid (Off.alloc (Off.alloc (Off.refl _ _) _) _)
  have B1 : Hid (Blk ((w.alloc (.cells #[] 3)).alloc (.cells #[.slice (some ⟨w.heap.size, 0, none⟩) 0 0] 22)) (w.heap.size + 1) 22 #[.slice (some ⟨w.heap.size, 0, none⟩) 0 0]) := Lib.hid (blk_second _ _ _ _)
  clear X0
  revert X1 B1
  generalize ((w.alloc (.cells #[] 3)).alloc (.cells #[.slice (some ⟨w.heap.size, 0, none⟩) 0 0] 22)) = w1
  intro X1 B1
  have GA : Hid (∀ W, Off Nob w1 W → W.cell? ⟨w.heap.size + 1, 0, none⟩ = some (.slice (some ⟨w.heap.size, 0, none⟩) 0 0)) := Lib.hid (fun W ho => (B1.out.to (ho.block _ B1.out.lt (fun h => h))).cell 0)
  have Y1 : Hid (Off Nob w1 w1) := Lib.hid (Off.refl _ _)
  clear c0 c1 c2 c3 c4 c5 c6 c7 c8 c9 c10 c11 c12 c13
  obtain ⟨c0, c1, c2, c3, c4, c5, c6, c7, c8, c9, c10, c11, c12, c13⟩ := GC.out _ X1.out
  go_wp2_with fail
  refine (co_gaps_a _ _ (HV.out.keepT X1.out)).mono ?_
  rintro e w2 ⟨rfl, o1⟩
  have X2 := Lib.hid (X1.out.also o1)
  have Y2 := Lib.hid (Y1.out.also o1)
  clear Y1
  clear o1 X1
  clear c0 c1 c2 c3 c4 c5 c6 c7 c8 c9 c10 c11 c12 c13
  have d0 := GA.out _ Y2.out
  go_wp2_with fail
  refine wp_loop_rounds 1 ?_
  rw [rounds_succ]
  go_wp2_with fail
  refine wp_loop_rounds 2 ?_
  rw [rounds_succ]
  go_wp2_with fail
  refine wp_loop_rounds 2 ?_
  rw [rounds_succ]
  go_wp2_with fail
  go_quiet (fail)
  have X3 := Lib.hid (X2.out.drewN nq)
  have Y3 := Lib.hid (Y2.out.drewN nq)
  clear X2 Y2 d0
  generalize w2.drewN nq = w3 at *
  have d0 := GA.out _ Y3.out
  go_wp2_with fail
  go_quiet (fail)
  have X4 := Lib.hid (X3.out.drewN nq)
  have Y4 := Lib.hid (Y3.out.drewN nq)
  clear X3 Y3 d0
  generalize w3.drewN nq = w4 at *
  have d0 := GA.out _ Y4.out
  go_wp2_with fail
  rw [rounds_succ]
  go_wp2_with (at_builtin; refine @wpList_append_lies _ _ _ _ _ _ _ rfl _ _ 221 rfl w.heap.size 22 i_ints (.slice none 0 0) 1 24 Tryz.underlying221 h_ints z_ints s_ints b_ints rfl (by decide) (.slice none 0 0) (0) ([]) rfl ((OwnL.nilAt X4.out 22 1).1.alloc _) ⟨w4.heap.size, 0, none⟩ 1 1 [.slice (some ⟨w.heap.size, 0, none⟩) 0 0] rfl rfl ?c1 (by intro u hu; simp at hu; subst hu; rfl) (by decide) (by decide) (by decide) (by have := (OwnL.nilAt X4.out 22 1).2.size; simp; omega) _ rfl ?_)
  case c1 => exact cell_lit _ [.slice (some ⟨w.heap.size, 0, none⟩) 0 0] _
  intro g5 cap5 w5 hown hgrow hat hlt
  have OW5 := Lib.hid ((OwnL.nilAt X4.out 22 1).grown (Off.alloc (Off.refl Nob w4) (.cells #[.slice (some ⟨w.heap.size, 0, none⟩) 0 0] 22)) hown hgrow)
  have X5 := Lib.hid OW5.out.2
  clear hown hgrow hat hlt X4
  clear d0 Y4
  go_wp2_with fail
  rw [rounds_succ]
  go_wp2_with fail
  go_ret
  exact ⟨_, _, _, rfl, OW5.out.rd, OW5.out.2⟩
set_option maxHeartbeats 4000000 in
theorem co_positions_a (w : World) (v : Value) (hv : Rd w (fun _ => True) 7 v 2 pa_a) : Calls Tryz.prog 147 #[v] w (RetV w (.tuple #[.int .i64 2, .int .i64 0])) := by
  have HV0 := Lib.hid hv
  obtain ⟨b, o, c, rfl, hc⟩ := hv.cellsT (by decide)
  have HV := HV0
  have GC : Hid (∀ W, Off Nob w W → W.cell? ⟨b, o, none⟩ = some (.bool false) ∧ W.cell? ⟨b, o + 1, none⟩ = some (.int .u64 0) ∧ W.cell? ⟨b, o + 2, none⟩ = some (.int .u64 8589934592) ∧ W.cell? ⟨b, o + 3, none⟩ = some (.int .u64 0) ∧ W.cell? ⟨b, o + 4, none⟩ = some (.int .u64 0) ∧ W.cell? ⟨b, o + 5, none⟩ = some (.int .i64 0) ∧ W.cell? ⟨b, o + 6, none⟩ = some (.int .i64 0) ∧ W.cell? ⟨b, o + 7, none⟩ = some (.bool false) ∧ W.cell? ⟨b, o + 8, none⟩ = some (.int .u64 0) ∧ W.cell? ⟨b, o + 9, none⟩ = some (.int .u64 17179869184) ∧ W.cell? ⟨b, o + 10, none⟩ = some (.int .u64 0) ∧ W.cell? ⟨b, o + 11, none⟩ = some (.int .u64 0) ∧ W.cell? ⟨b, o + 12, none⟩ = some (.int .i64 0) ∧ W.cell? ⟨b, o + 13, none⟩ = some (.int .i64 0)) := Lib.hid (fun W ho => ⟨hc W ho 0 _ rfl, hc W ho 1 _ rfl, hc W ho 2 _ rfl, hc W ho 3 _ rfl, hc W ho 4 _ rfl, hc W ho 5 _ rfl, hc W ho 6 _ rfl, hc W ho 7 _ rfl, hc W ho 8 _ rfl, hc W ho 9 _ rfl, hc W ho 10 _ rfl, hc W ho 11 _ rfl, hc W ho 12 _ rfl, hc W ho 13 _ rfl⟩)
  clear hc hv HV0
  go_enter Tryz.func147, Tryz.ntmps147
  have X0 : Hid (Off Nob w w) := Lib.hid (Off.refl _ _)
  obtain ⟨c0, c1, c2, c3, c4, c5, c6, c7, c8, c9, c10, c11, c12, c13⟩ := GC.out _ X0.out
  go_wp2_with fail
  refine (co_count15_a _ _ HV.out).mono ?_
  rintro e w1 ⟨rfl, o1⟩
  have X1 := Lib.hid (X0.out.also o1)
  clear o1 X0
  clear c0 c1 c2 c3 c4 c5 c6 c7 c8 c9 c10 c11 c12 c13
  obtain ⟨c0, c1, c2, c3, c4, c5, c6, c7, c8, c9, c10, c11, c12, c13⟩ := GC.out _ X1.out
  go_wp2_with fail
  refine (co_gaps_a _ _ (HV.out.keepT X1.out)).mono ?_
  rintro e w2 ⟨rfl, o1⟩
  have X2 := Lib.hid (X1.out.also o1)
  clear o1 X1
  clear c0 c1 c2 c3 c4 c5 c6 c7 c8 c9 c10 c11 c12 c13
  obtain ⟨c0, c1, c2, c3, c4, c5, c6, c7, c8, c9, c10, c11, c12, c13⟩ := GC.out _ X2.out
  go_wp2_with fail
  refine (co_choices15_a _ _ (HV.out.keepT X2.out)).mono ?_
  rintro e w3 ⟨u1, A1, k1, rfl, hr, o1⟩
  have X3 := Lib.hid (X2.out.also o1)
  obtain ⟨hr, o1⟩ := id (And.intro hr o1)
  obtain ⟨b1, p1, cc, rfl, hd⟩ := hr.cellsT (by decide)
  have HD := Lib.hid hd
  clear hr hd
  clear o1 X2
  clear c0 c1 c2 c3 c4 c5 c6 c7 c8 c9 c10 c11 c12 c13
  have d0 := HD.out _ (Off.refl _ _) 0 _ rfl
  simp only [Nat.add_zero] at d0
  obtain ⟨c0, c1, c2, c3, c4, c5, c6, c7, c8, c9, c10, c11, c12, c13⟩ := GC.out _ X3.out
  go_wp2_with fail
  refine wp_loop_rounds 2 ?_
  rw [rounds_succ]
  clear c0 c1 c2 c3 c4 c5 c6 c7 c8 c9 c10 c11 c12 c13
  obtain ⟨c0, c1, c2, c3, c4, c5, c6, c7, c8, c9, c10, c11, c12, c13⟩ := GC.out _ X3.out
  go_wp2_with fail
  refine (co_sum0 _ _ _).mono ?_
  rintro e w4 ⟨rfl, o1⟩
  have X4 := Lib.hid (X3.out.also o1)
  clear o1 X3
  clear c0 c1 c2 c3 c4 c5 c6 c7 c8 c9 c10 c11 c12 c13
  clear d0
  obtain ⟨c0, c1, c2, c3, c4, c5, c6, c7, c8, c9, c10, c11, c12, c13⟩ := GC.out _ X4.out
  go_wp2_with fail
  rw [rounds_succ]
  clear c0 c1 c2 c3 c4 c5 c6 c7 c8 c9 c10 c11 c12 c13
  obtain ⟨c0, c1, c2, c3, c4, c5, c6, c7, c8, c9, c10, c11, c12, c13⟩ := GC.out _ X4.out
  go_wp2_with fail
  go_ret2
  exact ⟨rfl, X4.out⟩
set_option maxHeartbeats 4000000 in
theorem co_Choices_a (w : World) (v : Value) (hv : Rd w (fun _ => True) 7 v 2 pa_a) : Calls Tryz.prog 148 #[v] w (fun e w' => ∃ u A c, e = .returned (.tuple #[u, .int .i64 0]) ∧ Rd w' (fun _ => True) 1 u 1 [.slice A 0 c] ∧ Off Nob w w') := by
  have HV0 := Lib.hid hv
  obtain ⟨b, o, c, rfl, hc⟩ := hv.cellsT (by decide)
  have HV := HV0
  have GC : Hid (∀ W, Off Nob w W → W.cell? ⟨b, o, none⟩ = some (.bool false) ∧ W.cell? ⟨b, o + 1, none⟩ = some (.int .u64 0) ∧ W.cell? ⟨b, o + 2, none⟩ = some (.int .u64 8589934592) ∧ W.cell? ⟨b, o + 3, none⟩ = some (.int .u64 0) ∧ W.cell? ⟨b, o + 4, none⟩ = some (.int .u64 0) ∧ W.cell? ⟨b, o + 5, none⟩ = some (.int .i64 0) ∧ W.cell? ⟨b, o + 6, none⟩ = some (.int .i64 0) ∧ W.cell? ⟨b, o + 7, none⟩ = some (.bool false) ∧ W.cell? ⟨b, o + 8, none⟩ = some (.int .u64 0) ∧ W.cell? ⟨b, o + 9, none⟩ = some (.int .u64 17179869184) ∧ W.cell? ⟨b, o + 10, none⟩ = some (.int .u64 0) ∧ W.cell? ⟨b, o + 11, none⟩ = some (.int .u64 0) ∧ W.cell? ⟨b, o + 12, none⟩ = some (.int .i64 0) ∧ W.cell? ⟨b, o + 13, none⟩ = some (.int .i64 0)) := Lib.hid (fun W ho => ⟨hc W ho 0 _ rfl, hc W ho 1 _ rfl, hc W ho 2 _ rfl, hc W ho 3 _ rfl, hc W ho 4 _ rfl, hc W ho 5 _ rfl, hc W ho 6 _ rfl, hc W ho 7 _ rfl, hc W ho 8 _ rfl, hc W ho 9 _ rfl, hc W ho 10 _ rfl, hc W ho 11 _ rfl, hc W ho 12 _ rfl, hc W ho 13 _ rfl⟩)
  clear hc hv HV0
  go_enter Tryz.func148, Tryz.ntmps148
  have X0 : Hid (Off Nob w w) := Lib.hid (Off.refl _ _)
  obtain ⟨c0, c1, c2, c3, c4, c5, c6, c7, c8, c9, c10, c11, c12, c13⟩ := GC.out _ X0.out
  go_wp2_with fail
  refine (co_positions_a _ _ HV.out).mono ?_
  rintro e w1 ⟨rfl, o1⟩
  have X1 := Lib.hid (X0.out.also o1)
  clear o1 X0
  clear c0 c1 c2 c3 c4 c5 c6 c7 c8 c9 c10 c11 c12 c13
  obtain ⟨c0, c1, c2, c3, c4, c5, c6, c7, c8, c9, c10, c11, c12, c13⟩ := GC.out _ X1.out
  go_wp2_with fail
  refine (co_choices15_a _ _ (HV.out.keepT X1.out)).mono ?_
  rintro e w2 ⟨u1, A1, k1, rfl, hr, o1⟩
  have X2 := Lib.hid (X1.out.also o1)
  obtain ⟨hr, o1⟩ := id (And.intro hr o1)
  have HD := Lib.hid hr
  clear hr
  clear o1 X1
  clear c0 c1 c2 c3 c4 c5 c6 c7 c8 c9 c10 c11 c12 c13
  obtain ⟨c0, c1, c2, c3, c4, c5, c6, c7, c8, c9, c10, c11, c12, c13⟩ := GC.out _ X2.out
  go_wp2_with fail
  go_ret2
  exact ⟨_, _, _, rfl, HD.out, X2.out⟩
set_option maxHeartbeats 4000000 in
theorem co_line_a (w : World) (v : Value) (hv : Rd w (fun _ => True) 7 v 2 pa_a) (AA : Option Addr) (ac : Nat) : Calls Tryz.prog 149 #[v, .slice AA 0 ac] w (fun e w' => ∃ u, e = .returned (.tuple #[u, .int .i64 0]) ∧ Rd w' (fun k => w.heap.size ≤ k) 4 u 2 se_a ∧ Off Nob w w') := by
  have HV0 := Lib.hid hv
  obtain ⟨b, o, c, rfl, hc⟩ := hv.cellsT (by decide)
  have HV := HV0
  have GC : Hid (∀ W, Off Nob w W → W.cell? ⟨b, o, none⟩ = some (.bool false) ∧ W.cell? ⟨b, o + 1, none⟩ = some (.int .u64 0) ∧ W.cell? ⟨b, o + 2, none⟩ = some (.int .u64 8589934592) ∧ W.cell? ⟨b, o + 3, none⟩ = some (.int .u64 0) ∧ W.cell? ⟨b, o + 4, none⟩ = some (.int .u64 0) ∧ W.cell? ⟨b, o + 5, none⟩ = some (.int .i64 0) ∧ W.cell? ⟨b, o + 6, none⟩ = some (.int .i64 0) ∧ W.cell? ⟨b, o + 7, none⟩ = some (.bool false) ∧ W.cell? ⟨b, o + 8, none⟩ = some (.int .u64 0) ∧ W.cell? ⟨b, o + 9, none⟩ = some (.int .u64 17179869184) ∧ W.cell? ⟨b, o + 10, none⟩ = some (.int .u64 0) ∧ W.cell? ⟨b, o + 11, none⟩ = some (.int .u64 0) ∧ W.cell? ⟨b, o + 12, none⟩ = some (.int .i64 0) ∧ W.cell? ⟨b, o + 13, none⟩ = some (.int .i64 0)) := Lib.hid (fun W ho => ⟨hc W ho 0 _ rfl, hc W ho 1 _ rfl, hc W ho 2 _ rfl, hc W ho 3 _ rfl, hc W ho 4 _ rfl, hc W ho 5 _ rfl, hc W ho 6 _ rfl, hc W ho 7 _ rfl, hc W ho 8 _ rfl, hc W ho 9 _ rfl, hc W ho 10 _ rfl, hc W ho 11 _ rfl, hc W ho 12 _ rfl, hc W ho 13 _ rfl⟩)
  clear hc hv HV0
  obtain ⟨i_cl, h_cl, z_cl, s_cl, b_cl⟩ := info_parts Tryz.infoCl4
  go_enter Tryz.func149, Tryz.ntmps149
  have X0 : Hid (Off Nob w w) := Lib.hid (Off.refl _ _)
  obtain ⟨c0, c1, c2, c3, c4, c5, c6, c7, c8, c9, c10, c11, c12, c13⟩ := GC.out _ X0.out
  go_wp2_with fail
  refine (co_pcheck_a _ _ HV.out).mono ?_
  rintro e w1 ⟨rfl, o1⟩
  have X1 := Lib.hid (X0.out.also o1)
  clear o1 X0
  clear c0 c1 c2 c3 c4 c5 c6 c7 c8 c9 c10 c11 c12 c13
  obtain ⟨c0, c1, c2, c3, c4, c5, c6, c7, c8, c9, c10, c11, c12, c13⟩ := GC.out _ X1.out
  go_wp2_with fail
  refine (co_gaps_a _ _ (HV.out.keepT X1.out)).mono ?_
  rintro e w2 ⟨rfl, o1⟩
  have X2 := Lib.hid (X1.out.also o1)
  clear o1 X1
  clear c0 c1 c2 c3 c4 c5 c6 c7 c8 c9 c10 c11 c12 c13
  obtain ⟨c0, c1, c2, c3, c4, c5, c6, c7, c8, c9, c10, c11, c12, c13⟩ := GC.out _ X2.out
  go_wp2_with fail
  refine wp_loop_rounds 1 ?_
  rw [rounds_succ]
  clear c0 c1 c2 c3 c4 c5 c6 c7 c8 c9 c10 c11 c12 c13
  obtain ⟨c0, c1, c2, c3, c4, c5, c6, c7, c8, c9, c10, c11, c12, c13⟩ := GC.out _ X2.out
  go_wp2_with fail
  refine wp_loop_rounds 3 ?_
  rw [rounds_succ]
  clear c0 c1 c2 c3 c4 c5 c6 c7 c8 c9 c10 c11 c12 c13
  obtain ⟨c0, c1, c2, c3, c4, c5, c6, c7, c8, c9, c10, c11, c12, c13⟩ := GC.out _ X2.out
  go_wp2_with (at_builtin; refine @wpList_append_lies _ _ _ _ _ _ _ rfl _ _ 224 rfl w.heap.size 146 i_cl (.agg #[.int .u64 0, .int .u64 0, .int .u64 0, .int .u64 0]) 4 32 Tryz.underlying224 h_cl z_cl s_cl b_cl rfl (by decide) (.slice none 0 0) (0) ([]) rfl ((OwnL.nilAt X2.out 146 4).1.alloc _) ⟨w2.heap.size, 0, none⟩ 1 1 [.int .u64 0, .int .u64 8589934592, .int .u64 0, .int .u64 0] rfl rfl ?c1 (by decide) (by decide) (by decide) (by decide) (by have := (OwnL.nilAt X2.out 146 4).2.size; simp; omega) _ rfl ?_)
  case c1 => exact cell_lit _ [.int .u64 0, .int .u64 8589934592, .int .u64 0, .int .u64 0] _
  intro g3 cap3 w3 hown hgrow hat hlt
  have OW3 := Lib.hid ((OwnL.nilAt X2.out 146 4).grown (Off.alloc (Off.refl Nob w2) (.cells #[.int .u64 0, .int .u64 8589934592, .int .u64 0, .int .u64 0] 146)) hown hgrow)
  have X3 := Lib.hid OW3.out.2
  clear hown hgrow hat hlt X2
  clear c0 c1 c2 c3 c4 c5 c6 c7 c8 c9 c10 c11 c12 c13
  obtain ⟨c0, c1, c2, c3, c4, c5, c6, c7, c8, c9, c10, c11, c12, c13⟩ := GC.out _ X3.out
  go_wp2_with fail
  rw [rounds_succ]
  clear c0 c1 c2 c3 c4 c5 c6 c7 c8 c9 c10 c11 c12 c13
  obtain ⟨c0, c1, c2, c3, c4, c5, c6, c7, c8, c9, c10, c11, c12, c13⟩ := GC.out _ X3.out
  go_wp2_with (at_builtin; refine @wpList_append_lies _ _ _ _ _ _ _ rfl _ _ 224 rfl w.heap.size 146 i_cl (.agg #[.int .u64 0, .int .u64 0, .int .u64 0, .int .u64 0]) 4 32 Tryz.underlying224 h_cl z_cl s_cl b_cl rfl (by decide) (.slice (some ⟨g3, 0, none⟩) (0 + 1) cap3) (0 + 1) ([] ++ [.int .u64 0, .int .u64 8589934592, .int .u64 0, .int .u64 0]) rfl (OW3.out.1.alloc _) ⟨w3.heap.size, 0, none⟩ 1 1 [.int .u64 0, .int .u64 17179869184, .int .u64 0, .int .u64 0] rfl rfl ?c1 (by decide) (by decide) (by decide) (by decide) (by have := OW3.out.2.size; simp; omega) _ rfl ?_)
  case c1 => exact cell_lit _ [.int .u64 0, .int .u64 17179869184, .int .u64 0, .int .u64 0] _
  intro g4 cap4 w4 hown hgrow hat hlt
  have OW4 := Lib.hid (OW3.out.grown (Off.alloc (Off.refl Nob w3) (.cells #[.int .u64 0, .int .u64 17179869184, .int .u64 0, .int .u64 0] 146)) hown hgrow)
  have X4 := Lib.hid OW4.out.2
  clear hown hgrow hat hlt X3 OW3
  clear c0 c1 c2 c3 c4 c5 c6 c7 c8 c9 c10 c11 c12 c13
  obtain ⟨c0, c1, c2, c3, c4, c5, c6, c7, c8, c9, c10, c11, c12, c13⟩ := GC.out _ X4.out
  go_wp2_with fail
  rw [rounds_succ]
  clear c0 c1 c2 c3 c4 c5 c6 c7 c8 c9 c10 c11 c12 c13
  obtain ⟨c0, c1, c2, c3, c4, c5, c6, c7, c8, c9, c10, c11, c12, c13⟩ := GC.out _ X4.out
  go_wp2_with fail
  go_ret2
  exact ⟨_, rfl, Rd.own OW4.out.1 (fun k hk => (OW4.out.1.lt k hk).1), OW4.out.2⟩
set_option maxHeartbeats 4000000 in
theorem co_lines_a (w : World) (v : Value) (hv : Rd w (fun _ => True) 7 v 2 pa_a) : Calls Tryz.prog 126 #[v] w (fun e w' => ∃ u v, e = .returned (.tuple #[u, .int .i64 0]) ∧ Rd w' (fun k => w.heap.size ≤ k) 1 u 1 [v] ∧ (∃ A c, v = .slice A 2 c) ∧ Rd w' (fun k => w.heap.size ≤ k) 4 v 2 se_a ∧ Off Nob w w') := by
  have HV0 := Lib.hid hv
  obtain ⟨b, o, c, rfl, hc⟩ := hv.cellsT (by decide)
  have HV := HV0
  have GC : Hid (∀ W, Off Nob w W → W.cell? ⟨b, o, none⟩ = some (.bool false) ∧ W.cell? ⟨b, o + 1, none⟩ = some (.int .u64 0) ∧ W.cell? ⟨b, o + 2, none⟩ = some (.int .u64 8589934592) ∧ W.cell? ⟨b, o + 3, none⟩ = some (.int .u64 0) ∧ W.cell? ⟨b, o + 4, none⟩ = some (.int .u64 0) ∧ W.cell? ⟨b, o + 5, none⟩ = some (.int .i64 0) ∧ W.cell? ⟨b, o + 6, none⟩ = some (.int .i64 0) ∧ W.cell? ⟨b, o + 7, none⟩ = some (.bool false) ∧ W.cell? ⟨b, o + 8, none⟩ = some (.int .u64 0) ∧ W.cell? ⟨b, o + 9, none⟩ = some (.int .u64 17179869184) ∧ W.cell? ⟨b, o + 10, none⟩ = some (.int .u64 0) ∧ W.cell? ⟨b, o + 11, none⟩ = some (.int .u64 0) ∧ W.cell? ⟨b, o + 12, none⟩ = some (.int .i64 0) ∧ W.cell? ⟨b, o + 13, none⟩ = some (.int .i64 0)) := Lib.hid (fun W ho => ⟨hc W ho 0 _ rfl, hc W ho 1 _ rfl, hc W ho 2 _ rfl, hc W ho 3 _ rfl, hc W ho 4 _ rfl, hc W ho 5 _ rfl, hc W ho 6 _ rfl, hc W ho 7 _ rfl, hc W ho 8 _ rfl, hc W ho 9 _ rfl, hc W ho 10 _ rfl, hc W ho 11 _ rfl, hc W ho 12 _ rfl, hc W ho 13 _ rfl⟩)
  clear hc hv HV0
  obtain ⟨i_line, h_line, z_line, s_line, b_line⟩ := info_parts Tryz.infoLn
  go_enter Tryz.func126, Tryz.ntmps126
  have X0 : Hid (Off Nob w w) := Lib.hid (Off.refl _ _)
  obtain ⟨c0, c1, c2, c3, c4, c5, c6, c7, c8, c9, c10, c11, c12, c13⟩ := GC.out _ X0.out
  go_wp2_with fail
  refine (co_Choices_a _ _ HV.out).mono ?_
  rintro e w1 ⟨u1, A1, k1, rfl, hr, o1⟩
  have X1 := Lib.hid (X0.out.also o1)
  obtain ⟨hr, o1⟩ := id (And.intro hr o1)
  obtain ⟨b1, p1, cc, rfl, hd⟩ := hr.cellsT (by decide)
  have HD := Lib.hid hd
  clear hr hd
  clear o1 X0
  clear c0 c1 c2 c3 c4 c5 c6 c7 c8 c9 c10 c11 c12 c13
  have d0 := HD.out _ (Off.refl _ _) 0 _ rfl
  simp only [Nat.add_zero] at d0
  obtain ⟨c0, c1, c2, c3, c4, c5, c6, c7, c8, c9, c10, c11, c12, c13⟩ := GC.out _ X1.out
  go_wp2_with fail
  refine wp_loop_rounds 2 ?_
  rw [rounds_succ]
  clear c0 c1 c2 c3 c4 c5 c6 c7 c8 c9 c10 c11 c12 c13
  obtain ⟨c0, c1, c2, c3, c4, c5, c6, c7, c8, c9, c10, c11, c12, c13⟩ := GC.out _ X1.out
  go_wp2_with fail
  refine (co_line_a _ _ (HV.out.keepT X1.out) _ _).mono ?_
  rintro e w2 ⟨u2, rfl, hr, o1⟩
  have X2 := Lib.hid (X1.out.also o1)
  obtain ⟨hr, o1⟩ := id (And.intro hr o1)
  obtain ⟨A2, k2, rfl, _⟩ := hr.form
  have HS := Lib.hid (Rd.mono hr (G := fun k => w.heap.size ≤ k) (fun k hk => Nat.le_trans X1.out.size hk))
  clear hr d0
  clear o1 X1
  clear c0 c1 c2 c3 c4 c5 c6 c7 c8 c9 c10 c11 c12 c13
  obtain ⟨c0, c1, c2, c3, c4, c5, c6, c7, c8, c9, c10, c11, c12, c13⟩ := GC.out _ X2.out
  go_wp2_with (at_builtin; refine @wpList_append_lies _ _ _ _ _ _ _ rfl _ _ 201 rfl w.heap.size 224 i_line (.slice none 0 0) 1 24 Tryz.underlying201 h_line z_line s_line b_line rfl (by decide) (.slice none 0 0) (0) ([]) rfl ((OwnL.nilAt X2.out 224 1).1.alloc _) ⟨w2.heap.size, 0, none⟩ 1 1 [.slice A2 2 k2] rfl rfl ?c1 (by intro u hu; simp at hu; subst hu; rfl) (by decide) (by decide) (by decide) (by have := (OwnL.nilAt X2.out 224 1).2.size; simp; omega) _ rfl ?_)
  case c1 => exact cell_lit _ [.slice A2 2 k2] _
  intro g3 cap3 w3 hown hgrow hat hlt
  have HS' := Lib.hid (HS.out.keep (Off.grown (Off.alloc (Off.refl Nob w2) _) hgrow (fun k hk => by cases hk)) (fun _ _ h => h))
  have OW3 := Lib.hid ((OwnL.nilAt X2.out 224 1).grown (Off.alloc (Off.refl Nob w2) (.cells #[.slice A2 2 k2] 224)) hown hgrow)
  have X3 := Lib.hid OW3.out.2
  clear hown hgrow hat hlt X2
  clear c0 c1 c2 c3 c4 c5 c6 c7 c8 c9 c10 c11 c12 c13
  obtain ⟨c0, c1, c2, c3, c4, c5, c6, c7, c8, c9, c10, c11, c12, c13⟩ := GC.out _ X3.out
  go_wp2_with fail
  rw [rounds_succ]
  clear c0 c1 c2 c3 c4 c5 c6 c7 c8 c9 c10 c11 c12 c13
  obtain ⟨c0, c1, c2, c3, c4, c5, c6, c7, c8, c9, c10, c11, c12, c13⟩ := GC.out _ X3.out
  go_wp2_with fail
  go_ret2
  exact ⟨_, _, rfl, Rd.own OW3.out.1 (fun k hk => (OW3.out.1.lt k hk).1), ⟨_, _, rfl⟩, HS'.out, OW3.out.2⟩
set_option maxHeartbeats 4000000 in
theorem co_gaps_b (w : World) (v : Value) (hv : Rd w (fun _ => True) 7 v 1 pa_b) : Calls Tryz.prog 162 #[v] w (RetV w (.slice none 0 0)) := by
  have HV0 := Lib.hid hv
  obtain ⟨b, o, c, rfl, hc⟩ := hv.cellsT (by decide)
  have HV := HV0
  have GC : Hid (∀ W, Off Nob w W → W.cell? ⟨b, o, none⟩ = some (.bool false) ∧ W.cell? ⟨b, o + 1, none⟩ = some (.int .u64 0) ∧ W.cell? ⟨b, o + 2, none⟩ = some (.int .u64 25769803776) ∧ W.cell? ⟨b, o + 3, none⟩ = some (.int .u64 0) ∧ W.cell? ⟨b, o + 4, none⟩ = some (.int .u64 0) ∧ W.cell? ⟨b, o + 5, none⟩ = some (.int .i64 0) ∧ W.cell? ⟨b, o + 6, none⟩ = some (.int .i64 0)) := Lib.hid (fun W ho => ⟨hc W ho 0 _ rfl, hc W ho 1 _ rfl, hc W ho 2 _ rfl, hc W ho 3 _ rfl, hc W ho 4 _ rfl, hc W ho 5 _ rfl, hc W ho 6 _ rfl⟩)
  clear hc hv HV0
  go_enter Tryz.func162, Tryz.ntmps162
  have X0 : Hid (Off Nob w w) := Lib.hid (Off.refl _ _)
  obtain ⟨c0, c1, c2, c3, c4, c5, c6⟩ := GC.out _ X0.out
  go_wp2_with fail
  refine wp_loop_rounds 2 ?_
  rw [rounds_succ]
  clear c0 c1 c2 c3 c4 c5 c6
  obtain ⟨c0, c1, c2, c3, c4, c5, c6⟩ := GC.out _ X0.out
  go_wp2_with fail
  rw [rounds_succ]
  clear c0 c1 c2 c3 c4 c5 c6
  obtain ⟨c0, c1, c2, c3, c4, c5, c6⟩ := GC.out _ X0.out
  go_wp2_with fail
  go_ret
  exact ⟨rfl, X0.out⟩
set_option maxHeartbeats 4000000 in
theorem co_count15_b (w : World) (v : Value) (hv : Rd w (fun _ => True) 7 v 1 pa_b) : Calls Tryz.prog 161 #[v] w (RetV w (.tuple #[.int .i64 1, .int .i64 0])) := by
  have HV0 := Lib.hid hv
  obtain ⟨b, o, c, rfl, hc⟩ := hv.cellsT (by decide)
  have HV := HV0
  have GC : Hid (∀ W, Off Nob w W → W.cell? ⟨b, o, none⟩ = some (.bool false) ∧ W.cell? ⟨b, o + 1, none⟩ = some (.int .u64 0) ∧ W.cell? ⟨b, o + 2, none⟩ = some (.int .u64 25769803776) ∧ W.cell? ⟨b, o + 3, none⟩ = some (.int .u64 0) ∧ W.cell? ⟨b, o + 4, none⟩ = some (.int .u64 0) ∧ W.cell? ⟨b, o + 5, none⟩ = some (.int .i64 0) ∧ W.cell? ⟨b, o + 6, none⟩ = some (.int .i64 0)) := Lib.hid (fun W ho => ⟨hc W ho 0 _ rfl, hc W ho 1 _ rfl, hc W ho 2 _ rfl, hc W ho 3 _ rfl, hc W ho 4 _ rfl, hc W ho 5 _ rfl, hc W ho 6 _ rfl⟩)
  clear hc hv HV0
  go_enter Tryz.func161, Tryz.ntmps161
  have X0 : Hid (Off Nob w w) := Lib.hid (Off.refl _ _)
  obtain ⟨c0, c1, c2, c3, c4, c5, c6⟩ := GC.out _ X0.out
  go_wp2_with fail
  refine (co_pcheck_b _ _ HV.out).mono ?_
  rintro e w1 ⟨rfl, o1⟩
  have X1 := Lib.hid (X0.out.also o1)
  clear o1 X0
  clear c0 c1 c2 c3 c4 c5 c6
  obtain ⟨c0, c1, c2, c3, c4, c5, c6⟩ := GC.out _ X1.out
  go_wp2_with fail
  refine (co_gaps_b _ _ (HV.out.keepT X1.out)).mono ?_
  rintro e w2 ⟨rfl, o1⟩
  have X2 := Lib.hid (X1.out.also o1)
  clear o1 X1
  clear c0 c1 c2 c3 c4 c5 c6
  obtain ⟨c0, c1, c2, c3, c4, c5, c6⟩ := GC.out _ X2.out
  go_wp2_with fail
  refine wp_loop_rounds 1 ?_
  rw [rounds_succ]
  clear c0 c1 c2 c3 c4 c5 c6
  obtain ⟨c0, c1, c2, c3, c4, c5, c6⟩ := GC.out _ X2.out
  go_wp2_with fail
  go_ret2
  exact ⟨rfl, X2.out⟩
set_option maxHeartbeats 4000000 in
theorem co_choices15_b (w : World) (v : Value) (hv : Rd w (fun _ => True) 7 v 1 pa_b) : Calls Tryz.prog 163 #[v] w (fun e w' => ∃ u A c, e = .returned u ∧ Rd w' (fun _ => True) 1 u 1 [.slice A 0 c] ∧ Off Nob w w') := by
  have HV0 := Lib.hid hv
  obtain ⟨b, o, c, rfl, hc⟩ := hv.cellsT (by decide)
  have HV := HV0
  have GC : Hid (∀ W, Off Nob w W → W.cell? ⟨b, o, none⟩ = some (.bool false) ∧ W.cell? ⟨b, o + 1, none⟩ = some (.int .u64 0) ∧ W.cell? ⟨b, o + 2, none⟩ = some (.int .u64 25769803776) ∧ W.cell? ⟨b, o + 3, none⟩ = some (.int .u64 0) ∧ W.cell? ⟨b, o + 4, none⟩ = some (.int .u64 0) ∧ W.cell? ⟨b, o + 5, none⟩ = some (.int .i64 0) ∧ W.cell? ⟨b, o + 6, none⟩ = some (.int .i64 0)) := Lib.hid (fun W ho => ⟨hc W ho 0 _ rfl, hc W ho 1 _ rfl, hc W ho 2 _ rfl, hc W ho 3 _ rfl, hc W ho 4 _ rfl, hc W ho 5 _ rfl, hc W ho 6 _ rfl⟩)
  clear hc hv HV0
  obtain ⟨i_ints, h_ints, z_ints, s_ints, b_ints⟩ := info_parts Tryz.infoIs
  go_enter Tryz.func163, Tryz.ntmps163
  have X0 : Hid (Off Nob w w) := Lib.hid (Off.refl _ _)
  obtain ⟨c0, c1, c2, c3, c4, c5, c6⟩ := GC.out _ X0.out
  go_wp2_with fail
  have X1 : Hid (Off Nob w ((w.alloc (.cells #[] 3)).alloc (.cells #[.slice (some ⟨w.heap.size, 0, none⟩) 0 0] 22))) := Lib.hid (Off.alloc (Off.alloc (Off.refl _ _) _) _)
  have B1 : Hid (Blk ((w.alloc (.cells #[] 3)).alloc (.cells #[.slice (some ⟨w.heap.size, 0, none⟩) 0 0] 22)) (w.heap.size + 1) 22 #[.slice (some ⟨w.heap.size, 0, none⟩) 0 0]) := Lib.hid (blk_second _ _ _ _)
  clear X0
  revert X1 B1
  generalize ((w.alloc (.cells #[] 3)).alloc (.cells #[.slice (some ⟨w.heap.size, 0, none⟩) 0 0] 22)) = w1
  intro X1 B1
  have GA : Hid (∀ W, Off Nob w1 W → W.cell? ⟨w.heap.size + 1, 0, none⟩ = some (.slice (some ⟨w.heap.size, 0, none⟩) 0 0)) := Lib.hid (fun W ho => (B1.out.to (ho.block _ B1.out.lt (fun h => h))).cell 0)
  have Y1 : Hid (Off Nob w1 w1) := Lib.hid (Off.refl _ _)
  clear c0 c1 c2 c3 c4 c5 c6
  obtain ⟨c0, c1, c2, c3, c4, c5, c6⟩ := GC.out _ X1.out
  go_wp2_with fail
  refine (co_gaps_b _ _ (HV.out.keepT X1.out)).mono ?_
  rintro e w2 ⟨rfl, o1⟩
  have X2 := Lib.hid (X1.out.also o1)
  have Y2 := Lib.hid (Y1.out.also o1)
  clear Y1
  clear o1 X1
  clear c0 c1 c2 c3 c4 c5 c6
  have d0 := GA.out _ Y2.out
  go_wp2_with fail
  refine wp_loop_rounds 1 ?_
  rw [rounds_succ]
  go_wp2_with fail
  refine wp_loop_rounds 2 ?_
  rw [rounds_succ]
  go_wp2_with fail
  refine wp_loop_rounds 2 ?_
  rw [rounds_succ]
  go_wp2_with fail
  go_quiet (fail)
  have X3 := Lib.hid (X2.out.drewN nq)
  have Y3 := Lib.hid (Y2.out.drewN nq)
  clear X2 Y2 d0
  generalize w2.drewN nq = w3 at *
  have d0 := GA.out _ Y3.out
  go_wp2_with fail
  go_quiet (fail)
  have X4 := Lib.hid (X3.out.drewN nq)
  have Y4 := Lib.hid (Y3.out.drewN nq)
  clear X3 Y3 d0
  generalize w3.drewN nq = w4 at *
  have d0 := GA.out _ Y4.out
  go_wp2_with fail
  rw [rounds_succ]
  go_wp2_with (at_builtin; refine @wpList_append_lies _ _ _ _ _ _ _ rfl _ _ 221 rfl w.heap.size 22 i_ints (.slice none 0 0) 1 24 Tryz.underlying221 h_ints z_ints s_ints b_ints rfl (by decide) (.slice none 0 0) (0) ([]) rfl ((OwnL.nilAt X4.out 22 1).1.alloc _) ⟨w4.heap.size, 0, none⟩ 1 1 [.slice (some ⟨w.heap.size, 0, none⟩) 0 0] rfl rfl ?c1 (by intro u hu; simp at hu; subst hu; rfl) (by decide) (by decide) (by decide) (by have := (OwnL.nilAt X4.out 22 1).2.size; simp; omega) _ rfl ?_)
  case c1 => exact cell_lit _ [.slice (some ⟨w.heap.size, 0, none⟩) 0 0] _
  intro g5 cap5 w5 hown hgrow hat hlt
  have OW5 := Lib.hid ((OwnL.nilAt X4.out 22 1).grown (Off.alloc (Off.refl Nob w4) (.cells #[.slice (some ⟨w.heap.size, 0, none⟩) 0 0] 22)) hown hgrow)
  have X5 := Lib.hid OW5.out.2
  clear hown hgrow hat hlt X4
  clear d0 Y4
  go_wp2_with fail
  rw [rounds_succ]
  go_wp2_with fail
  go_ret
  exact ⟨_, _, _, rfl, OW5.out.rd, OW5.out.2⟩
set_option maxHeartbeats 4000000 in
theorem co_positions_b (w : World) (v : Value) (hv : Rd w (fun _ => True) 7 v 1 pa_b) : Calls Tryz.prog 147 #[v] w (RetV w (.tuple #[.int .i64 1, .int .i64 0])) := by
  have HV0 := Lib.hid hv
  obtain ⟨b, o, c, rfl, hc⟩ := hv.cellsT (by decide)
  have HV := HV0
  have GC : Hid (∀ W, Off Nob w W → W.cell? ⟨b, o, none⟩ = some (.bool false) ∧ W.cell? ⟨b, o + 1, none⟩ = some (.int .u64 0) ∧ W.cell? ⟨b, o + 2, none⟩ = some (.int .u64 25769803776) ∧ W.cell? ⟨b, o + 3, none⟩ = some (.int .u64 0) ∧ W.cell? ⟨b, o + 4, none⟩ = some (.int .u64 0) ∧ W.cell? ⟨b, o + 5, none⟩ = some (.int .i64 0) ∧ W.cell? ⟨b, o + 6, none⟩ = some (.int .i64 0)) := Lib.hid (fun W ho => ⟨hc W ho 0 _ rfl, hc W ho 1 _ rfl, hc W ho 2 _ rfl, hc W ho 3 _ rfl, hc W ho 4 _ rfl, hc W ho 5 _ rfl, hc W ho 6 _ rfl⟩)
  clear hc hv HV0
  go_enter Tryz.func147, Tryz.ntmps147
  have X0 : Hid (Off Nob w w) := Lib.hid (Off.refl _ _)
  obtain ⟨c0, c1, c2, c3, c4, c5, c6⟩ := GC.out _ X0.out
  go_wp2_with fail
  refine (co_count15_b _ _ HV.out).mono ?_
  rintro e w1 ⟨rfl, o1⟩
  have X1 := Lib.hid (X0.out.also o1)
  clear o1 X0
  clear c0 c1 c2 c3 c4 c5 c6
  obtain ⟨c0, c1, c2, c3, c4, c5, c6⟩ := GC.out _ X1.out
  go_wp2_with fail
  refine (co_gaps_b _ _ (HV.out.keepT X1.out)).mono ?_
  rintro e w2 ⟨rfl, o1⟩
  have X2 := Lib.hid (X1.out.also o1)
  clear o1 X1
  clear c0 c1 c2 c3 c4 c5 c6
  obtain ⟨c0, c1, c2, c3, c4, c5, c6⟩ := GC.out _ X2.out
  go_wp2_with fail
  refine (co_choices15_b _ _ (HV.out.keepT X2.out)).mono ?_
  rintro e w3 ⟨u1, A1, k1, rfl, hr, o1⟩
  have X3 := Lib.hid (X2.out.also o1)
  obtain ⟨hr, o1⟩ := id (And.intro hr o1)
  obtain ⟨b1, p1, cc, rfl, hd⟩ := hr.cellsT (by decide)
  have HD := Lib.hid hd
  clear hr hd
  clear o1 X2
  clear c0 c1 c2 c3 c4 c5 c6
  have d0 := HD.out _ (Off.refl _ _) 0 _ rfl
  simp only [Nat.add_zero] at d0
  obtain ⟨c0, c1, c2, c3, c4, c5, c6⟩ := GC.out _ X3.out
  go_wp2_with fail
  refine wp_loop_rounds 2 ?_
  rw [rounds_succ]
  clear c0 c1 c2 c3 c4 c5 c6
  obtain ⟨c0, c1, c2, c3, c4, c5, c6⟩ := GC.out _ X3.out
  go_wp2_with fail
  refine (co_sum0 _ _ _).mono ?_
  rintro e w4 ⟨rfl, o1⟩
  have X4 := Lib.hid (X3.out.also o1)
  clear o1 X3
  clear c0 c1 c2 c3 c4 c5 c6
  clear d0
  obtain ⟨c0, c1, c2, c3, c4, c5, c6⟩ := GC.out _ X4.out
  go_wp2_with fail
  rw [rounds_succ]
  clear c0 c1 c2 c3 c4 c5 c6
  obtain ⟨c0, c1, c2, c3, c4, c5, c6⟩ := GC.out _ X4.out
  go_wp2_with fail
  go_ret2
  exact ⟨rfl, X4.out⟩
set_option maxHeartbeats 4000000 in
theorem co_Choices_b (w : World) (v : Value) (hv : Rd w (fun _ => True) 7 v 1 pa_b) : Calls Tryz.prog 148 #[v] w (fun e w' => ∃ u A c, e = .returned (.tuple #[u, .int .i64 0]) ∧ Rd w' (fun _ => True) 1 u 1 [.slice A 0 c] ∧ Off Nob w w') := by
  have HV0 := Lib.hid hv
  obtain ⟨b, o, c, rfl, hc⟩ := hv.cellsT (by decide)
  have HV := HV0
  have GC : Hid (∀ W, Off Nob w W → W.cell? ⟨b, o, none⟩ = some (.bool false) ∧ W.cell? ⟨b, o + 1, none⟩ = some (.int .u64 0) ∧ W.cell? ⟨b, o + 2, none⟩ = some (.int .u64 25769803776) ∧ W.cell? ⟨b, o + 3, none⟩ = some (.int .u64 0) ∧ W.cell? ⟨b, o + 4, none⟩ = some (.int .u64 0) ∧ W.cell? ⟨b, o + 5, none⟩ = some (.int .i64 0) ∧ W.cell? ⟨b, o + 6, none⟩ = some (.int .i64 0)) := Lib.hid (fun W ho => ⟨hc W ho 0 _ rfl, hc W ho 1 _ rfl, hc W ho 2 _ rfl, hc W ho 3 _ rfl, hc W ho 4 _ rfl, hc W ho 5 _ rfl, hc W ho 6 _ rfl⟩)
  clear hc hv HV0
  go_enter Tryz.func148, Tryz.ntmps148
  have X0 : Hid (Off Nob w w) := Lib.hid (Off.refl _ _)
  obtain ⟨c0, c1, c2, c3, c4, c5, c6⟩ := GC.out _ X0.out
  go_wp2_with fail
  refine (co_positions_b _ _ HV.out).mono ?_
  rintro e w1 ⟨rfl, o1⟩
  have X1 := Lib.hid (X0.out.also o1)
  clear o1 X0
  clear c0 c1 c2 c3 c4 c5 c6
  obtain ⟨c0, c1, c2, c3, c4, c5, c6⟩ := GC.out _ X1.out
  go_wp2_with fail
  refine (co_choices15_b _ _ (HV.out.keepT X1.out)).mono ?_
  rintro e w2 ⟨u1, A1, k1, rfl, hr, o1⟩
  have X2 := Lib.hid (X1.out.also o1)
  obtain ⟨hr, o1⟩ := id (And.intro hr o1)
  have HD := Lib.hid hr
  clear hr
  clear o1 X1
  clear c0 c1 c2 c3 c4 c5 c6
  obtain ⟨c0, c1, c2, c3, c4, c5, c6⟩ := GC.out _ X2.out
  go_wp2_with fail
  go_ret2
  exact ⟨_, _, _, rfl, HD.out, X2.out⟩
set_option maxHeartbeats 4000000 in
theorem co_line_b (w : World) (v : Value) (hv : Rd w (fun _ => True) 7 v 1 pa_b) (AA : Option Addr) (ac : Nat) : Calls Tryz.prog 149 #[v, .slice AA 0 ac] w (fun e w' => ∃ u, e = .returned (.tuple #[u, .int .i64 0]) ∧ Rd w' (fun k => w.heap.size ≤ k) 4 u 1 se_b ∧ Off Nob w w') := by
  have HV0 := Lib.hid hv
  obtain ⟨b, o, c, rfl, hc⟩ := hv.cellsT (by decide)
  have HV := HV0
  have GC : Hid (∀ W, Off Nob w W → W.cell? ⟨b, o, none⟩ = some (.bool false) ∧ W.cell? ⟨b, o + 1, none⟩ = some (.int .u64 0) ∧ W.cell? ⟨b, o + 2, none⟩ = some (.int .u64 25769803776) ∧ W.cell? ⟨b, o + 3, none⟩ = some (.int .u64 0) ∧ W.cell? ⟨b, o + 4, none⟩ = some (.int .u64 0) ∧ W.cell? ⟨b, o + 5, none⟩ = some (.int .i64 0) ∧ W.cell? ⟨b, o + 6, none⟩ = some (.int .i64 0)) := Lib.hid (fun W ho => ⟨hc W ho 0 _ rfl, hc W ho 1 _ rfl, hc W ho 2 _ rfl, hc W ho 3 _ rfl, hc W ho 4 _ rfl, hc W ho 5 _ rfl, hc W ho 6 _ rfl⟩)
  clear hc hv HV0
  obtain ⟨i_cl, h_cl, z_cl, s_cl, b_cl⟩ := info_parts Tryz.infoCl4
  go_enter Tryz.func149, Tryz.ntmps149
  have X0 : Hid (Off Nob w w) := Lib.hid (Off.refl _ _)
  obtain ⟨c0, c1, c2, c3, c4, c5, c6⟩ := GC.out _ X0.out
  go_wp2_with fail
  refine (co_pcheck_b _ _ HV.out).mono ?_
  rintro e w1 ⟨rfl, o1⟩
  have X1 := Lib.hid (X0.out.also o1)
  clear o1 X0
  clear c0 c1 c2 c3 c4 c5 c6
  obtain ⟨c0, c1, c2, c3, c4, c5, c6⟩ := GC.out _ X1.out
  go_wp2_with fail
  refine (co_gaps_b _ _ (HV.out.keepT X1.out)).mono ?_
  rintro e w2 ⟨rfl, o1⟩
  have X2 := Lib.hid (X1.out.also o1)
  clear o1 X1
  clear c0 c1 c2 c3 c4 c5 c6
  obtain ⟨c0, c1, c2, c3, c4, c5, c6⟩ := GC.out _ X2.out
  go_wp2_with fail
  refine wp_loop_rounds 1 ?_
  rw [rounds_succ]
  clear c0 c1 c2 c3 c4 c5 c6
  obtain ⟨c0, c1, c2, c3, c4, c5, c6⟩ := GC.out _ X2.out
  go_wp2_with fail
  refine wp_loop_rounds 2 ?_
  rw [rounds_succ]
  clear c0 c1 c2 c3 c4 c5 c6
  obtain ⟨c0, c1, c2, c3, c4, c5, c6⟩ := GC.out _ X2.out
  go_wp2_with (at_builtin; refine @wpList_append_lies _ _ _ _ _ _ _ rfl _ _ 224 rfl w.heap.size 146 i_cl (.agg #[.int .u64 0, .int .u64 0, .int .u64 0, .int .u64 0]) 4 32 Tryz.underlying224 h_cl z_cl s_cl b_cl rfl (by decide) (.slice none 0 0) (0) ([]) rfl ((OwnL.nilAt X2.out 146 4).1.alloc _) ⟨w2.heap.size, 0, none⟩ 1 1 [.int .u64 0, .int .u64 25769803776, .int .u64 0, .int .u64 0] rfl rfl ?c1 (by decide) (by decide) (by decide) (by decide) (by have := (OwnL.nilAt X2.out 146 4).2.size; simp; omega) _ rfl ?_)
  case c1 => exact cell_lit _ [.int .u64 0, .int .u64 25769803776, .int .u64 0, .int .u64 0] _
  intro g3 cap3 w3 hown hgrow hat hlt
  have OW3 := Lib.hid ((OwnL.nilAt X2.out 146 4).grown (Off.alloc (Off.refl Nob w2) (.cells #[.int .u64 0, .int .u64 25769803776, .int .u64 0, .int .u64 0] 146)) hown hgrow)
  have X3 := Lib.hid OW3.out.2
  clear hown hgrow hat hlt X2
  clear c0 c1 c2 c3 c4 c5 c6
  obtain ⟨c0, c1, c2, c3, c4, c5, c6⟩ := GC.out _ X3.out
  go_wp2_with fail
  rw [rounds_succ]
  clear c0 c1 c2 c3 c4 c5 c6
  obtain ⟨c0, c1, c2, c3, c4, c5, c6⟩ := GC.out _ X3.out
  go_wp2_with fail
  go_ret2
  exact ⟨_, rfl, Rd.own OW3.out.1 (fun k hk => (OW3.out.1.lt k hk).1), OW3.out.2⟩
set_option maxHeartbeats 4000000 in
theorem co_lines_b (w : World) (v : Value) (hv : Rd w (fun _ => True) 7 v 1 pa_b) : Calls Tryz.prog 126 #[v] w (fun e w' => ∃ u v, e = .returned (.tuple #[u, .int .i64 0]) ∧ Rd w' (fun k => w.heap.size ≤ k) 1 u 1 [v] ∧ (∃ A c, v = .slice A 1 c) ∧ Rd w' (fun k => w.heap.size ≤ k) 4 v 1 se_b ∧ Off Nob w w') := by
  have HV0 := Lib.hid hv
  obtain ⟨b, o, c, rfl, hc⟩ := hv.cellsT (by decide)
  have HV := HV0
  have GC : Hid (∀ W, Off Nob w W → W.cell? ⟨b, o, none⟩ = some (.bool false) ∧ W.cell? ⟨b, o + 1, none⟩ = some (.int .u64 0) ∧ W.cell? ⟨b, o + 2, none⟩ = some (.int .u64 25769803776) ∧ W.cell? ⟨b, o + 3, none⟩ = some (.int .u64 0) ∧ W.cell? ⟨b, o + 4, none⟩ = some (.int .u64 0) ∧ W.cell? ⟨b, o + 5, none⟩ = some (.int .i64 0) ∧ W.cell? ⟨b, o + 6, none⟩ = some (.int .i64 0)) := Lib.hid (fun W ho => ⟨hc W ho 0 _ rfl, hc W ho 1 _ rfl, hc W ho 2 _ rfl, hc W ho 3 _ rfl, hc W ho 4 _ rfl, hc W ho 5 _ rfl, hc W ho 6 _ rfl⟩)
  clear hc hv HV0
  obtain ⟨i_line, h_line, z_line, s_line, b_line⟩ := info_parts Tryz.infoLn
  go_enter Tryz.func126, Tryz.ntmps126
  have X0 : Hid (Off Nob w w) := Lib.hid (Off.refl _ _)
  obtain ⟨c0, c1, c2, c3, c4, c5, c6⟩ := GC.out _ X0.out
  go_wp2_with fail
  refine (co_Choices_b _ _ HV.out).mono ?_
  rintro e w1 ⟨u1, A1, k1, rfl, hr, o1⟩
  have X1 := Lib.hid (X0.out.also o1)
  obtain ⟨hr, o1⟩ := id (And.intro hr o1)
  obtain ⟨b1, p1, cc, rfl, hd⟩ := hr.cellsT (by decide)
  have HD := Lib.hid hd
  clear hr hd
  clear o1 X0
  clear c0 c1 c2 c3 c4 c5 c6
  have d0 := HD.out _ (Off.refl _ _) 0 _ rfl
  simp only [Nat.add_zero] at d0
  obtain ⟨c0, c1, c2, c3, c4, c5, c6⟩ := GC.out _ X1.out
  go_wp2_with fail
  refine wp_loop_rounds 2 ?_
  rw [rounds_succ]
  clear c0 c1 c2 c3 c4 c5 c6
  obtain ⟨c0, c1, c2, c3, c4, c5, c6⟩ := GC.out _ X1.out
  go_wp2_with fail
  refine (co_line_b _ _ (HV.out.keepT X1.out) _ _).mono ?_
  rintro e w2 ⟨u2, rfl, hr, o1⟩
  have X2 := Lib.hid (X1.out.also o1)
  obtain ⟨hr, o1⟩ := id (And.intro hr o1)
  obtain ⟨A2, k2, rfl, _⟩ := hr.form
  have HS := Lib.hid (Rd.mono hr (G := fun k => w.heap.size ≤ k) (fun k hk => Nat.le_trans X1.out.size hk))
  clear hr d0
  clear o1 X1
  clear c0 c1 c2 c3 c4 c5 c6
  obtain ⟨c0, c1, c2, c3, c4, c5, c6⟩ := GC.out _ X2.out
  go_wp2_with (at_builtin; refine @wpList_append_lies _ _ _ _ _ _ _ rfl _ _ 201 rfl w.heap.size 224 i_line (.slice none 0 0) 1 24 Tryz.underlying201 h_line z_line s_line b_line rfl (by decide) (.slice none 0 0) (0) ([]) rfl ((OwnL.nilAt X2.out 224 1).1.alloc _) ⟨w2.heap.size, 0, none⟩ 1 1 [.slice A2 1 k2] rfl rfl ?c1 (by intro u hu; simp at hu; subst hu; rfl) (by decide) (by decide) (by decide) (by have := (OwnL.nilAt X2.out 224 1).2.size; simp; omega) _ rfl ?_)
  case c1 => exact cell_lit _ [.slice A2 1 k2] _
  intro g3 cap3 w3 hown hgrow hat hlt
  have HS' := Lib.hid (HS.out.keep (Off.grown (Off.alloc (Off.refl Nob w2) _) hgrow (fun k hk => by cases hk)) (fun _ _ h => h))
  have OW3 := Lib.hid ((OwnL.nilAt X2.out 224 1).grown (Off.alloc (Off.refl Nob w2) (.cells #[.slice A2 1 k2] 224)) hown hgrow)
  have X3 := Lib.hid OW3.out.2
  clear hown hgrow hat hlt X2
  clear c0 c1 c2 c3 c4 c5 c6
  obtain ⟨c0, c1, c2, c3, c4, c5, c6⟩ := GC.out _ X3.out
  go_wp2_with fail
  rw [rounds_succ]
  clear c0 c1 c2 c3 c4 c5 c6
  obtain ⟨c0, c1, c2, c3, c4, c5, c6⟩ := GC.out _ X3.out
  go_wp2_with fail
  go_ret2
  exact ⟨_, _, rfl, Rd.own OW3.out.1 (fun k hk => (OW3.out.1.lt k hk).1), ⟨_, _, rfl⟩, HS'.out, OW3.out.2⟩
set_option maxHeartbeats 4000000 in
theorem co_fit (w : World) (v va vb : Value) (hv : Rd w (fun _ => True) 1 v 2 [va, vb]) (ha : Rd w (fun _ => True) 7 va 2 pa_a) (hb : Rd w (fun _ => True) 7 vb 1 pa_b) : Calls Tryz.prog 125 #[v] w (RetV w (.tuple #[.int .i64 0, .int .i64 0])) := by
  have Ha := Lib.hid ha
  have Hb := Lib.hid hb
  obtain ⟨b, o, c, rfl, hc⟩ := hv.cellsT (by decide)
  have GC : Hid (∀ W, Off Nob w W → W.cell? ⟨b, o, none⟩ = some va ∧ W.cell? ⟨b, o + 1, none⟩ = some vb) := Lib.hid (fun W ho => ⟨hc W ho 0 _ rfl, hc W ho 1 _ rfl⟩)
  clear hc hv ha hb
  go_enter Tryz.func125, Tryz.ntmps125
  have X0 : Hid (Off Nob w w) := Lib.hid (Off.refl _ _)
  obtain ⟨c0, c1⟩ := GC.out _ X0.out
  go_wp2_with fail
  refine wp_loop_rounds 3 ?_
  rw [rounds_succ]
  clear c0 c1
  obtain ⟨c0, c1⟩ := GC.out _ X0.out
  go_wp2_with fail
  refine (co_positions_a _ _ Ha.out).mono ?_
  rintro e w1 ⟨rfl, o1⟩
  have X1 := Lib.hid (X0.out.also o1)
  clear o1 X0
  clear c0 c1
  obtain ⟨c0, c1⟩ := GC.out _ X1.out
  go_wp2_with fail
  rw [rounds_succ]
  clear c0 c1
  obtain ⟨c0, c1⟩ := GC.out _ X1.out
  go_wp2_with fail
  refine (co_positions_b _ _ (Hb.out.keepT X1.out)).mono ?_
  rintro e w2 ⟨rfl, o1⟩
  have X2 := Lib.hid (X1.out.also o1)
  clear o1 X1
  clear c0 c1
  obtain ⟨c0, c1⟩ := GC.out _ X2.out
  go_wp2_with fail
  rw [rounds_succ]
  clear c0 c1
  obtain ⟨c0, c1⟩ := GC.out _ X2.out
  go_wp2_with fail
  go_ret2
  exact ⟨rfl, X2.out⟩
end Go.Proofs.YtkflicifngohcaaGreatDoor
