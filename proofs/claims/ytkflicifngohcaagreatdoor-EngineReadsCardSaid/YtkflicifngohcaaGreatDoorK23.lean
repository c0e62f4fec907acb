/-
 dragnetref17.Same and Row at the lines of the example.
-/
import Derived.Test.YtkflicifngohcaaGreatDoorK16
import Derived.Test.YtkflicifngohcaaGreatDoorK9
import Derived.Test.YtkflicifngohcaaGreatDoorK14
import Derived.Test.YtkflicifngohcaaGreatDoorK5
import Derived.Test.YtkflicifngohcaaGreatDoorK8
set_option linter.unusedVariables false
set_option linter.unusedSimpArgs false
namespace Go.Proofs.YtkflicifngohcaaGreatDoor
open Go.RowKit
set_option maxRecDepth 100000
set_option maxHeartbeats 4000000 in
theorem co_psame (w : World) (v u : Value) (hv : Rd w (fun _ => True) 3 v 2 ln_ab) (hu : Rd w (fun _ => True) 3 u 2 ln_ab) : Calls Tryz.prog 151 #[.agg #[.int .i64 1, v], .agg #[.int .i64 1, u]] w (RetV w (.bool true)) := by
 have hq0 : ∀ w : World, (binOp .neq 188 (.agg #[.int .i64 0, .int .i64 0, .int .i64 2]) (.agg #[.int .i64 0, .int .i64 0, .int .i64 2])).run Tryz.prog w = .ok (.bool false) w := fun _ => by kernel_rfl
 have hq1 : ∀ w : World, (binOp .neq 188 (.agg #[.int .i64 1, .int .i64 2, .int .i64 1]) (.agg #[.int .i64 1, .int .i64 2, .int .i64 1])).run Tryz.prog w = .ok (.bool false) w := fun _ => by kernel_rfl
 obtain ⟨b, o, c, rfl, hc⟩ := hv.cellsT (by decide)
 obtain ⟨b2, o2, c2, rfl, hc2⟩ := hu.cellsT (by decide)
 have HC := hID hc
 have HC2 := hID hc2
 clear hc hv hc2 hu
 go_enter Tryz.func151, Tryz.ntmps151
 go_wp2_with fail
 have HB0 : Hid (Blk ((w.alloc (.cells #[.int .i64 1, .slice (some ⟨b, o, none⟩) 2 c] 97)).alloc (.cells #[.int .i64 1, .slice (some ⟨b2, o2, none⟩) 2 c2] 97)) w.heap.size 97 #[.int .i64 1, .slice (some ⟨b, o, none⟩) 2 c] ∧ Blk ((w.alloc (.cells #[.int .i64 1, .slice (some ⟨b, o, none⟩) 2 c] 97)).alloc (.cells #[.int .i64 1, .slice (some ⟨b2, o2, none⟩) 2 c2] 97)) (w.heap.size + 1) 97 #[.int .i64 1, .slice (some ⟨b2, o2, none⟩) 2 c2] ∧ Off Nob w ((w.alloc (.cells #[.int .i64 1, .slice (some ⟨b, o, none⟩) 2 c] 97)).alloc (.cells #[.int .i64 1, .slice (some ⟨b2, o2, none⟩) 2 c2] 97))) := hID ⟨(Blk.new _ _ _).alloc _, blk_second _ _ _ _, Off.alloc (Off.alloc (Off.refl _ _) _) _⟩
 revert HB0
 generalize ((w.alloc (.cells #[.int .i64 1, .slice (some ⟨b, o, none⟩) 2 c] 97)).alloc (.cells #[.int .i64 1, .slice (some ⟨b2, o2, none⟩) 2 c2] 97)) = w0
 intro HB0
 have GC : Hid (∀ W, Off Nob w0 W → W.cell? ⟨w.heap.size, 0, none⟩ = some (.int .i64 1) ∧ W.cell? ⟨w.heap.size, 1, none⟩ = some (.slice (some ⟨b, o, none⟩) 2 c) ∧ W.cell? ⟨w.heap.size + 1, 0, none⟩ = some (.int .i64 1) ∧ W.cell? ⟨w.heap.size + 1, 1, none⟩ = some (.slice (some ⟨b2, o2, none⟩) 2 c2) ∧ W.cell? ⟨b, o, none⟩ = some (.int .i64 0) ∧ W.cell? ⟨b, o + 1, none⟩ = some (.int .i64 0) ∧ W.cell? ⟨b, o + 2, none⟩ = some (.int .i64 2) ∧ W.cell? ⟨b, o + 3, none⟩ = some (.int .i64 1) ∧ W.cell? ⟨b, o + 4, none⟩ = some (.int .i64 2) ∧ W.cell? ⟨b, o + 5, none⟩ = some (.int .i64 1) ∧ W.cell? ⟨b2, o2, none⟩ = some (.int .i64 0) ∧ W.cell? ⟨b2, o2 + 1, none⟩ = some (.int .i64 0) ∧ W.cell? ⟨b2, o2 + 2, none⟩ = some (.int .i64 2) ∧ W.cell? ⟨b2, o2 + 3, none⟩ = some (.int .i64 1) ∧ W.cell? ⟨b2, o2 + 4, none⟩ = some (.int .i64 2) ∧ W.cell? ⟨b2, o2 + 5, none⟩ = some (.int .i64 1)) := hID (fun W ho => by
  have h := HB0.out.1.to (ho.block _ HB0.out.1.lt (fun h => h))
  have h2 := HB0.out.2.1.to (ho.block _ HB0.out.2.1.lt (fun h => h))
  have k := HC.out W (HB0.out.2.2.also ho)
  have k2 := HC2.out W (HB0.out.2.2.also ho)
  exact ⟨h.cell 0, h.cell 1, h2.cell 0, h2.cell 1, k 0 _ rfl, k 1 _ rfl, k 2 _ rfl, k 3 _ rfl, k 4 _ rfl, k 5 _ rfl, k2 0 _ rfl, k2 1 _ rfl, k2 2 _ rfl, k2 3 _ rfl, k2 4 _ rfl, k2 5 _ rfl⟩)
 have X0 : Hid (Off Nob w0 w0) := hID (Off.refl _ _)
 obtain ⟨t0, t1, q0, q1, c0, c1, c2, c3, c4, c5, d0, d1, d2, d3, d4, d5⟩ := GC.out _ X0.out
 go_wp2_with fail
 refine wp_loop_rounds 3 ?_
 rw [rounds_succ]
 clear t0 t1 q0 q1 c0 c1 c2 c3 c4 c5 d0 d1 d2 d3 d4 d5
 obtain ⟨t0, t1, q0, q1, c0, c1, c2, c3, c4, c5, d0, d1, d2, d3, d4, d5⟩ := GC.out _ X0.out
 go_wp2_with fail
 go_quiet (fail)
 have X1 := hID (X0.out.drewN nq)
 clear X0
 clear t0 t1 q0 q1 c0 c1 c2 c3 c4 c5 d0 d1 d2 d3 d4 d5
 generalize w0.drewN nq = w1 at *
 obtain ⟨t0, t1, q0, q1, c0, c1, c2, c3, c4, c5, d0, d1, d2, d3, d4, d5⟩ := GC.out _ X1.out
 go_wp2_with fail
 rw [rounds_succ]
 clear t0 t1 q0 q1 c0 c1 c2 c3 c4 c5 d0 d1 d2 d3 d4 d5
 obtain ⟨t0, t1, q0, q1, c0, c1, c2, c3, c4, c5, d0, d1, d2, d3, d4, d5⟩ := GC.out _ X1.out
 go_wp2_with fail
 go_quiet (fail)
 have X2 := hID (X1.out.drewN nq)
 clear X1
 clear t0 t1 q0 q1 c0 c1 c2 c3 c4 c5 d0 d1 d2 d3 d4 d5
 generalize w1.drewN nq = w2 at *
 obtain ⟨t0, t1, q0, q1, c0, c1, c2, c3, c4, c5, d0, d1, d2, d3, d4, d5⟩ := GC.out _ X2.out
 go_wp2_with fail
 rw [rounds_succ]
 clear t0 t1 q0 q1 c0 c1 c2 c3 c4 c5 d0 d1 d2 d3 d4 d5
 obtain ⟨t0, t1, q0, q1, c0, c1, c2, c3, c4, c5, d0, d1, d2, d3, d4, d5⟩ := GC.out _ X2.out
 go_wp2_with fail
 go_ret
 exact ⟨rfl, HB0.out.2.2.also X2.out⟩
set_option maxHeartbeats 16000000 in
theorem co_row_a (w : World) (v rv l0 l1 ma mb : Value) (hv : Rd w (fun _ => True) 3 v 2 ln_ab) (hr : Rd w (fun _ => True) 1 rv 2 [l0, l1]) (h0 : Rd w (fun _ => True) 1 l0 1 [ma]) (h1 : Rd w (fun _ => True) 1 l1 1 [mb]) (ha : Rd w (fun _ => True) 4 ma 2 se_a) (hb : Rd w (fun _ => True) 4 mb 1 se_b) (bt : Nat) (hbt : bt < 256) (hf0 : hasB 0 8589934592 0 0 bt = true) (hf1 : hasB 0 17179869184 0 0 bt = false) (hf2 : hasB 0 25769803776 0 0 bt = true) :
  Calls Tryz.prog 128 #[.agg #[.int .i64 1, v], rv, .int .u8 (bt : Int)] w (fun e w' => ∃ u, e = .returned (.tuple #[u, .int .i64 0]) ∧ Rd w' (fun _ => True) 1 u 1 [.int .u64 5] ∧ Off Nob w w') := by
 have HF0 := hID hf0
 have HF1 := hID hf1
 have HF2 := hID hf2
 obtain ⟨i_int, h_int, z_int, s_int, b_int⟩ := info_parts Tryz.infoI'
 have HV0 := hID hv
 have HR0 := hID hr
 have H00 := hID h0
 have H10 := hID h1
 obtain ⟨b, o, c, rfl, hc⟩ := hv.cellsT (by decide)
 obtain ⟨bb, oo, cc, rfl, hcr⟩ := hr.cellsT (by decide)
 obtain ⟨b0, o0, c0, rfl, hc0⟩ := h0.cellsT (by decide)
 obtain ⟨b1, o1, c1, rfl, hc1⟩ := h1.cellsT (by decide)
 obtain ⟨ba, oa, ca, rfl, hca⟩ := ha.cellsT (by decide)
 obtain ⟨be, oe, ce, rfl, hce⟩ := hb.cellsT (by decide)
 have HV := HV0
 have HR := HR0
 have H0 := H00
 have H1 := H10
 have HC := hID (And.intro hc (And.intro hcr (And.intro hc0 (And.intro hc1 (And.intro hca hce)))))
 clear hc hv hr h0 h1 ha hb hcr hc0 hc1 hca hce HV0 HR0 H00 H10 hf0 hf1 hf2
 go_enter Tryz.func128, Tryz.ntmps128
 go_wp2_with fail
 have HB0 : Hid (Blk (w.alloc (.cells #[.int .i64 1, .slice (some ⟨b, o, none⟩) 2 c] 97)) w.heap.size 97 #[.int .i64 1, .slice (some ⟨b, o, none⟩) 2 c] ∧ Off Nob w (w.alloc (.cells #[.int .i64 1, .slice (some ⟨b, o, none⟩) 2 c] 97))) := hID ⟨Blk.new _ _ _, Off.alloc (Off.refl _ _) _⟩
 revert HB0
 generalize (w.alloc (.cells #[.int .i64 1, .slice (some ⟨b, o, none⟩) 2 c] 97)) = w0
 intro HB0
 have GC : Hid (∀ W, Off Nob w0 W → W.cell? ⟨w.heap.size, 0, none⟩ = some (.int .i64 1) ∧ W.cell? ⟨w.heap.size, 1, none⟩ = some (.slice (some ⟨b, o, none⟩) 2 c) ∧ W.cell? ⟨bb, oo, none⟩ = some (.slice (some ⟨b0, o0, none⟩) 1 c0) ∧ W.cell? ⟨bb, oo + 1, none⟩ = some (.slice (some ⟨b1, o1, none⟩) 1 c1) ∧ W.cell? ⟨b0, o0, none⟩ = some (.slice (some ⟨ba, oa, none⟩) 2 ca) ∧ W.cell? ⟨b1, o1, none⟩ = some (.slice (some ⟨be, oe, none⟩) 1 ce) ∧ W.cell? ⟨ba, oa, none⟩ = some (.int .u64 0) ∧ W.cell? ⟨ba, oa + 1, none⟩ = some (.int .u64 8589934592) ∧ W.cell? ⟨ba, oa + 2, none⟩ = some (.int .u64 0) ∧ W.cell? ⟨ba, oa + 3, none⟩ = some (.int .u64 0) ∧ W.cell? ⟨ba, oa + 4, none⟩ = some (.int .u64 0) ∧ W.cell? ⟨ba, oa + 5, none⟩ = some (.int .u64 17179869184) ∧ W.cell? ⟨ba, oa + 6, none⟩ = some (.int .u64 0) ∧ W.cell? ⟨ba, oa + 7, none⟩ = some (.int .u64 0) ∧ W.cell? ⟨be, oe, none⟩ = some (.int .u64 0) ∧ W.cell? ⟨be, oe + 1, none⟩ = some (.int .u64 25769803776) ∧ W.cell? ⟨be, oe + 2, none⟩ = some (.int .u64 0) ∧ W.cell? ⟨be, oe + 3, none⟩ = some (.int .u64 0)) := hID (fun W ho => by
  have h := HB0.out.1.to (ho.block _ HB0.out.1.lt (fun h => h))
  have k := HB0.out.2.also ho
  obtain ⟨g1, g2, g3, g4, g5, g6⟩ := HC.out
  exact ⟨h.cell 0, h.cell 1, g2 W k 0 _ rfl, g2 W k 1 _ rfl, g3 W k 0 _ rfl, g4 W k 0 _ rfl, g5 W k 0 _ rfl, g5 W k 1 _ rfl, g5 W k 2 _ rfl, g5 W k 3 _ rfl, g5 W k 4 _ rfl, g5 W k 5 _ rfl, g5 W k 6 _ rfl, g5 W k 7 _ rfl, g6 W k 0 _ rfl, g6 W k 1 _ rfl, g6 W k 2 _ rfl, g6 W k 3 _ rfl⟩)
 have X0 : Hid (Off Nob w0 w0) := hID (Off.refl _ _)
 obtain ⟨t0, t1, v0, v1, m0, m1, s0, s1, s2, s3, s4, s5, s6, s7, r0, r1, r2, r3⟩ := GC.out _ X0.out
 go_wp2_with fail
 refine (co_lcheck _ _ (HV.out.keepT HB0.out.2)).mono ?_
 rintro e w1 ⟨rfl, o1⟩
 have X1 := hID (X0.out.also o1)
 clear o1 X0
 clear t0 t1 v0 v1 m0 m1 s0 s1 s2 s3 s4 s5 s6 s7 r0 r1 r2 r3
 obtain ⟨t0, t1, v0, v1, m0, m1, s0, s1, s2, s3, s4, s5, s6, s7, r0, r1, r2, r3⟩ := GC.out _ X1.out
 go_wp2_with fail
 refine (co_pack _ _ _ _ _ _ _ _ (HR.out.keepT (HB0.out.2.also X1.out)) (H0.out.keepT (HB0.out.2.also X1.out)) (H1.out.keepT (HB0.out.2.also X1.out))).mono ?_
 rintro e w2 ⟨u, rfl, hr, o1⟩
 have X2 := hID (X1.out.also o1)
 obtain ⟨hr, o1⟩ := id (And.intro hr o1)
 obtain ⟨AU, cu, rfl, _⟩ := hr.form
 have HU := hID hr
 clear hr
 clear o1 X1
 clear t0 t1 v0 v1 m0 m1 s0 s1 s2 s3 s4 s5 s6 s7 r0 r1 r2 r3
 obtain ⟨t0, t1, v0, v1, m0, m1, s0, s1, s2, s3, s4, s5, s6, s7, r0, r1, r2, r3⟩ := GC.out _ (X2.out.alloc (.cells #[.int .i64 1, .slice AU 2 cu] 97))
 go_wp2_with fail
 refine (co_psame _ _ _ (HV.out.keepT (HB0.out.2.also (X2.out.alloc _))) (HU.out.keepT (Off.alloc (Off.refl _ _) _))).mono ?_
 rintro e w3 ⟨rfl, o1⟩
 have X3 := hID ((X2.out.alloc (.cells #[.int .i64 1, .slice AU 2 cu] 97)).also o1)
 clear o1 X2 HU
 clear t0 t1 v0 v1 m0 m1 s0 s1 s2 s3 s4 s5 s6 s7 r0 r1 r2 r3
 obtain ⟨t0, t1, v0, v1, m0, m1, s0, s1, s2, s3, s4, s5, s6, s7, r0, r1, r2, r3⟩ := GC.out _ X3.out
 go_wp2_with fail
 refine wp_loop_rounds 3 ?_
 rw [rounds_succ]
 clear t0 t1 v0 v1 m0 m1 s0 s1 s2 s3 s4 s5 s6 s7 r0 r1 r2 r3
 obtain ⟨t0, t1, v0, v1, m0, m1, s0, s1, s2, s3, s4, s5, s6, s7, r0, r1, r2, r3⟩ := GC.out _ X3.out
 go_wp2_with fail
 refine wp_loop_rounds 2 ?_
 rw [rounds_succ]
 clear t0 t1 v0 v1 m0 m1 s0 s1 s2 s3 s4 s5 s6 s7 r0 r1 r2 r3
 obtain ⟨t0, t1, v0, v1, m0, m1, s0, s1, s2, s3, s4, s5, s6, s7, r0, r1, r2, r3⟩ := GC.out _ X3.out
 go_wp2_with fail
 refine wp_loop_rounds 3 ?_
 rw [rounds_succ]
 clear t0 t1 v0 v1 m0 m1 s0 s1 s2 s3 s4 s5 s6 s7 r0 r1 r2 r3
 obtain ⟨t0, t1, v0, v1, m0, m1, s0, s1, s2, s3, s4, s5, s6, s7, r0, r1, r2, r3⟩ := GC.out _ X3.out
 go_wp2_with fail
 refine Calls.mono (R := RetV w3 (.bool true)) (by have := co_has 0 8589934592 0 0 bt hbt w3; rwa [HF0.out] at this) ?_
 rintro e w4 ⟨rfl, o1⟩
 have X4 := hID (X3.out.also o1)
 clear o1 X3
 clear t0 t1 v0 v1 m0 m1 s0 s1 s2 s3 s4 s5 s6 s7 r0 r1 r2 r3
 obtain ⟨t0, t1, v0, v1, m0, m1, s0, s1, s2, s3, s4, s5, s6, s7, r0, r1, r2, r3⟩ := GC.out _ X4.out
 go_wp2_with (at_builtin; refine @wpList_append_lies _ _ _ _ _ _ _ rfl _ _ 22 rfl w0.heap.size 3 i_int (.int .i64 0) 1 8 Tryz.underlying22 h_int z_int s_int b_int rfl (by decide) (.slice none 0 0) (0) ([]) rfl ((OwnL.nilAt X4.out 3 1).1.alloc _) ⟨w4.heap.size, 0, none⟩ 1 1 [.int .i64 0] rfl rfl ?c1 (by decide) (by decide) (by decide) (by decide) (by have := (OwnL.nilAt X4.out 3 1).2.size; simp; omega) _ rfl ?_)
 case c1 => exact cell_lit _ [.int .i64 0] _
 intro g5 cap5 w5 hown hgrow hat hlt
 have OW5 := hID ((OwnL.nilAt X4.out 3 1).grown (Off.alloc (Off.refl Nob w4) (.cells #[.int .i64 0] 3)) hown hgrow)
 have X5 := hID OW5.out.2
 clear hown hgrow hat hlt X4
 clear t0 t1 v0 v1 m0 m1 s0 s1 s2 s3 s4 s5 s6 s7 r0 r1 r2 r3
 obtain ⟨t0, t1, v0, v1, m0, m1, s0, s1, s2, s3, s4, s5, s6, s7, r0, r1, r2, r3⟩ := GC.out _ X5.out
 go_wp2_with fail
 rw [rounds_succ]
 clear t0 t1 v0 v1 m0 m1 s0 s1 s2 s3 s4 s5 s6 s7 r0 r1 r2 r3
 obtain ⟨t0, t1, v0, v1, m0, m1, s0, s1, s2, s3, s4, s5, s6, s7, r0, r1, r2, r3⟩ := GC.out _ X5.out
 go_wp2_with fail
 refine Calls.mono (R := RetV w5 (.bool false)) (by have := co_has 0 17179869184 0 0 bt hbt w5; rwa [HF1.out] at this) ?_
 rintro e w6 ⟨rfl, o1⟩
 have X6 := hID (X5.out.also o1)
 have OW5' := hID (OW5.out.off o1)
 clear OW5
 have OW5 := OW5'
 clear OW5'
 clear o1 X5
 clear t0 t1 v0 v1 m0 m1 s0 s1 s2 s3 s4 s5 s6 s7 r0 r1 r2 r3
 obtain ⟨t0, t1, v0, v1, m0, m1, s0, s1, s2, s3, s4, s5, s6, s7, r0, r1, r2, r3⟩ := GC.out _ X6.out
 go_wp2_with fail
 rw [rounds_succ]
 clear t0 t1 v0 v1 m0 m1 s0 s1 s2 s3 s4 s5 s6 s7 r0 r1 r2 r3
 obtain ⟨t0, t1, v0, v1, m0, m1, s0, s1, s2, s3, s4, s5, s6, s7, r0, r1, r2, r3⟩ := GC.out _ X6.out
 go_wp2_with fail
 rw [rounds_succ]
 clear t0 t1 v0 v1 m0 m1 s0 s1 s2 s3 s4 s5 s6 s7 r0 r1 r2 r3
 obtain ⟨t0, t1, v0, v1, m0, m1, s0, s1, s2, s3, s4, s5, s6, s7, r0, r1, r2, r3⟩ := GC.out _ X6.out
 go_wp2_with fail
 rw [rounds_succ]
 clear t0 t1 v0 v1 m0 m1 s0 s1 s2 s3 s4 s5 s6 s7 r0 r1 r2 r3
 obtain ⟨t0, t1, v0, v1, m0, m1, s0, s1, s2, s3, s4, s5, s6, s7, r0, r1, r2, r3⟩ := GC.out _ X6.out
 go_wp2_with fail
 refine wp_loop_rounds 2 ?_
 rw [rounds_succ]
 clear t0 t1 v0 v1 m0 m1 s0 s1 s2 s3 s4 s5 s6 s7 r0 r1 r2 r3
 obtain ⟨t0, t1, v0, v1, m0, m1, s0, s1, s2, s3, s4, s5, s6, s7, r0, r1, r2, r3⟩ := GC.out _ X6.out
 go_wp2_with fail
 refine wp_loop_rounds 2 ?_
 rw [rounds_succ]
 clear t0 t1 v0 v1 m0 m1 s0 s1 s2 s3 s4 s5 s6 s7 r0 r1 r2 r3
 obtain ⟨t0, t1, v0, v1, m0, m1, s0, s1, s2, s3, s4, s5, s6, s7, r0, r1, r2, r3⟩ := GC.out _ X6.out
 go_wp2_with fail
 refine Calls.mono (R := RetV w6 (.bool true)) (by have := co_has 0 25769803776 0 0 bt hbt w6; rwa [HF2.out] at this) ?_
 rintro e w7 ⟨rfl, o1⟩
 have X7 := hID (X6.out.also o1)
 have OW5' := hID (OW5.out.off o1)
 clear OW5
 have OW5 := OW5'
 clear OW5'
 clear o1 X6
 clear t0 t1 v0 v1 m0 m1 s0 s1 s2 s3 s4 s5 s6 s7 r0 r1 r2 r3
 obtain ⟨t0, t1, v0, v1, m0, m1, s0, s1, s2, s3, s4, s5, s6, s7, r0, r1, r2, r3⟩ := GC.out _ X7.out
 go_wp2_with (at_builtin; refine @wpList_append_lies _ _ _ _ _ _ _ rfl _ _ 22 rfl w0.heap.size 3 i_int (.int .i64 0) 1 8 Tryz.underlying22 h_int z_int s_int b_int rfl (by decide) (.slice (some ⟨g5, 0, none⟩) (0 + 1) cap5) (0 + 1) ([] ++ [.int .i64 0]) rfl (OW5.out.1.alloc _) ⟨w7.heap.size, 0, none⟩ 1 1 [.int .i64 2] rfl rfl ?c1 (by decide) (by decide) (by decide) (by decide) (by have := OW5.out.2.size; simp; omega) _ rfl ?_)
 case c1 => exact cell_lit _ [.int .i64 2] _
 intro g8 cap8 w8 hown hgrow hat hlt
 have OW8 := hID (OW5.out.grown (Off.alloc (Off.refl Nob w7) (.cells #[.int .i64 2] 3)) hown hgrow)
 have X8 := hID OW8.out.2
 clear hown hgrow hat hlt X7 OW5
 clear t0 t1 v0 v1 m0 m1 s0 s1 s2 s3 s4 s5 s6 s7 r0 r1 r2 r3
 obtain ⟨t0, t1, v0, v1, m0, m1, s0, s1, s2, s3, s4, s5, s6, s7, r0, r1, r2, r3⟩ := GC.out _ X8.out
 go_wp2_with fail
 rw [rounds_succ]
 clear t0 t1 v0 v1 m0 m1 s0 s1 s2 s3 s4 s5 s6 s7 r0 r1 r2 r3
 obtain ⟨t0, t1, v0, v1, m0, m1, s0, s1, s2, s3, s4, s5, s6, s7, r0, r1, r2, r3⟩ := GC.out _ X8.out
 go_wp2_with fail
 rw [rounds_succ]
 clear t0 t1 v0 v1 m0 m1 s0 s1 s2 s3 s4 s5 s6 s7 r0 r1 r2 r3
 obtain ⟨t0, t1, v0, v1, m0, m1, s0, s1, s2, s3, s4, s5, s6, s7, r0, r1, r2, r3⟩ := GC.out _ X8.out
 go_wp2_with fail
 rw [rounds_succ]
 clear t0 t1 v0 v1 m0 m1 s0 s1 s2 s3 s4 s5 s6 s7 r0 r1 r2 r3
 obtain ⟨t0, t1, v0, v1, m0, m1, s0, s1, s2, s3, s4, s5, s6, s7, r0, r1, r2, r3⟩ := GC.out _ X8.out
 go_wp2_with fail
 refine (co_rof_02 _ _ OW8.out.rd).mono ?_
 rintro e w9 ⟨u, rfl, hr, o1⟩
 have X9 := hID (X8.out.also o1)
 obtain ⟨hr, o1⟩ := id (And.intro hr o1)
 have HZ := hID hr.any
 clear hr
 clear o1 X8
 clear t0 t1 v0 v1 m0 m1 s0 s1 s2 s3 s4 s5 s6 s7 r0 r1 r2 r3
 obtain ⟨t0, t1, v0, v1, m0, m1, s0, s1, s2, s3, s4, s5, s6, s7, r0, r1, r2, r3⟩ := GC.out _ X9.out
 go_wp2_with fail
 go_ret2
 exact ⟨_, rfl, HZ.out, HB0.out.2.also X9.out⟩
set_option maxHeartbeats 16000000 in
theorem co_row_b (w : World) (v rv l0 l1 ma mb : Value) (hv : Rd w (fun _ => True) 3 v 2 ln_ab) (hr : Rd w (fun _ => True) 1 rv 2 [l0, l1]) (h0 : Rd w (fun _ => True) 1 l0 1 [ma]) (h1 : Rd w (fun _ => True) 1 l1 1 [mb]) (ha : Rd w (fun _ => True) 4 ma 2 se_a) (hb : Rd w (fun _ => True) 4 mb 1 se_b) (bt : Nat) (hbt : bt < 256) (hf0 : hasB 0 8589934592 0 0 bt = false) (hf1 : hasB 0 17179869184 0 0 bt = true) (hf2 : hasB 0 25769803776 0 0 bt = true) :
  Calls Tryz.prog 128 #[.agg #[.int .i64 1, v], rv, .int .u8 (bt : Int)] w (fun e w' => ∃ u, e = .returned (.tuple #[u, .int .i64 0]) ∧ Rd w' (fun _ => True) 1 u 1 [.int .u64 6] ∧ Off Nob w w') := by
 have HF0 := hID hf0
 have HF1 := hID hf1
 have HF2 := hID hf2
 obtain ⟨i_int, h_int, z_int, s_int, b_int⟩ := info_parts Tryz.infoI'
 have HV0 := hID hv
 have HR0 := hID hr
 have H00 := hID h0
 have H10 := hID h1
 obtain ⟨b, o, c, rfl, hc⟩ := hv.cellsT (by decide)
 obtain ⟨bb, oo, cc, rfl, hcr⟩ := hr.cellsT (by decide)
 obtain ⟨b0, o0, c0, rfl, hc0⟩ := h0.cellsT (by decide)
 obtain ⟨b1, o1, c1, rfl, hc1⟩ := h1.cellsT (by decide)
 obtain ⟨ba, oa, ca, rfl, hca⟩ := ha.cellsT (by decide)
 obtain ⟨be, oe, ce, rfl, hce⟩ := hb.cellsT (by decide)
 have HV := HV0
 have HR := HR0
 have H0 := H00
 have H1 := H10
 have HC := hID (And.intro hc (And.intro hcr (And.intro hc0 (And.intro hc1 (And.intro hca hce)))))
 clear hc hv hr h0 h1 ha hb hcr hc0 hc1 hca hce HV0 HR0 H00 H10 hf0 hf1 hf2
 go_enter Tryz.func128, Tryz.ntmps128
 go_wp2_with fail
 have HB0 : Hid (Blk (w.alloc (.cells #[.int .i64 1, .slice (some ⟨b, o, none⟩) 2 c] 97)) w.heap.size 97 #[.int .i64 1, .slice (some ⟨b, o, none⟩) 2 c] ∧ Off Nob w (w.alloc (.cells #[.int .i64 1, .slice (some ⟨b, o, none⟩) 2 c] 97))) := hID ⟨Blk.new _ _ _, Off.alloc (Off.refl _ _) _⟩
 revert HB0
 generalize (w.alloc (.cells #[.int .i64 1, .slice (some ⟨b, o, none⟩) 2 c] 97)) = w0
 intro HB0
 have GC : Hid (∀ W, Off Nob w0 W → W.cell? ⟨w.heap.size, 0, none⟩ = some (.int .i64 1) ∧ W.cell? ⟨w.heap.size, 1, none⟩ = some (.slice (some ⟨b, o, none⟩) 2 c) ∧ W.cell? ⟨bb, oo, none⟩ = some (.slice (some ⟨b0, o0, none⟩) 1 c0) ∧ W.cell? ⟨bb, oo + 1, none⟩ = some (.slice (some ⟨b1, o1, none⟩) 1 c1) ∧ W.cell? ⟨b0, o0, none⟩ = some (.slice (some ⟨ba, oa, none⟩) 2 ca) ∧ W.cell? ⟨b1, o1, none⟩ = some (.slice (some ⟨be, oe, none⟩) 1 ce) ∧ W.cell? ⟨ba, oa, none⟩ = some (.int .u64 0) ∧ W.cell? ⟨ba, oa + 1, none⟩ = some (.int .u64 8589934592) ∧ W.cell? ⟨ba, oa + 2, none⟩ = some (.int .u64 0) ∧ W.cell? ⟨ba, oa + 3, none⟩ = some (.int .u64 0) ∧ W.cell? ⟨ba, oa + 4, none⟩ = some (.int .u64 0) ∧ W.cell? ⟨ba, oa + 5, none⟩ = some (.int .u64 17179869184) ∧ W.cell? ⟨ba, oa + 6, none⟩ = some (.int .u64 0) ∧ W.cell? ⟨ba, oa + 7, none⟩ = some (.int .u64 0) ∧ W.cell? ⟨be, oe, none⟩ = some (.int .u64 0) ∧ W.cell? ⟨be, oe + 1, none⟩ = some (.int .u64 25769803776) ∧ W.cell? ⟨be, oe + 2, none⟩ = some (.int .u64 0) ∧ W.cell? ⟨be, oe + 3, none⟩ = some (.int .u64 0)) := hID (fun W ho => by
  have h := HB0.out.1.to (ho.block _ HB0.out.1.lt (fun h => h))
  have k := HB0.out.2.also ho
  obtain ⟨g1, g2, g3, g4, g5, g6⟩ := HC.out
  exact ⟨h.cell 0, h.cell 1, g2 W k 0 _ rfl, g2 W k 1 _ rfl, g3 W k 0 _ rfl, g4 W k 0 _ rfl, g5 W k 0 _ rfl, g5 W k 1 _ rfl, g5 W k 2 _ rfl, g5 W k 3 _ rfl, g5 W k 4 _ rfl, g5 W k 5 _ rfl, g5 W k 6 _ rfl, g5 W k 7 _ rfl, g6 W k 0 _ rfl, g6 W k 1 _ rfl, g6 W k 2 _ rfl, g6 W k 3 _ rfl⟩)
 have X0 : Hid (Off Nob w0 w0) := hID (Off.refl _ _)
 obtain ⟨t0, t1, v0, v1, m0, m1, s0, s1, s2, s3, s4, s5, s6, s7, r0, r1, r2, r3⟩ := GC.out _ X0.out
 go_wp2_with fail
 refine (co_lcheck _ _ (HV.out.keepT HB0.out.2)).mono ?_
 rintro e w1 ⟨rfl, o1⟩
 have X1 := hID (X0.out.also o1)
 clear o1 X0
 clear t0 t1 v0 v1 m0 m1 s0 s1 s2 s3 s4 s5 s6 s7 r0 r1 r2 r3
 obtain ⟨t0, t1, v0, v1, m0, m1, s0, s1, s2, s3, s4, s5, s6, s7, r0, r1, r2, r3⟩ := GC.out _ X1.out
 go_wp2_with fail
 refine (co_pack _ _ _ _ _ _ _ _ (HR.out.keepT (HB0.out.2.also X1.out)) (H0.out.keepT (HB0.out.2.also X1.out)) (H1.out.keepT (HB0.out.2.also X1.out))).mono ?_
 rintro e w2 ⟨u, rfl, hr, o1⟩
 have X2 := hID (X1.out.also o1)
 obtain ⟨hr, o1⟩ := id (And.intro hr o1)
 obtain ⟨AU, cu, rfl, _⟩ := hr.form
 have HU := hID hr
 clear hr
 clear o1 X1
 clear t0 t1 v0 v1 m0 m1 s0 s1 s2 s3 s4 s5 s6 s7 r0 r1 r2 r3
 obtain ⟨t0, t1, v0, v1, m0, m1, s0, s1, s2, s3, s4, s5, s6, s7, r0, r1, r2, r3⟩ := GC.out _ (X2.out.alloc (.cells #[.int .i64 1, .slice AU 2 cu] 97))
 go_wp2_with fail
 refine (co_psame _ _ _ (HV.out.keepT (HB0.out.2.also (X2.out.alloc _))) (HU.out.keepT (Off.alloc (Off.refl _ _) _))).mono ?_
 rintro e w3 ⟨rfl, o1⟩
 have X3 := hID ((X2.out.alloc (.cells #[.int .i64 1, .slice AU 2 cu] 97)).also o1)
 clear o1 X2 HU
 clear t0 t1 v0 v1 m0 m1 s0 s1 s2 s3 s4 s5 s6 s7 r0 r1 r2 r3
 obtain ⟨t0, t1, v0, v1, m0, m1, s0, s1, s2, s3, s4, s5, s6, s7, r0, r1, r2, r3⟩ := GC.out _ X3.out
 go_wp2_with fail
 refine wp_loop_rounds 3 ?_
 rw [rounds_succ]
 clear t0 t1 v0 v1 m0 m1 s0 s1 s2 s3 s4 s5 s6 s7 r0 r1 r2 r3
 obtain ⟨t0, t1, v0, v1, m0, m1, s0, s1, s2, s3, s4, s5, s6, s7, r0, r1, r2, r3⟩ := GC.out _ X3.out
 go_wp2_with fail
 refine wp_loop_rounds 2 ?_
 rw [rounds_succ]
 clear t0 t1 v0 v1 m0 m1 s0 s1 s2 s3 s4 s5 s6 s7 r0 r1 r2 r3
 obtain ⟨t0, t1, v0, v1, m0, m1, s0, s1, s2, s3, s4, s5, s6, s7, r0, r1, r2, r3⟩ := GC.out _ X3.out
 go_wp2_with fail
 refine wp_loop_rounds 3 ?_
 rw [rounds_succ]
 clear t0 t1 v0 v1 m0 m1 s0 s1 s2 s3 s4 s5 s6 s7 r0 r1 r2 r3
 obtain ⟨t0, t1, v0, v1, m0, m1, s0, s1, s2, s3, s4, s5, s6, s7, r0, r1, r2, r3⟩ := GC.out _ X3.out
 go_wp2_with fail
 refine Calls.mono (R := RetV w3 (.bool false)) (by have := co_has 0 8589934592 0 0 bt hbt w3; rwa [HF0.out] at this) ?_
 rintro e w4 ⟨rfl, o1⟩
 have X4 := hID (X3.out.also o1)
 clear o1 X3
 clear t0 t1 v0 v1 m0 m1 s0 s1 s2 s3 s4 s5 s6 s7 r0 r1 r2 r3
 obtain ⟨t0, t1, v0, v1, m0, m1, s0, s1, s2, s3, s4, s5, s6, s7, r0, r1, r2, r3⟩ := GC.out _ X4.out
 go_wp2_with fail
 rw [rounds_succ]
 clear t0 t1 v0 v1 m0 m1 s0 s1 s2 s3 s4 s5 s6 s7 r0 r1 r2 r3
 obtain ⟨t0, t1, v0, v1, m0, m1, s0, s1, s2, s3, s4, s5, s6, s7, r0, r1, r2, r3⟩ := GC.out _ X4.out
 go_wp2_with fail
 refine Calls.mono (R := RetV w4 (.bool true)) (by have := co_has 0 17179869184 0 0 bt hbt w4; rwa [HF1.out] at this) ?_
 rintro e w5 ⟨rfl, o1⟩
 have X5 := hID (X4.out.also o1)
 clear o1 X4
 clear t0 t1 v0 v1 m0 m1 s0 s1 s2 s3 s4 s5 s6 s7 r0 r1 r2 r3
 obtain ⟨t0, t1, v0, v1, m0, m1, s0, s1, s2, s3, s4, s5, s6, s7, r0, r1, r2, r3⟩ := GC.out _ X5.out
 go_wp2_with (at_builtin; refine @wpList_append_lies _ _ _ _ _ _ _ rfl _ _ 22 rfl w0.heap.size 3 i_int (.int .i64 0) 1 8 Tryz.underlying22 h_int z_int s_int b_int rfl (by decide) (.slice none 0 0) (0) ([]) rfl ((OwnL.nilAt X5.out 3 1).1.alloc _) ⟨w5.heap.size, 0, none⟩ 1 1 [.int .i64 1] rfl rfl ?c1 (by decide) (by decide) (by decide) (by decide) (by have := (OwnL.nilAt X5.out 3 1).2.size; simp; omega) _ rfl ?_)
 case c1 => exact cell_lit _ [.int .i64 1] _
 intro g6 cap6 w6 hown hgrow hat hlt
 have OW6 := hID ((OwnL.nilAt X5.out 3 1).grown (Off.alloc (Off.refl Nob w5) (.cells #[.int .i64 1] 3)) hown hgrow)
 have X6 := hID OW6.out.2
 clear hown hgrow hat hlt X5
 clear t0 t1 v0 v1 m0 m1 s0 s1 s2 s3 s4 s5 s6 s7 r0 r1 r2 r3
 obtain ⟨t0, t1, v0, v1, m0, m1, s0, s1, s2, s3, s4, s5, s6, s7, r0, r1, r2, r3⟩ := GC.out _ X6.out
 go_wp2_with fail
 rw [rounds_succ]
 clear t0 t1 v0 v1 m0 m1 s0 s1 s2 s3 s4 s5 s6 s7 r0 r1 r2 r3
 obtain ⟨t0, t1, v0, v1, m0, m1, s0, s1, s2, s3, s4, s5, s6, s7, r0, r1, r2, r3⟩ := GC.out _ X6.out
 go_wp2_with fail
 rw [rounds_succ]
 clear t0 t1 v0 v1 m0 m1 s0 s1 s2 s3 s4 s5 s6 s7 r0 r1 r2 r3
 obtain ⟨t0, t1, v0, v1, m0, m1, s0, s1, s2, s3, s4, s5, s6, s7, r0, r1, r2, r3⟩ := GC.out _ X6.out
 go_wp2_with fail
 rw [rounds_succ]
 clear t0 t1 v0 v1 m0 m1 s0 s1 s2 s3 s4 s5 s6 s7 r0 r1 r2 r3
 obtain ⟨t0, t1, v0, v1, m0, m1, s0, s1, s2, s3, s4, s5, s6, s7, r0, r1, r2, r3⟩ := GC.out _ X6.out
 go_wp2_with fail
 refine wp_loop_rounds 2 ?_
 rw [rounds_succ]
 clear t0 t1 v0 v1 m0 m1 s0 s1 s2 s3 s4 s5 s6 s7 r0 r1 r2 r3
 obtain ⟨t0, t1, v0, v1, m0, m1, s0, s1, s2, s3, s4, s5, s6, s7, r0, r1, r2, r3⟩ := GC.out _ X6.out
 go_wp2_with fail
 refine wp_loop_rounds 2 ?_
 rw [rounds_succ]
 clear t0 t1 v0 v1 m0 m1 s0 s1 s2 s3 s4 s5 s6 s7 r0 r1 r2 r3
 obtain ⟨t0, t1, v0, v1, m0, m1, s0, s1, s2, s3, s4, s5, s6, s7, r0, r1, r2, r3⟩ := GC.out _ X6.out
 go_wp2_with fail
 refine Calls.mono (R := RetV w6 (.bool true)) (by have := co_has 0 25769803776 0 0 bt hbt w6; rwa [HF2.out] at this) ?_
 rintro e w7 ⟨rfl, o1⟩
 have X7 := hID (X6.out.also o1)
 have OW6' := hID (OW6.out.off o1)
 clear OW6
 have OW6 := OW6'
 clear OW6'
 clear o1 X6
 clear t0 t1 v0 v1 m0 m1 s0 s1 s2 s3 s4 s5 s6 s7 r0 r1 r2 r3
 obtain ⟨t0, t1, v0, v1, m0, m1, s0, s1, s2, s3, s4, s5, s6, s7, r0, r1, r2, r3⟩ := GC.out _ X7.out
 go_wp2_with (at_builtin; refine @wpList_append_lies _ _ _ _ _ _ _ rfl _ _ 22 rfl w0.heap.size 3 i_int (.int .i64 0) 1 8 Tryz.underlying22 h_int z_int s_int b_int rfl (by decide) (.slice (some ⟨g6, 0, none⟩) (0 + 1) cap6) (0 + 1) ([] ++ [.int .i64 1]) rfl (OW6.out.1.alloc _) ⟨w7.heap.size, 0, none⟩ 1 1 [.int .i64 2] rfl rfl ?c1 (by decide) (by decide) (by decide) (by decide) (by have := OW6.out.2.size; simp; omega) _ rfl ?_)
 case c1 => exact cell_lit _ [.int .i64 2] _
 intro g8 cap8 w8 hown hgrow hat hlt
 have OW8 := hID (OW6.out.grown (Off.alloc (Off.refl Nob w7) (.cells #[.int .i64 2] 3)) hown hgrow)
 have X8 := hID OW8.out.2
 clear hown hgrow hat hlt X7 OW6
 clear t0 t1 v0 v1 m0 m1 s0 s1 s2 s3 s4 s5 s6 s7 r0 r1 r2 r3
 obtain ⟨t0, t1, v0, v1, m0, m1, s0, s1, s2, s3, s4, s5, s6, s7, r0, r1, r2, r3⟩ := GC.out _ X8.out
 go_wp2_with fail
 rw [rounds_succ]
 clear t0 t1 v0 v1 m0 m1 s0 s1 s2 s3 s4 s5 s6 s7 r0 r1 r2 r3
 obtain ⟨t0, t1, v0, v1, m0, m1, s0, s1, s2, s3, s4, s5, s6, s7, r0, r1, r2, r3⟩ := GC.out _ X8.out
 go_wp2_with fail
 rw [rounds_succ]
 clear t0 t1 v0 v1 m0 m1 s0 s1 s2 s3 s4 s5 s6 s7 r0 r1 r2 r3
 obtain ⟨t0, t1, v0, v1, m0, m1, s0, s1, s2, s3, s4, s5, s6, s7, r0, r1, r2, r3⟩ := GC.out _ X8.out
 go_wp2_with fail
 rw [rounds_succ]
 clear t0 t1 v0 v1 m0 m1 s0 s1 s2 s3 s4 s5 s6 s7 r0 r1 r2 r3
 obtain ⟨t0, t1, v0, v1, m0, m1, s0, s1, s2, s3, s4, s5, s6, s7, r0, r1, r2, r3⟩ := GC.out _ X8.out
 go_wp2_with fail
 refine (co_rof_12 _ _ OW8.out.rd).mono ?_
 rintro e w9 ⟨u, rfl, hr, o1⟩
 have X9 := hID (X8.out.also o1)
 obtain ⟨hr, o1⟩ := id (And.intro hr o1)
 have HZ := hID hr.any
 clear hr
 clear o1 X8
 clear t0 t1 v0 v1 m0 m1 s0 s1 s2 s3 s4 s5 s6 s7 r0 r1 r2 r3
 obtain ⟨t0, t1, v0, v1, m0, m1, s0, s1, s2, s3, s4, s5, s6, s7, r0, r1, r2, r3⟩ := GC.out _ X9.out
 go_wp2_with fail
 go_ret2
 exact ⟨_, rfl, HZ.out, HB0.out.2.also X9.out⟩
set_option maxHeartbeats 16000000 in
theorem co_row_x (w : World) (v rv l0 l1 ma mb : Value) (hv : Rd w (fun _ => True) 3 v 2 ln_ab) (hr : Rd w (fun _ => True) 1 rv 2 [l0, l1]) (h0 : Rd w (fun _ => True) 1 l0 1 [ma]) (h1 : Rd w (fun _ => True) 1 l1 1 [mb]) (ha : Rd w (fun _ => True) 4 ma 2 se_a) (hb : Rd w (fun _ => True) 4 mb 1 se_b) (bt : Nat) (hbt : bt < 256) (hf0 : hasB 0 8589934592 0 0 bt = false) (hf1 : hasB 0 17179869184 0 0 bt = false) (hf2 : hasB 0 25769803776 0 0 bt = false) :
  Calls Tryz.prog 128 #[.agg #[.int .i64 1, v], rv, .int .u8 (bt : Int)] w (fun e w' => ∃ u, e = .returned (.tuple #[u, .int .i64 0]) ∧ Rd w' (fun _ => True) 1 u 1 [.int .u64 0] ∧ Off Nob w w') := by
 have HF0 := hID hf0
 have HF1 := hID hf1
 have HF2 := hID hf2
 obtain ⟨i_int, h_int, z_int, s_int, b_int⟩ := info_parts Tryz.infoI'
 have HV0 := hID hv
 have HR0 := hID hr
 have H00 := hID h0
 have H10 := hID h1
 obtain ⟨b, o, c, rfl, hc⟩ := hv.cellsT (by decide)
 obtain ⟨bb, oo, cc, rfl, hcr⟩ := hr.cellsT (by decide)
 obtain ⟨b0, o0, c0, rfl, hc0⟩ := h0.cellsT (by decide)
 obtain ⟨b1, o1, c1, rfl, hc1⟩ := h1.cellsT (by decide)
 obtain ⟨ba, oa, ca, rfl, hca⟩ := ha.cellsT (by decide)
 obtain ⟨be, oe, ce, rfl, hce⟩ := hb.cellsT (by decide)
 have HV := HV0
 have HR := HR0
 have H0 := H00
 have H1 := H10
 have HC := hID (And.intro hc (And.intro hcr (And.intro hc0 (And.intro hc1 (And.intro hca hce)))))
 clear hc hv hr h0 h1 ha hb hcr hc0 hc1 hca hce HV0 HR0 H00 H10 hf0 hf1 hf2
 go_enter Tryz.func128, Tryz.ntmps128
 go_wp2_with fail
 have HB0 : Hid (Blk (w.alloc (.cells #[.int .i64 1, .slice (some ⟨b, o, none⟩) 2 c] 97)) w.heap.size 97 #[.int .i64 1, .slice (some ⟨b, o, none⟩) 2 c] ∧ Off Nob w (w.alloc (.cells #[.int .i64 1, .slice (some ⟨b, o, none⟩) 2 c] 97))) := hID ⟨Blk.new _ _ _, Off.alloc (Off.refl _ _) _⟩
 revert HB0
 generalize (w.alloc (.cells #[.int .i64 1, .slice (some ⟨b, o, none⟩) 2 c] 97)) = w0
 intro HB0
 have GC : Hid (∀ W, Off Nob w0 W → W.cell? ⟨w.heap.size, 0, none⟩ = some (.int .i64 1) ∧ W.cell? ⟨w.heap.size, 1, none⟩ = some (.slice (some ⟨b, o, none⟩) 2 c) ∧ W.cell? ⟨bb, oo, none⟩ = some (.slice (some ⟨b0, o0, none⟩) 1 c0) ∧ W.cell? ⟨bb, oo + 1, none⟩ = some (.slice (some ⟨b1, o1, none⟩) 1 c1) ∧ W.cell? ⟨b0, o0, none⟩ = some (.slice (some ⟨ba, oa, none⟩) 2 ca) ∧ W.cell? ⟨b1, o1, none⟩ = some (.slice (some ⟨be, oe, none⟩) 1 ce) ∧ W.cell? ⟨ba, oa, none⟩ = some (.int .u64 0) ∧ W.cell? ⟨ba, oa + 1, none⟩ = some (.int .u64 8589934592) ∧ W.cell? ⟨ba, oa + 2, none⟩ = some (.int .u64 0) ∧ W.cell? ⟨ba, oa + 3, none⟩ = some (.int .u64 0) ∧ W.cell? ⟨ba, oa + 4, none⟩ = some (.int .u64 0) ∧ W.cell? ⟨ba, oa + 5, none⟩ = some (.int .u64 17179869184) ∧ W.cell? ⟨ba, oa + 6, none⟩ = some (.int .u64 0) ∧ W.cell? ⟨ba, oa + 7, none⟩ = some (.int .u64 0) ∧ W.cell? ⟨be, oe, none⟩ = some (.int .u64 0) ∧ W.cell? ⟨be, oe + 1, none⟩ = some (.int .u64 25769803776) ∧ W.cell? ⟨be, oe + 2, none⟩ = some (.int .u64 0) ∧ W.cell? ⟨be, oe + 3, none⟩ = some (.int .u64 0)) := hID (fun W ho => by
  have h := HB0.out.1.to (ho.block _ HB0.out.1.lt (fun h => h))
  have k := HB0.out.2.also ho
  obtain ⟨g1, g2, g3, g4, g5, g6⟩ := HC.out
  exact ⟨h.cell 0, h.cell 1, g2 W k 0 _ rfl, g2 W k 1 _ rfl, g3 W k 0 _ rfl, g4 W k 0 _ rfl, g5 W k 0 _ rfl, g5 W k 1 _ rfl, g5 W k 2 _ rfl, g5 W k 3 _ rfl, g5 W k 4 _ rfl, g5 W k 5 _ rfl, g5 W k 6 _ rfl, g5 W k 7 _ rfl, g6 W k 0 _ rfl, g6 W k 1 _ rfl, g6 W k 2 _ rfl, g6 W k 3 _ rfl⟩)
 have X0 : Hid (Off Nob w0 w0) := hID (Off.refl _ _)
 obtain ⟨t0, t1, v0, v1, m0, m1, s0, s1, s2, s3, s4, s5, s6, s7, r0, r1, r2, r3⟩ := GC.out _ X0.out
 go_wp2_with fail
 refine (co_lcheck _ _ (HV.out.keepT HB0.out.2)).mono ?_
 rintro e w1 ⟨rfl, o1⟩
 have X1 := hID (X0.out.also o1)
 clear o1 X0
 clear t0 t1 v0 v1 m0 m1 s0 s1 s2 s3 s4 s5 s6 s7 r0 r1 r2 r3
 obtain ⟨t0, t1, v0, v1, m0, m1, s0, s1, s2, s3, s4, s5, s6, s7, r0, r1, r2, r3⟩ := GC.out _ X1.out
 go_wp2_with fail
 refine (co_pack _ _ _ _ _ _ _ _ (HR.out.keepT (HB0.out.2.also X1.out)) (H0.out.keepT (HB0.out.2.also X1.out)) (H1.out.keepT (HB0.out.2.also X1.out))).mono ?_
 rintro e w2 ⟨u, rfl, hr, o1⟩
 have X2 := hID (X1.out.also o1)
 obtain ⟨hr, o1⟩ := id (And.intro hr o1)
 obtain ⟨AU, cu, rfl, _⟩ := hr.form
 have HU := hID hr
 clear hr
 clear o1 X1
 clear t0 t1 v0 v1 m0 m1 s0 s1 s2 s3 s4 s5 s6 s7 r0 r1 r2 r3
 obtain ⟨t0, t1, v0, v1, m0, m1, s0, s1, s2, s3, s4, s5, s6, s7, r0, r1, r2, r3⟩ := GC.out _ (X2.out.alloc (.cells #[.int .i64 1, .slice AU 2 cu] 97))
 go_wp2_with fail
 refine (co_psame _ _ _ (HV.out.keepT (HB0.out.2.also (X2.out.alloc _))) (HU.out.keepT (Off.alloc (Off.refl _ _) _))).mono ?_
 rintro e w3 ⟨rfl, o1⟩
 have X3 := hID ((X2.out.alloc (.cells #[.int .i64 1, .slice AU 2 cu] 97)).also o1)
 clear o1 X2 HU
 clear t0 t1 v0 v1 m0 m1 s0 s1 s2 s3 s4 s5 s6 s7 r0 r1 r2 r3
 obtain ⟨t0, t1, v0, v1, m0, m1, s0, s1, s2, s3, s4, s5, s6, s7, r0, r1, r2, r3⟩ := GC.out _ X3.out
 go_wp2_with fail
 refine wp_loop_rounds 3 ?_
 rw [rounds_succ]
 clear t0 t1 v0 v1 m0 m1 s0 s1 s2 s3 s4 s5 s6 s7 r0 r1 r2 r3
 obtain ⟨t0, t1, v0, v1, m0, m1, s0, s1, s2, s3, s4, s5, s6, s7, r0, r1, r2, r3⟩ := GC.out _ X3.out
 go_wp2_with fail
 refine wp_loop_rounds 2 ?_
 rw [rounds_succ]
 clear t0 t1 v0 v1 m0 m1 s0 s1 s2 s3 s4 s5 s6 s7 r0 r1 r2 r3
 obtain ⟨t0, t1, v0, v1, m0, m1, s0, s1, s2, s3, s4, s5, s6, s7, r0, r1, r2, r3⟩ := GC.out _ X3.out
 go_wp2_with fail
 refine wp_loop_rounds 3 ?_
 rw [rounds_succ]
 clear t0 t1 v0 v1 m0 m1 s0 s1 s2 s3 s4 s5 s6 s7 r0 r1 r2 r3
 obtain ⟨t0, t1, v0, v1, m0, m1, s0, s1, s2, s3, s4, s5, s6, s7, r0, r1, r2, r3⟩ := GC.out _ X3.out
 go_wp2_with fail
 refine Calls.mono (R := RetV w3 (.bool false)) (by have := co_has 0 8589934592 0 0 bt hbt w3; rwa [HF0.out] at this) ?_
 rintro e w4 ⟨rfl, o1⟩
 have X4 := hID (X3.out.also o1)
 clear o1 X3
 clear t0 t1 v0 v1 m0 m1 s0 s1 s2 s3 s4 s5 s6 s7 r0 r1 r2 r3
 obtain ⟨t0, t1, v0, v1, m0, m1, s0, s1, s2, s3, s4, s5, s6, s7, r0, r1, r2, r3⟩ := GC.out _ X4.out
 go_wp2_with fail
 rw [rounds_succ]
 clear t0 t1 v0 v1 m0 m1 s0 s1 s2 s3 s4 s5 s6 s7 r0 r1 r2 r3
 obtain ⟨t0, t1, v0, v1, m0, m1, s0, s1, s2, s3, s4, s5, s6, s7, r0, r1, r2, r3⟩ := GC.out _ X4.out
 go_wp2_with fail
 refine Calls.mono (R := RetV w4 (.bool false)) (by have := co_has 0 17179869184 0 0 bt hbt w4; rwa [HF1.out] at this) ?_
 rintro e w5 ⟨rfl, o1⟩
 have X5 := hID (X4.out.also o1)
 clear o1 X4
 clear t0 t1 v0 v1 m0 m1 s0 s1 s2 s3 s4 s5 s6 s7 r0 r1 r2 r3
 obtain ⟨t0, t1, v0, v1, m0, m1, s0, s1, s2, s3, s4, s5, s6, s7, r0, r1, r2, r3⟩ := GC.out _ X5.out
 go_wp2_with fail
 rw [rounds_succ]
 clear t0 t1 v0 v1 m0 m1 s0 s1 s2 s3 s4 s5 s6 s7 r0 r1 r2 r3
 obtain ⟨t0, t1, v0, v1, m0, m1, s0, s1, s2, s3, s4, s5, s6, s7, r0, r1, r2, r3⟩ := GC.out _ X5.out
 go_wp2_with fail
 rw [rounds_succ]
 clear t0 t1 v0 v1 m0 m1 s0 s1 s2 s3 s4 s5 s6 s7 r0 r1 r2 r3
 obtain ⟨t0, t1, v0, v1, m0, m1, s0, s1, s2, s3, s4, s5, s6, s7, r0, r1, r2, r3⟩ := GC.out _ X5.out
 go_wp2_with fail
 rw [rounds_succ]
 clear t0 t1 v0 v1 m0 m1 s0 s1 s2 s3 s4 s5 s6 s7 r0 r1 r2 r3
 obtain ⟨t0, t1, v0, v1, m0, m1, s0, s1, s2, s3, s4, s5, s6, s7, r0, r1, r2, r3⟩ := GC.out _ X5.out
 go_wp2_with fail
 refine wp_loop_rounds 2 ?_
 rw [rounds_succ]
 clear t0 t1 v0 v1 m0 m1 s0 s1 s2 s3 s4 s5 s6 s7 r0 r1 r2 r3
 obtain ⟨t0, t1, v0, v1, m0, m1, s0, s1, s2, s3, s4, s5, s6, s7, r0, r1, r2, r3⟩ := GC.out _ X5.out
 go_wp2_with fail
 refine wp_loop_rounds 2 ?_
 rw [rounds_succ]
 clear t0 t1 v0 v1 m0 m1 s0 s1 s2 s3 s4 s5 s6 s7 r0 r1 r2 r3
 obtain ⟨t0, t1, v0, v1, m0, m1, s0, s1, s2, s3, s4, s5, s6, s7, r0, r1, r2, r3⟩ := GC.out _ X5.out
 go_wp2_with fail
 refine Calls.mono (R := RetV w5 (.bool false)) (by have := co_has 0 25769803776 0 0 bt hbt w5; rwa [HF2.out] at this) ?_
 rintro e w6 ⟨rfl, o1⟩
 have X6 := hID (X5.out.also o1)
 clear o1 X5
 clear t0 t1 v0 v1 m0 m1 s0 s1 s2 s3 s4 s5 s6 s7 r0 r1 r2 r3
 obtain ⟨t0, t1, v0, v1, m0, m1, s0, s1, s2, s3, s4, s5, s6, s7, r0, r1, r2, r3⟩ := GC.out _ X6.out
 go_wp2_with fail
 rw [rounds_succ]
 clear t0 t1 v0 v1 m0 m1 s0 s1 s2 s3 s4 s5 s6 s7 r0 r1 r2 r3
 obtain ⟨t0, t1, v0, v1, m0, m1, s0, s1, s2, s3, s4, s5, s6, s7, r0, r1, r2, r3⟩ := GC.out _ X6.out
 go_wp2_with fail
 rw [rounds_succ]
 clear t0 t1 v0 v1 m0 m1 s0 s1 s2 s3 s4 s5 s6 s7 r0 r1 r2 r3
 obtain ⟨t0, t1, v0, v1, m0, m1, s0, s1, s2, s3, s4, s5, s6, s7, r0, r1, r2, r3⟩ := GC.out _ X6.out
 go_wp2_with fail
 rw [rounds_succ]
 clear t0 t1 v0 v1 m0 m1 s0 s1 s2 s3 s4 s5 s6 s7 r0 r1 r2 r3
 obtain ⟨t0, t1, v0, v1, m0, m1, s0, s1, s2, s3, s4, s5, s6, s7, r0, r1, r2, r3⟩ := GC.out _ X6.out
 go_wp2_with fail
 refine (co_rof_no _ _ (rd_zero _ _ _ _)).mono ?_
 rintro e w7 ⟨u, rfl, hr, o1⟩
 have X7 := hID (X6.out.also o1)
 obtain ⟨hr, o1⟩ := id (And.intro hr o1)
 have HZ := hID hr.any
 clear hr
 clear o1 X6
 clear t0 t1 v0 v1 m0 m1 s0 s1 s2 s3 s4 s5 s6 s7 r0 r1 r2 r3
 obtain ⟨t0, t1, v0, v1, m0, m1, s0, s1, s2, s3, s4, s5, s6, s7, r0, r1, r2, r3⟩ := GC.out _ X7.out
 go_wp2_with fail
 go_ret2
 exact ⟨_, rfl, HZ.out, HB0.out.2.also X7.out⟩
end Go.Proofs.YtkflicifngohcaaGreatDoor

namespace Go.Proofs.YtkflicifngohcaaGreatDoor
open Go.RowKit
set_option maxRecDepth 100000
structure Lay where
 a : Int
 b : Int
 t : Int
 s : Int
 f : Int
 st : Int
 n : Int
 h : Int
def Lay.val (l : Lay) : Value := .agg #[.int .i64 l.a, .int .i64 l.b, .int .i64 l.t, .int .i64 l.s, .int .i64 l.f, .int .i64 l.st, .int .i64 l.n, .int .i64 l.h]
def Lay.cells (l : Lay) : Array Value := #[.int .i64 l.a, .int .i64 l.b, .int .i64 l.t, .int .i64 l.s, .int .i64 l.f, .int .i64 l.st, .int .i64 l.n, .int .i64 l.h]
def Lay.parts (l : Lay) : List (Int × Int) := [(l.t, 256 * l.a), (l.s, l.a), (l.f, l.b * l.a), (l.st, l.a), (l.n, l.a), (l.h, l.b)]
structure Lay.Ok (l : Lay) (n : Nat) : Prop where
 a1 : 1 ≤ l.a
 a4 : l.a ≤ 4
 b1 : 1 ≤ l.b
 b16 : l.b ≤ 16
 pos : ∀ k, k < 6 → 0 ≤ (pAt l.parts k).1 ∧ 0 ≤ (pAt l.parts k).2 ∧ (pAt l.parts k).1 + (pAt l.parts k).2 ≤ n
 apart : apAll l.parts = true
def macC (p : Nat) (l : Lay) : Array Value := #[.pointer (some ⟨p, 0, none⟩), .int .i64 l.a, .int .i64 l.b, .int .i64 l.t, .int .i64 l.s, .int .i64 l.f, .int .i64 l.st, .int .i64 l.n, .int .i64 l.h, .int .i64 0]
def MacNew (w : World) (p : Nat) (l : Lay) (e : Ending) (w' : World) : Prop := ∃ g, e = .returned (.tuple #[.pointer (some ⟨g, 0, none⟩), .int .i64 0]) ∧ w.heap.size ≤ g ∧ Blk w' g 112 (macC p l) ∧ Off Nob w w'
theorem rd_blk {W : World} {g n size : Nat} {t : TypeId} {cs : Array Value} (h : Blk W g t cs) (hl : cs.toList.length = n * size) (hn : n ≤ maxLen) : Rd W (fun _ => True) size (.slice (some ⟨g, 0, none⟩) n n) n cs.toList :=
 ⟨_, _, rfl, hn, hl, fun _ => ⟨g, 0, rfl, trivial, h.lt, fun j u hu => by
  rw [Nat.zero_add, h.cell]
  simpa using hu⟩⟩
set_option maxHeartbeats 4000000 in
theorem nbegin_all (l : Lay) (w : World) (F : Nat → Prop) (p : Nat) (C : List (BitVec 64)) (E : List Ev) (h : Ar w F p C E) (hl : l.Ok C.length) (steps : Int) (h0 : 0 ≤ steps) (h1 : E.length + steps ≤ 8388608) (fn : FuncId) (caps : Array Value) (hf : (fn = 41 ∧ ∃ sa la : Addr, caps = #[.pointer (some sa), .pointer (some la)]) ∨ (fn = 45 ∧ ∃ ma : Addr, caps = #[.pointer (some ma)]) ∨ (fn = 54 ∧ caps = #[]))
  (hask : ∀ W, Off Nob w W → Calls Tryz.prog fn caps W (RetV W (.int .i64 0))) :
  Calls Tryz.prog 40 #[.pointer (some ⟨p, 0, none⟩), l.val, .int .i64 steps, .func (.func fn) #[] caps] w (MacNew w p l) := by
 have hC := h.n2
 have HA : Hid (∀ W, Off Nob w W → Ar W F p C E) := hID (fun W o => h.keep o (fun _ _ hn => hn))
 have HK := hID hask
 have HP := hID hl.pos
 have HAP := hID hl.apart
 have HR : Hid (∀ W, Calls Tryz.prog 74 #[.int .i64 l.a, .int .i64 l.b] W fun e w' => e = .returned (.bool true) ∧ W = w') := hID (fun W => nright_yes l.a l.b hl.a1 hl.a4 hl.b1 hl.b16 W)
 have ha1 := hl.a1
 have ha4 := hl.a4
 have hb1 := hl.b1
 have hb16 := hl.b16
 have hba0 : 0 ≤ l.b * l.a := Int.mul_nonneg (by omega) (by omega)
 have hba1 : l.b * l.a ≤ 64 := by
  have : l.a = 1 ∨ l.a = 2 ∨ l.a = 3 ∨ l.a = 4 := by omega
  rcases this with e | e | e | e <;> rw [e] <;> omega
 clear hask hl h
 obtain ⟨a, b, t, s, f, st, n, hh⟩ := l
 simp only at ha1 ha4 hb1 hb16 hba0 hba1
 obtain ⟨q, hq⟩ : ∃ q, b * a = q := ⟨_, rfl⟩
 have HQ := hID hq
 go_enter Tryz.func40, Tryz.ntmps40
 unfold Lay.val
 go_wp2_with fail
 have X0 : Hid (Off Nob w (w.alloc (.cells #[.int .i64 a, .int .i64 b, .int .i64 t, .int .i64 s, .int .i64 f, .int .i64 st, .int .i64 n, .int .i64 hh] 33)) ∧ Blk (w.alloc (.cells #[.int .i64 a, .int .i64 b, .int .i64 t, .int .i64 s, .int .i64 f, .int .i64 st, .int .i64 n, .int .i64 hh] 33)) w.heap.size 33 #[.int .i64 a, .int .i64 b, .int .i64 t, .int .i64 s, .int .i64 f, .int .i64 st, .int .i64 n, .int .i64 hh]) := hID ⟨(Off.refl _ _).alloc _, Blk.new _ _ _⟩
 revert X0
 generalize (w.alloc (.cells #[.int .i64 a, .int .i64 b, .int .i64 t, .int .i64 s, .int .i64 f, .int .i64 st, .int .i64 n, .int .i64 hh] 33)) = w0
 intro X0
 refine (HR.out _).mono ?_
 rintro e w1 ⟨rfl, rfl⟩
 have GC : Hid (∀ W, Off Nob w0 W → W.cell? ⟨w.heap.size, 0, none⟩ = some (.int .i64 a) ∧ W.cell? ⟨w.heap.size, 1, none⟩ = some (.int .i64 b) ∧ W.cell? ⟨w.heap.size, 2, none⟩ = some (.int .i64 t) ∧ W.cell? ⟨w.heap.size, 3, none⟩ = some (.int .i64 s) ∧ W.cell? ⟨w.heap.size, 4, none⟩ = some (.int .i64 f) ∧ W.cell? ⟨w.heap.size, 5, none⟩ = some (.int .i64 st) ∧ W.cell? ⟨w.heap.size, 6, none⟩ = some (.int .i64 n) ∧ W.cell? ⟨w.heap.size, 7, none⟩ = some (.int .i64 hh)) := hID (fun W o => by
  have h := X0.out.2.to (o.block _ X0.out.2.lt id)
  exact ⟨h.cell 0, h.cell 1, h.cell 2, h.cell 3, h.cell 4, h.cell 5, h.cell 6, h.cell 7⟩)
 obtain ⟨c0, c1, c2, c3, c4, c5, c6, c7⟩ := GC.out _ (Off.refl _ _)
 go_wp2_with fail
 clear c0 c1 c2 c3 c4 c5 c6 c7
 obtain ⟨L, hL⟩ : ∃ L, w0.heap.size = L := ⟨_, rfl⟩
 have X1 : Hid (Off Nob w0 (w0.alloc (.cells #[.int .i64 t, .int .i64 (256 * a), .int .i64 s, .int .i64 a, .int .i64 f, .int .i64 q, .int .i64 st, .int .i64 a, .int .i64 n, .int .i64 a, .int .i64 hh, .int .i64 b] 155)) ∧ Blk (w0.alloc (.cells #[.int .i64 t, .int .i64 (256 * a), .int .i64 s, .int .i64 a, .int .i64 f, .int .i64 q, .int .i64 st, .int .i64 a, .int .i64 n, .int .i64 a, .int .i64 hh, .int .i64 b] 155)) L 155 #[.int .i64 t, .int .i64 (256 * a), .int .i64 s, .int .i64 a, .int .i64 f, .int .i64 q, .int .i64 st, .int .i64 a, .int .i64 n, .int .i64 a, .int .i64 hh, .int .i64 b]) := hID ⟨(Off.refl _ _).alloc _, by rw [← hL]; exact Blk.new _ _ _⟩
 rw [hL]
 revert X1
 generalize w0.alloc (.cells #[.int .i64 t, .int .i64 (256 * a), .int .i64 s, .int .i64 a, .int .i64 f, .int .i64 q, .int .i64 st, .int .i64 a, .int .i64 n, .int .i64 a, .int .i64 hh, .int .i64 b] 155) = w1
 intro X1
 clear hL
 obtain ⟨P, hPe⟩ : ∃ P, Lay.parts ⟨a, b, t, s, f, st, n, hh⟩ = P := ⟨_, rfl⟩
 have HPC : Hid (partC P = (#[.int .i64 t, .int .i64 (256 * a), .int .i64 s, .int .i64 a, .int .i64 f, .int .i64 q, .int .i64 st, .int .i64 a, .int .i64 n, .int .i64 a, .int .i64 hh, .int .i64 b] : Array Value).toList ∧ P.length = 6) := hID (by rw [← hPe, ← HQ.out]; exact ⟨rfl, rfl⟩)
 rw [hPe] at HP HAP
 clear hPe
 have HC : Hid (∀ W, Off Nob w1 W → ∀ k, k < 6 → W.cell? ⟨L, k * 2, none⟩ = some (.int .i64 (pAt P k).1) ∧ W.cell? ⟨L, k * 2 + 1, none⟩ = some (.int .i64 (pAt P k).2)) := hID (fun W o k hk => by
  obtain ⟨e1, e2⟩ := partC_at P k (by rw [HPC.out.2]; exact hk)
  rw [HPC.out.1, Nat.mul_comm 2 k] at e1 e2
  have hb := X1.out.2.to (o.block _ X1.out.2.lt id)
  exact ⟨(hb.cell _).trans (by simpa using e1), (hb.cell _).trans (by simpa using e2)⟩)
 go_loopw [59] (fun p wr => ∃ k : Nat, p = .int .i64 (k : Int) ∧ k ≤ 6 ∧ Off Nob w1 wr) (fun p wr => 6 - (intOf p).toNat)
 case atStart => exact ⟨0, rfl, by decide, Off.refl _ _⟩
 case round =>
  obtain ⟨k, rfl, hk, ho⟩ := hrel
  have HO := hID ho
  clear ho
  by_cases hlt : k < 6
  ·have d1 : decide ((k : Int) < 6) = true := decide_eq_true (by omega)
   obtain ⟨c0, c1⟩ := HC.out _ HO.out k hlt
   obtain ⟨z1, z2, z3⟩ := HP.out k hlt
   obtain ⟨x, y, hxy⟩ : ∃ x y, pAt P k = (x, y) := ⟨_, _, rfl⟩
   rw [hxy] at c0 c1 z1 z2 z3
   clear hxy
   have HO2 := hID (HO.out.alloc (.cells #[.int .i64 x, .int .i64 y] 155))
   have HX := hID (Blk.new wr 155 #[.int .i64 x, .int .i64 y])
   have x0 := HX.out.cell 0
   have x1 := HX.out.cell 1
   have HH := hID (has_ok (HA.out _ ((X0.out.1.also X1.out.1).also HO2.out)) x y z1 z2 z3)
   clear z1 z2 z3
   go_wp2_with fail
   refine HH.out.mono ?_
   rintro e w2 ⟨rfl, rfl⟩
   go_wp2_with fail
   go_roundw
   case rel => exact ⟨k + 1, rfl, by omega, HO2.out⟩
   case measure => simp [intOf]; omega
  ·obtain rfl : k = 6 := by omega
   go_wp2_with fail
   have HPR := hID (npairs P (fun k hk => by
    have := HP.out k (by have := HPC.out.2; omega)
    omega) (by rw [HPC.out.2]; decide) (by rw [HPC.out.2]; decide) wr (.slice (some ⟨L, 0, none⟩) 6 6) (by
    rw [HPC.out.2, HPC.out.1]
    exact rd_blk (X1.out.2.to (HO.out.block _ X1.out.2.lt id)) rfl (by decide)) (fun A n c he => by cases he; exact Nat.le_refl _))
   rw [HAP.out] at HPR
   refine HPR.out.mono ?_
   rintro e w2 ⟨rfl, o2⟩
   have Y1 := hID (HO.out.also o2)
   clear o2 HPR HO
   rcases hf with ⟨rfl, sa, la, rfl⟩ | ⟨rfl, ma, rfl⟩ | ⟨rfl, rfl⟩
   all_goals
    go_wp2_with fail
    refine (HK.out _ ((X0.out.1.also X1.out.1).also Y1.out)).mono ?_
    rintro e w3 ⟨rfl, o2⟩
    have Y2 := hID (Y1.out.also o2)
    clear o2 Y1
    have HRM := hID (room_ok (HA.out _ ((X0.out.1.also X1.out.1).also Y2.out)) steps h0 h1)
    obtain ⟨c0, c1, c2, c3, c4, c5, c6, c7⟩ := GC.out _ (X1.out.1.also Y2.out)
    go_wp2_with fail
    refine HRM.out.mono ?_
    rintro e w4 ⟨rfl, rfl⟩
    go_wp2_with fail
    go_ret2
    exact ⟨_, rfl, Nat.le_trans X0.out.1.size (Nat.le_trans X1.out.1.size Y2.out.size), Blk.new _ _ _, ((X0.out.1.also X1.out.1).also Y2.out).alloc _⟩
theorem nbegin_setup (l : Lay) (w : World) (F : Nat → Prop) (p : Nat) (C : List (BitVec 64)) (E : List Ev) (h : Ar w F p C E) (hl : l.Ok C.length) (steps : Int) (h0 : 0 ≤ steps) (h1 : E.length + steps ≤ 8388608) (sa la : Addr)
  (hask : ∀ W, Off Nob w W → Calls Tryz.prog 41 #[.pointer (some sa), .pointer (some la)] W (RetV W (.int .i64 0))) :
  Calls Tryz.prog 40 #[.pointer (some ⟨p, 0, none⟩), l.val, .int .i64 steps, .func (.func 41) #[] #[.pointer (some sa), .pointer (some la)]] w (MacNew w p l) := nbegin_all l w F p C E h hl steps h0 h1 41 #[.pointer (some sa), .pointer (some la)] (.inl ⟨rfl, sa, la, rfl⟩) hask
theorem nbegin_byte (l : Lay) (w : World) (F : Nat → Prop) (p : Nat) (C : List (BitVec 64)) (E : List Ev) (h : Ar w F p C E) (hl : l.Ok C.length) (steps : Int) (h0 : 0 ≤ steps) (h1 : E.length + steps ≤ 8388608) (ma : Addr)
  (hask : ∀ W, Off Nob w W → Calls Tryz.prog 45 #[.pointer (some ma)] W (RetV W (.int .i64 0))) :
  Calls Tryz.prog 40 #[.pointer (some ⟨p, 0, none⟩), l.val, .int .i64 steps, .func (.func 45) #[] #[.pointer (some ma)]] w (MacNew w p l) := nbegin_all l w F p C E h hl steps h0 h1 45 #[.pointer (some ma)] (.inr (.inl ⟨rfl, ma, rfl⟩)) hask
end Go.Proofs.YtkflicifngohcaaGreatDoor

namespace Go.Proofs.YtkflicifngohcaaGreatDoor
open Go.RowKit
set_option maxRecDepth 100000
def setL : List (BitVec 64) → Nat → List (BitVec 64) → List (BitVec 64)
 | C, _, [] => C
 | C, x, v :: L => setL (C.set x v) (x + 1) L
theorem setL_snoc (C : List (BitVec 64)) (x : Nat) (L : List (BitVec 64)) (v : BitVec 64) : setL C x (L ++ [v]) = (setL C x L).set (x + L.length) v := by
 induction L generalizing C x with
 | nil => simp [setL]
 | cons u L ih => simp only [List.cons_append, setL, ih, List.length_cons]; rw [show x + 1 + L.length = x + (L.length + 1) by omega]
theorem setL_length (C : List (BitVec 64)) (x : Nat) (L : List (BitVec 64)) : (setL C x L).length = C.length := by
 induction L generalizing C x with
 | nil => rfl
 | cons u L ih => rw [setL, ih, List.length_set]
def putE (x n : Nat) : List Ev := (List.range n).map fun i => (2, x + i)
theorem putE_snoc (x n : Nat) : putE x (n + 1) = putE x n ++ [(2, x + n)] := by simp [putE, List.range_succ]
set_option maxHeartbeats 2000000 in
theorem nput (g p x : Nat) (cs : Array Value) (L C : List (BitVec 64)) (E : List Ev) (F : Nat → Prop) (w : World) (v : Value) (h : Ar w F p C E) (hB : Blk w g 112 cs) (h0 : cs[0]? = some (.pointer (some ⟨p, 0, none⟩))) (h9 : cs[9]? = some (.int .i64 0)) (hgF : ¬ F g)
  (hv : Rd w (fun k => ¬ F k) 1 v L.length (L.map fun u => .int .u64 (n64 u))) (hx : x + L.length ≤ C.length) (he : E.length + L.length < 8388608) :
  Calls Tryz.prog 44 #[.pointer (some ⟨g, 0, none⟩), .int .i64 x, v] w fun e w' => e = .returned (.tuple #[]) ∧ ArTo w F p (setL C x L) (E ++ putE x L.length) w' := by
 have hC := h.n2
 have hform : ∃ A c, v = .slice A L.length c := by
  obtain ⟨A, c, rfl, _⟩ := hv.form
  exact ⟨A, c, rfl⟩
 obtain ⟨A, c, rfl⟩ := hform
 have HV := hID hv
 have HB := hID hB
 have HC : Hid (∀ W, Off F w W → ∀ k, k < L.length → ∃ b o, A = some ⟨b, o, none⟩ ∧ W.cell? ⟨b, o + k, none⟩ = some (.int .u64 (n64 (L.getD k 0)))) := hID (fun W ho k hk => by
  obtain ⟨A2, c2, he2, _, _, hr⟩ := hv.keep ho (fun k hk => hk)
  cases he2
  obtain ⟨b, o, rfl, _, _, hcell⟩ := hr (by omega)
  exact ⟨b, o, rfl, hcell k _ (by simp [List.getD_eq_getElem?_getD, List.getElem?_eq_getElem hk])⟩)
 have H0 : Hid (ArTo w F p (setL C x (L.take 0)) (E ++ putE x 0) w) := hID ⟨by simpa [setL, putE] using h.mono (fun k hk => .inl hk) (Grow.lt h.lt (Nat.le_refl _)), Off.refl _ _⟩
 clear hv hB h
 go_enter Tryz.func44, Tryz.ntmps44
 go_wp2_with fail
 go_loopw [10] (fun q wr => ∃ k : Nat, q = .int .i64 (k : Int) ∧ k ≤ L.length ∧ ArTo w F p (setL C x (L.take k)) (E ++ putE x k) wr) (fun q wr => L.length - (intOf q).toNat)
 case atStart => exact ⟨0, rfl, Nat.zero_le _, H0.out⟩
 case round =>
  obtain ⟨k, rfl, hk, ha⟩ := hrel
  have HA := hID ha
  clear ha H0
  by_cases hlt : k < L.length
  ·have d1 : decide ((k : Int) < (L.length : Int)) = true := decide_eq_true (by omega)
   obtain ⟨b, o, rfl, ck⟩ := HC.out _ HA.out.2 k hlt
   have hb := HB.out.to (HA.out.2.block g HB.out.lt hgF)
   have b0 := (hb.cell 0).trans h0
   have HS := hID (store_ok HA.out.1 ((x : Int) + (k : Int)) (L.getD k 0) (by omega) (by rw [setL_length]; omega) (by simp [putE]; omega))
   obtain ⟨u, hu⟩ : ∃ u, L.getD k 0 = u := ⟨_, rfl⟩
   have HT : Hid (L.take (k + 1) = L.take k ++ [u]) := hID (by rw [← hu, List.getD_eq_getElem?_getD, List.getElem?_eq_getElem hlt]; simp)
   rw [hu] at ck HS
   clear hb hu
   go_wp2_with fail
   refine HS.out.mono ?_
   rintro e w1 ⟨rfl, hs⟩
   have HA1 : Hid (ArTo w F p (setL C x (L.take (k + 1))) (E ++ putE x (k + 1)) w1) := hID (by
    have := HA.out.trans hs
    rw [HT.out, setL_snoc, putE_snoc, ← List.append_assoc]
    rw [List.length_take, Nat.min_eq_left hk]
    exact this)
   clear hs b0 ck HS HA
   have hb1 := HB.out.to (HA1.out.2.block g HB.out.lt hgF)
   have HK := hID (nkeep g cs w1 hb1 h9)
   clear hb1
   go_wp2_with fail
   refine HK.out.mono ?_
   rintro e w2 ⟨rfl, o2⟩
   have HA2 := hID (HA1.out.trans (ArTo.off HA1.out.1 o2))
   clear o2
   go_wp2_with fail
   go_roundw
   case rel => exact ⟨k + 1, by go_num, by omega, HA2.out⟩
   case measure => simp [intOf]; omega
  ·obtain rfl : k = L.length := by omega
   have d1 : decide ((L.length : Int) < (L.length : Int)) = false := decide_eq_false (by omega)
   go_wp2_with fail
   go_end0
   exact ⟨rfl, by have := HA.out; rwa [List.take_length] at this⟩
end Go.Proofs.YtkflicifngohcaaGreatDoor

namespace Go.Proofs.YtkflicifngohcaaGreatDoor
open Go.RowKit
set_option maxRecDepth 100000
set_option maxHeartbeats 1000000 in
theorem nget (g p x : Nat) (cs : Array Value) (C : List (BitVec 64)) (E : List Ev) (F : Nat → Prop) (w : World) (h : Ar w F p C E) (hB : Blk w g 112 cs) (h0 : cs[0]? = some (.pointer (some ⟨p, 0, none⟩))) (h9 : cs[9]? = some (.int .i64 0)) (hgF : ¬ F g) (hx : x < C.length) (he : E.length < 8388608) :
  Calls Tryz.prog 50 #[.pointer (some ⟨g, 0, none⟩), .int .i64 x] w fun e w' => e = .returned (.int .u64 (n64 (C.getD x 0))) ∧ ArTo w F p C (E ++ [(1, x)]) w' := by
 have HB := hID hB
 have HL := hID (load_ok h (x : Int) (by omega) (by omega) he)
 have b0 := (hB.cell 0).trans h0
 clear hB h
 go_enter Tryz.func50, Tryz.ntmps50
 go_wp2_with fail
 refine HL.out.mono ?_
 rintro e w1 ⟨rfl, hs⟩
 have HA1 := hID hs
 clear hs b0 HL
 have HK := hID (nkeep g cs w1 (HB.out.to (HA1.out.2.block g HB.out.lt hgF)) h9)
 go_wp2_with fail
 refine HK.out.mono ?_
 rintro e w2 ⟨rfl, o2⟩
 have HA2 := hID (HA1.out.trans (ArTo.off HA1.out.1 o2))
 clear o2
 go_wp2_with fail
 go_ret
 exact ⟨rfl, HA2.out⟩
end Go.Proofs.YtkflicifngohcaaGreatDoor
