/-
 dragnetref17.Same and Row at the lines of the example.
-/
import Derived.Test.YtlgjaefcfnndhaaGreatDoorK22
set_option linter.unusedVariables false
set_option linter.unusedSimpArgs false
namespace Go.Proofs.YtlgjaefcfnndhaaGreatDoor
open Go.RowKit
set_option maxRecDepth 100000
set_option maxHeartbeats 4000000 in
theorem co_psame (w : World) (v u : Value) (hv : Rd w (fun _ => True) 3 v 2 ln_ab) (hu : Rd w (fun _ => True) 3 u 2 ln_ab) : Calls Tryz.prog 93 #[.agg #[.int .i64 1, v], .agg #[.int .i64 1, u]] w (RetV w (.bool true)) := by
 have hq0 : ∀ w : World, (binOp .neq 43 (.agg #[.int .i64 0, .int .i64 0, .int .i64 2]) (.agg #[.int .i64 0, .int .i64 0, .int .i64 2])).run Tryz.prog w = .ok (.bool false) w := fun _ => by kernel_rfl
 have hq1 : ∀ w : World, (binOp .neq 43 (.agg #[.int .i64 1, .int .i64 2, .int .i64 1]) (.agg #[.int .i64 1, .int .i64 2, .int .i64 1])).run Tryz.prog w = .ok (.bool false) w := fun _ => by kernel_rfl
 obtain ⟨b, o, c, rfl, hc⟩ := hv.cellsT (by decide)
 obtain ⟨b2, o2, c2, rfl, hc2⟩ := hu.cellsT (by decide)
 have HC := hID hc
 have HC2 := hID hc2
 clear hc hv hc2 hu
 go_enter Tryz.func93, Tryz.ntmps93
 go_wp2_with fail
 have HB0 : Hid (Blk ((w.alloc (.cells #[.int .i64 1, .slice (some ⟨b, o, none⟩) 2 c] 62)).alloc (.cells #[.int .i64 1, .slice (some ⟨b2, o2, none⟩) 2 c2] 62)) w.heap.size 62 #[.int .i64 1, .slice (some ⟨b, o, none⟩) 2 c] ∧ Blk ((w.alloc (.cells #[.int .i64 1, .slice (some ⟨b, o, none⟩) 2 c] 62)).alloc (.cells #[.int .i64 1, .slice (some ⟨b2, o2, none⟩) 2 c2] 62)) (w.heap.size + 1) 62 #[.int .i64 1, .slice (some ⟨b2, o2, none⟩) 2 c2] ∧ Off Nob w ((w.alloc (.cells #[.int .i64 1, .slice (some ⟨b, o, none⟩) 2 c] 62)).alloc (.cells #[.int .i64 1, .slice (some ⟨b2, o2, none⟩) 2 c2] 62))) := hID ⟨(Blk.new _ _ _).alloc _, blk_second _ _ _ _, Off.alloc (Off.alloc (Off.refl _ _) _) _⟩
 revert HB0
 generalize ((w.alloc (.cells #[.int .i64 1, .slice (some ⟨b, o, none⟩) 2 c] 62)).alloc (.cells #[.int .i64 1, .slice (some ⟨b2, o2, none⟩) 2 c2] 62)) = w0
 intro HB0
 have GC : Hid (∀ W, Off Nob w0 W → W.cell? ⟨w.heap.size, 0, none⟩ = some (.int .i64 1) ∧ W.cell? ⟨w.heap.size, 1, none⟩ = some (.slice (some ⟨b, o, none⟩) 2 c) ∧ W.cell? ⟨w.heap.size + 1, 0, none⟩ = some (.int .i64 1) ∧ W.cell? ⟨w.heap.size + 1, 1, none⟩ = some (.slice (some ⟨b2, o2, none⟩) 2 c2) ∧ W.cell? ⟨b, o, none⟩ = some (.int .i64 0) ∧ W.cell? ⟨b, o + 1, none⟩ = some (.int .i64 0) ∧ W.cell? ⟨b, o + 2, none⟩ = some (.int .i64 2) ∧ W.cell? ⟨b, o + 3, none⟩ = some (.int .i64 1) ∧ W.cell? ⟨b, o + 4, none⟩ = some (.int .i64 2) ∧ W.cell? ⟨b, o + 5, none⟩ = some (.int .i64 1) ∧ W.cell? ⟨b2, o2, none⟩ = some (.int .i64 0) ∧ W.cell? ⟨b2, o2 + 1, none⟩ = some (.int .i64 0) ∧ W.cell? ⟨b2, o2 + 2, none⟩ = some (.int .i64 2) ∧ W.cell? ⟨b2, o2 + 3, none⟩ = some (.int .i64 1) ∧ W.cell? ⟨b2, o2 + 4, none⟩ = some (.int .i64 2) ∧ W.cell? ⟨b2, o2 + 5, none⟩ = some (.int .i64 1)) := hID (fun W ho => by
  have h := HB0.out.1.to (ho.block _ HB0.out.1.lt (fun h => h))
  have h2 := HB0.out.2.1.to (ho.block _ HB0.out.2.1.lt (fun h => h))
  have k := HC.out W (HB0.out.2.2.also ho)
  have k2 := HC2.out W (HB0.out.2.2.also ho)
  exact ⟨h.cell 0, h.cell 1, h2.cell 0, h2.cell 1, k 0 _ rfl, k 1 _ rfl, k 2 _ rfl, k 3 _ rfl, k 4 _ rfl, k 5 _ rfl, k2 0 _ rfl, k2 1 _ rfl, k2 2 _ rfl, k2 3 _ rfl, k2 4 _ rfl, k2 5 _ rfl⟩)
 have X0 : Hid (Off Nob w0 w0) := hID (Off.refl _ _)
 obtain ⟨t0, t1, q0, q1, c0, c1, c2, c3, c4, c5, d0, d1, d2, d3, d4, d5⟩ := GC.out _ X0.out
 go_wp2_with fail
 refine wp_loop_rounds 3 ?_
 rw [rounds_succ]
 clear t0 t1 q0 q1 c0 c1 c2 c3 c4 c5 d0 d1 d2 d3 d4 d5
 obtain ⟨t0, t1, q0, q1, c0, c1, c2, c3, c4, c5, d0, d1, d2, d3, d4, d5⟩ := GC.out _ X0.out
 go_wp2_with fail
 go_quiet (fail)
 have X1 := hID (X0.out.drewN nq)
 clear X0
 clear t0 t1 q0 q1 c0 c1 c2 c3 c4 c5 d0 d1 d2 d3 d4 d5
 generalize w0.drewN nq = w1 at *
 obtain ⟨t0, t1, q0, q1, c0, c1, c2, c3, c4, c5, d0, d1, d2, d3, d4, d5⟩ := GC.out _ X1.out
 go_wp2_with fail
 rw [rounds_succ]
 clear t0 t1 q0 q1 c0 c1 c2 c3 c4 c5 d0 d1 d2 d3 d4 d5
 obtain ⟨t0, t1, q0, q1, c0, c1, c2, c3, c4, c5, d0, d1, d2, d3, d4, d5⟩ := GC.out _ X1.out
 go_wp2_with fail
 go_quiet (fail)
 have X2 := hID (X1.out.drewN nq)
 clear X1
 clear t0 t1 q0 q1 c0 c1 c2 c3 c4 c5 d0 d1 d2 d3 d4 d5
 generalize w1.drewN nq = w2 at *
 obtain ⟨t0, t1, q0, q1, c0, c1, c2, c3, c4, c5, d0, d1, d2, d3, d4, d5⟩ := GC.out _ X2.out
 go_wp2_with fail
 rw [rounds_succ]
 clear t0 t1 q0 q1 c0 c1 c2 c3 c4 c5 d0 d1 d2 d3 d4 d5
 obtain ⟨t0, t1, q0, q1, c0, c1, c2, c3, c4, c5, d0, d1, d2, d3, d4, d5⟩ := GC.out _ X2.out
 go_wp2_with fail
 go_ret
 exact ⟨rfl, HB0.out.2.2.also X2.out⟩
set_option maxHeartbeats 16000000 in
theorem co_row_a (w : World) (v rv l0 l1 ma mb : Value) (hv : Rd w (fun _ => True) 3 v 2 ln_ab) (hr : Rd w (fun _ => True) 1 rv 2 [l0, l1]) (h0 : Rd w (fun _ => True) 1 l0 1 [ma]) (h1 : Rd w (fun _ => True) 1 l1 1 [mb]) (ha : Rd w (fun _ => True) 4 ma 2 se_a) (hb : Rd w (fun _ => True) 4 mb 1 se_b) (bt : Nat) (hbt : bt < 256) (hf0 : hasB 0 8589934592 0 0 bt = true) (hf1 : hasB 0 17179869184 0 0 bt = false) (hf2 : hasB 0 25769803776 0 0 bt = true) :
  Calls Tryz.prog 60 #[.agg #[.int .i64 1, v], rv, .int .u8 (bt : Int)] w (fun e w' => ∃ u, e = .returned (.tuple #[u, .int .i64 0]) ∧ Rd w' (fun _ => True) 1 u 1 [.int .u64 5] ∧ Off Nob w w') := by
 have HF0 := hID hf0
 have HF1 := hID hf1
 have HF2 := hID hf2
 obtain ⟨i_int, h_int, z_int, s_int, b_int⟩ := info_parts Tryz.infoI'
 have HV0 := hID hv
 have HR0 := hID hr
 have H00 := hID h0
 have H10 := hID h1
 obtain ⟨b, o, c, rfl, hc⟩ := hv.cellsT (by decide)
 obtain ⟨bb, oo, cc, rfl, hcr⟩ := hr.cellsT (by decide)
 obtain ⟨b0, o0, c0, rfl, hc0⟩ := h0.cellsT (by decide)
 obtain ⟨b1, o1, c1, rfl, hc1⟩ := h1.cellsT (by decide)
 obtain ⟨ba, oa, ca, rfl, hca⟩ := ha.cellsT (by decide)
 obtain ⟨be, oe, ce, rfl, hce⟩ := hb.cellsT (by decide)
 have HV := HV0
 have HR := HR0
 have H0 := H00
 have H1 := H10
 have HC := hID (And.intro hc (And.intro hcr (And.intro hc0 (And.intro hc1 (And.intro hca hce)))))
 clear hc hv hr h0 h1 ha hb hcr hc0 hc1 hca hce HV0 HR0 H00 H10 hf0 hf1 hf2
 go_enter Tryz.func60, Tryz.ntmps60
 go_wp2_with fail
 have HB0 : Hid (Blk (w.alloc (.cells #[.int .i64 1, .slice (some ⟨b, o, none⟩) 2 c] 62)) w.heap.size 62 #[.int .i64 1, .slice (some ⟨b, o, none⟩) 2 c] ∧ Off Nob w (w.alloc (.cells #[.int .i64 1, .slice (some ⟨b, o, none⟩) 2 c] 62))) := hID ⟨Blk.new _ _ _, Off.alloc (Off.refl _ _) _⟩
 revert HB0
 generalize (w.alloc (.cells #[.int .i64 1, .slice (some ⟨b, o, none⟩) 2 c] 62)) = w0
 intro HB0
 have GC : Hid (∀ W, Off Nob w0 W → W.cell? ⟨w.heap.size, 0, none⟩ = some (.int .i64 1) ∧ W.cell? ⟨w.heap.size, 1, none⟩ = some (.slice (some ⟨b, o, none⟩) 2 c) ∧ W.cell? ⟨bb, oo, none⟩ = some (.slice (some ⟨b0, o0, none⟩) 1 c0) ∧ W.cell? ⟨bb, oo + 1, none⟩ = some (.slice (some ⟨b1, o1, none⟩) 1 c1) ∧ W.cell? ⟨b0, o0, none⟩ = some (.slice (some ⟨ba, oa, none⟩) 2 ca) ∧ W.cell? ⟨b1, o1, none⟩ = some (.slice (some ⟨be, oe, none⟩) 1 ce) ∧ W.cell? ⟨ba, oa, none⟩ = some (.int .u64 0) ∧ W.cell? ⟨ba, oa + 1, none⟩ = some (.int .u64 8589934592) ∧ W.cell? ⟨ba, oa + 2, none⟩ = some (.int .u64 0) ∧ W.cell? ⟨ba, oa + 3, none⟩ = some (.int .u64 0) ∧ W.cell? ⟨ba, oa + 4, none⟩ = some (.int .u64 0) ∧ W.cell? ⟨ba, oa + 5, none⟩ = some (.int .u64 17179869184) ∧ W.cell? ⟨ba, oa + 6, none⟩ = some (.int .u64 0) ∧ W.cell? ⟨ba, oa + 7, none⟩ = some (.int .u64 0) ∧ W.cell? ⟨be, oe, none⟩ = some (.int .u64 0) ∧ W.cell? ⟨be, oe + 1, none⟩ = some (.int .u64 25769803776) ∧ W.cell? ⟨be, oe + 2, none⟩ = some (.int .u64 0) ∧ W.cell? ⟨be, oe + 3, none⟩ = some (.int .u64 0)) := hID (fun W ho => by
  have h := HB0.out.1.to (ho.block _ HB0.out.1.lt (fun h => h))
  have k := HB0.out.2.also ho
  obtain ⟨g1, g2, g3, g4, g5, g6⟩ := HC.out
  exact ⟨h.cell 0, h.cell 1, g2 W k 0 _ rfl, g2 W k 1 _ rfl, g3 W k 0 _ rfl, g4 W k 0 _ rfl, g5 W k 0 _ rfl, g5 W k 1 _ rfl, g5 W k 2 _ rfl, g5 W k 3 _ rfl, g5 W k 4 _ rfl, g5 W k 5 _ rfl, g5 W k 6 _ rfl, g5 W k 7 _ rfl, g6 W k 0 _ rfl, g6 W k 1 _ rfl, g6 W k 2 _ rfl, g6 W k 3 _ rfl⟩)
 have X0 : Hid (Off Nob w0 w0) := hID (Off.refl _ _)
 obtain ⟨t0, t1, v0, v1, m0, m1, s0, s1, s2, s3, s4, s5, s6, s7, r0, r1, r2, r3⟩ := GC.out _ X0.out
 go_wp2_with fail
 refine (co_lcheck _ _ (HV.out.keepT HB0.out.2)).mono ?_
 rintro e w1 ⟨rfl, o1⟩
 have X1 := hID (X0.out.also o1)
 clear o1 X0
 clear t0 t1 v0 v1 m0 m1 s0 s1 s2 s3 s4 s5 s6 s7 r0 r1 r2 r3
 obtain ⟨t0, t1, v0, v1, m0, m1, s0, s1, s2, s3, s4, s5, s6, s7, r0, r1, r2, r3⟩ := GC.out _ X1.out
 go_wp2_with fail
 refine (co_pack _ _ _ _ _ _ _ _ (HR.out.keepT (HB0.out.2.also X1.out)) (H0.out.keepT (HB0.out.2.also X1.out)) (H1.out.keepT (HB0.out.2.also X1.out))).mono ?_
 rintro e w2 ⟨u, rfl, hr, o1⟩
 have X2 := hID (X1.out.also o1)
 obtain ⟨hr, o1⟩ := id (And.intro hr o1)
 obtain ⟨AU, cu, rfl, _⟩ := hr.form
 have HU := hID hr
 clear hr
 clear o1 X1
 clear t0 t1 v0 v1 m0 m1 s0 s1 s2 s3 s4 s5 s6 s7 r0 r1 r2 r3
 obtain ⟨t0, t1, v0, v1, m0, m1, s0, s1, s2, s3, s4, s5, s6, s7, r0, r1, r2, r3⟩ := GC.out _ (X2.out.alloc (.cells #[.int .i64 1, .slice AU 2 cu] 62))
 go_wp2_with fail
 refine (co_psame _ _ _ (HV.out.keepT (HB0.out.2.also (X2.out.alloc _))) (HU.out.keepT (Off.alloc (Off.refl _ _) _))).mono ?_
 rintro e w3 ⟨rfl, o1⟩
 have X3 := hID ((X2.out.alloc (.cells #[.int .i64 1, .slice AU 2 cu] 62)).also o1)
 clear o1 X2 HU
 clear t0 t1 v0 v1 m0 m1 s0 s1 s2 s3 s4 s5 s6 s7 r0 r1 r2 r3
 obtain ⟨t0, t1, v0, v1, m0, m1, s0, s1, s2, s3, s4, s5, s6, s7, r0, r1, r2, r3⟩ := GC.out _ X3.out
 go_wp2_with fail
 refine wp_loop_rounds 3 ?_
 rw [rounds_succ]
 clear t0 t1 v0 v1 m0 m1 s0 s1 s2 s3 s4 s5 s6 s7 r0 r1 r2 r3
 obtain ⟨t0, t1, v0, v1, m0, m1, s0, s1, s2, s3, s4, s5, s6, s7, r0, r1, r2, r3⟩ := GC.out _ X3.out
 go_wp2_with fail
 refine wp_loop_rounds 2 ?_
 rw [rounds_succ]
 clear t0 t1 v0 v1 m0 m1 s0 s1 s2 s3 s4 s5 s6 s7 r0 r1 r2 r3
 obtain ⟨t0, t1, v0, v1, m0, m1, s0, s1, s2, s3, s4, s5, s6, s7, r0, r1, r2, r3⟩ := GC.out _ X3.out
 go_wp2_with fail
 refine wp_loop_rounds 3 ?_
 rw [rounds_succ]
 clear t0 t1 v0 v1 m0 m1 s0 s1 s2 s3 s4 s5 s6 s7 r0 r1 r2 r3
 obtain ⟨t0, t1, v0, v1, m0, m1, s0, s1, s2, s3, s4, s5, s6, s7, r0, r1, r2, r3⟩ := GC.out _ X3.out
 go_wp2_with fail
 refine Calls.mono (R := RetV w3 (.bool true)) (by have := co_has 0 8589934592 0 0 bt hbt w3; rwa [HF0.out] at this) ?_
 rintro e w4 ⟨rfl, o1⟩
 have X4 := hID (X3.out.also o1)
 clear o1 X3
 clear t0 t1 v0 v1 m0 m1 s0 s1 s2 s3 s4 s5 s6 s7 r0 r1 r2 r3
 obtain ⟨t0, t1, v0, v1, m0, m1, s0, s1, s2, s3, s4, s5, s6, s7, r0, r1, r2, r3⟩ := GC.out _ X4.out
 go_wp2_with (at_builtin; refine @wpList_append_lies _ _ _ _ _ _ _ rfl _ _ 22 rfl w0.heap.size 3 i_int (.int .i64 0) 1 8 Tryz.underlying22 h_int z_int s_int b_int rfl (by decide) (.slice none 0 0) (0) ([]) rfl ((OwnL.nilAt X4.out 3 1).1.alloc _) ⟨w4.heap.size, 0, none⟩ 1 1 [.int .i64 0] rfl rfl ?c1 (by decide) (by decide) (by decide) (by decide) (by have := (OwnL.nilAt X4.out 3 1).2.size; simp; omega) _ rfl ?_)
 case c1 => exact cell_lit _ [.int .i64 0] _
 intro g5 cap5 w5 hown hgrow hat hlt
 have OW5 := hID ((OwnL.nilAt X4.out 3 1).grown (Off.alloc (Off.refl Nob w4) (.cells #[.int .i64 0] 3)) hown hgrow)
 have X5 := hID OW5.out.2
 clear hown hgrow hat hlt X4
 clear t0 t1 v0 v1 m0 m1 s0 s1 s2 s3 s4 s5 s6 s7 r0 r1 r2 r3
 obtain ⟨t0, t1, v0, v1, m0, m1, s0, s1, s2, s3, s4, s5, s6, s7, r0, r1, r2, r3⟩ := GC.out _ X5.out
 go_wp2_with fail
 rw [rounds_succ]
 clear t0 t1 v0 v1 m0 m1 s0 s1 s2 s3 s4 s5 s6 s7 r0 r1 r2 r3
 obtain ⟨t0, t1, v0, v1, m0, m1, s0, s1, s2, s3, s4, s5, s6, s7, r0, r1, r2, r3⟩ := GC.out _ X5.out
 go_wp2_with fail
 refine Calls.mono (R := RetV w5 (.bool false)) (by have := co_has 0 17179869184 0 0 bt hbt w5; rwa [HF1.out] at this) ?_
 rintro e w6 ⟨rfl, o1⟩
 have X6 := hID (X5.out.also o1)
 have OW5' := hID (OW5.out.off o1)
 clear OW5
 have OW5 := OW5'
 clear OW5'
 clear o1 X5
 clear t0 t1 v0 v1 m0 m1 s0 s1 s2 s3 s4 s5 s6 s7 r0 r1 r2 r3
 obtain ⟨t0, t1, v0, v1, m0, m1, s0, s1, s2, s3, s4, s5, s6, s7, r0, r1, r2, r3⟩ := GC.out _ X6.out
 go_wp2_with fail
 rw [rounds_succ]
 clear t0 t1 v0 v1 m0 m1 s0 s1 s2 s3 s4 s5 s6 s7 r0 r1 r2 r3
 obtain ⟨t0, t1, v0, v1, m0, m1, s0, s1, s2, s3, s4, s5, s6, s7, r0, r1, r2, r3⟩ := GC.out _ X6.out
 go_wp2_with fail
 rw [rounds_succ]
 clear t0 t1 v0 v1 m0 m1 s0 s1 s2 s3 s4 s5 s6 s7 r0 r1 r2 r3
 obtain ⟨t0, t1, v0, v1, m0, m1, s0, s1, s2, s3, s4, s5, s6, s7, r0, r1, r2, r3⟩ := GC.out _ X6.out
 go_wp2_with fail
 rw [rounds_succ]
 clear t0 t1 v0 v1 m0 m1 s0 s1 s2 s3 s4 s5 s6 s7 r0 r1 r2 r3
 obtain ⟨t0, t1, v0, v1, m0, m1, s0, s1, s2, s3, s4, s5, s6, s7, r0, r1, r2, r3⟩ := GC.out _ X6.out
 go_wp2_with fail
 refine wp_loop_rounds 2 ?_
 rw [rounds_succ]
 clear t0 t1 v0 v1 m0 m1 s0 s1 s2 s3 s4 s5 s6 s7 r0 r1 r2 r3
 obtain ⟨t0, t1, v0, v1, m0, m1, s0, s1, s2, s3, s4, s5, s6, s7, r0, r1, r2, r3⟩ := GC.out _ X6.out
 go_wp2_with fail
 refine wp_loop_rounds 2 ?_
 rw [rounds_succ]
 clear t0 t1 v0 v1 m0 m1 s0 s1 s2 s3 s4 s5 s6 s7 r0 r1 r2 r3
 obtain ⟨t0, t1, v0, v1, m0, m1, s0, s1, s2, s3, s4, s5, s6, s7, r0, r1, r2, r3⟩ := GC.out _ X6.out
 go_wp2_with fail
 refine Calls.mono (R := RetV w6 (.bool true)) (by have := co_has 0 25769803776 0 0 bt hbt w6; rwa [HF2.out] at this) ?_
 rintro e w7 ⟨rfl, o1⟩
 have X7 := hID (X6.out.also o1)
 have OW5' := hID (OW5.out.off o1)
 clear OW5
 have OW5 := OW5'
 clear OW5'
 clear o1 X6
 clear t0 t1 v0 v1 m0 m1 s0 s1 s2 s3 s4 s5 s6 s7 r0 r1 r2 r3
 obtain ⟨t0, t1, v0, v1, m0, m1, s0, s1, s2, s3, s4, s5, s6, s7, r0, r1, r2, r3⟩ := GC.out _ X7.out
 go_wp2_with (at_builtin; refine @wpList_append_lies _ _ _ _ _ _ _ rfl _ _ 22 rfl w0.heap.size 3 i_int (.int .i64 0) 1 8 Tryz.underlying22 h_int z_int s_int b_int rfl (by decide) (.slice (some ⟨g5, 0, none⟩) (0 + 1) cap5) (0 + 1) ([] ++ [.int .i64 0]) rfl (OW5.out.1.alloc _) ⟨w7.heap.size, 0, none⟩ 1 1 [.int .i64 2] rfl rfl ?c1 (by decide) (by decide) (by decide) (by decide) (by have := OW5.out.2.size; simp; omega) _ rfl ?_)
 case c1 => exact cell_lit _ [.int .i64 2] _
 intro g8 cap8 w8 hown hgrow hat hlt
 have OW8 := hID (OW5.out.grown (Off.alloc (Off.refl Nob w7) (.cells #[.int .i64 2] 3)) hown hgrow)
 have X8 := hID OW8.out.2
 clear hown hgrow hat hlt X7 OW5
 clear t0 t1 v0 v1 m0 m1 s0 s1 s2 s3 s4 s5 s6 s7 r0 r1 r2 r3
 obtain ⟨t0, t1, v0, v1, m0, m1, s0, s1, s2, s3, s4, s5, s6, s7, r0, r1, r2, r3⟩ := GC.out _ X8.out
 go_wp2_with fail
 rw [rounds_succ]
 clear t0 t1 v0 v1 m0 m1 s0 s1 s2 s3 s4 s5 s6 s7 r0 r1 r2 r3
 obtain ⟨t0, t1, v0, v1, m0, m1, s0, s1, s2, s3, s4, s5, s6, s7, r0, r1, r2, r3⟩ := GC.out _ X8.out
 go_wp2_with fail
 rw [rounds_succ]
 clear t0 t1 v0 v1 m0 m1 s0 s1 s2 s3 s4 s5 s6 s7 r0 r1 r2 r3
 obtain ⟨t0, t1, v0, v1, m0, m1, s0, s1, s2, s3, s4, s5, s6, s7, r0, r1, r2, r3⟩ := GC.out _ X8.out
 go_wp2_with fail
 rw [rounds_succ]
 clear t0 t1 v0 v1 m0 m1 s0 s1 s2 s3 s4 s5 s6 s7 r0 r1 r2 r3
 obtain ⟨t0, t1, v0, v1, m0, m1, s0, s1, s2, s3, s4, s5, s6, s7, r0, r1, r2, r3⟩ := GC.out _ X8.out
 go_wp2_with fail
 refine (co_rof_02 _ _ OW8.out.rd).mono ?_
 rintro e w9 ⟨u, rfl, hr, o1⟩
 have X9 := hID (X8.out.also o1)
 obtain ⟨hr, o1⟩ := id (And.intro hr o1)
 have HZ := hID hr.any
 clear hr
 clear o1 X8
 clear t0 t1 v0 v1 m0 m1 s0 s1 s2 s3 s4 s5 s6 s7 r0 r1 r2 r3
 obtain ⟨t0, t1, v0, v1, m0, m1, s0, s1, s2, s3, s4, s5, s6, s7, r0, r1, r2, r3⟩ := GC.out _ X9.out
 go_wp2_with fail
 go_ret2
 exact ⟨_, rfl, HZ.out, HB0.out.2.also X9.out⟩
set_option maxHeartbeats 16000000 in
theorem co_row_b (w : World) (v rv l0 l1 ma mb : Value) (hv : Rd w (fun _ => True) 3 v 2 ln_ab) (hr : Rd w (fun _ => True) 1 rv 2 [l0, l1]) (h0 : Rd w (fun _ => True) 1 l0 1 [ma]) (h1 : Rd w (fun _ => True) 1 l1 1 [mb]) (ha : Rd w (fun _ => True) 4 ma 2 se_a) (hb : Rd w (fun _ => True) 4 mb 1 se_b) (bt : Nat) (hbt : bt < 256) (hf0 : hasB 0 8589934592 0 0 bt = false) (hf1 : hasB 0 17179869184 0 0 bt = true) (hf2 : hasB 0 25769803776 0 0 bt = true) :
  Calls Tryz.prog 60 #[.agg #[.int .i64 1, v], rv, .int .u8 (bt : Int)] w (fun e w' => ∃ u, e = .returned (.tuple #[u, .int .i64 0]) ∧ Rd w' (fun _ => True) 1 u 1 [.int .u64 6] ∧ Off Nob w w') := by
 have HF0 := hID hf0
 have HF1 := hID hf1
 have HF2 := hID hf2
 obtain ⟨i_int, h_int, z_int, s_int, b_int⟩ := info_parts Tryz.infoI'
 have HV0 := hID hv
 have HR0 := hID hr
 have H00 := hID h0
 have H10 := hID h1
 obtain ⟨b, o, c, rfl, hc⟩ := hv.cellsT (by decide)
 obtain ⟨bb, oo, cc, rfl, hcr⟩ := hr.cellsT (by decide)
 obtain ⟨b0, o0, c0, rfl, hc0⟩ := h0.cellsT (by decide)
 obtain ⟨b1, o1, c1, rfl, hc1⟩ := h1.cellsT (by decide)
 obtain ⟨ba, oa, ca, rfl, hca⟩ := ha.cellsT (by decide)
 obtain ⟨be, oe, ce, rfl, hce⟩ := hb.cellsT (by decide)
 have HV := HV0
 have HR := HR0
 have H0 := H00
 have H1 := H10
 have HC := hID (And.intro hc (And.intro hcr (And.intro hc0 (And.intro hc1 (And.intro hca hce)))))
 clear hc hv hr h0 h1 ha hb hcr hc0 hc1 hca hce HV0 HR0 H00 H10 hf0 hf1 hf2
 go_enter Tryz.func60, Tryz.ntmps60
 go_wp2_with fail
 have HB0 : Hid (Blk (w.alloc (.cells #[.int .i64 1, .slice (some ⟨b, o, none⟩) 2 c] 62)) w.heap.size 62 #[.int .i64 1, .slice (some ⟨b, o, none⟩) 2 c] ∧ Off Nob w (w.alloc (.cells #[.int .i64 1, .slice (some ⟨b, o, none⟩) 2 c] 62))) := hID ⟨Blk.new _ _ _, Off.alloc (Off.refl _ _) _⟩
 revert HB0
 generalize (w.alloc (.cells #[.int .i64 1, .slice (some ⟨b, o, none⟩) 2 c] 62)) = w0
 intro HB0
 have GC : Hid (∀ W, Off Nob w0 W → W.cell? ⟨w.heap.size, 0, none⟩ = some (.int .i64 1) ∧ W.cell? ⟨w.heap.size, 1, none⟩ = some (.slice (some ⟨b, o, none⟩) 2 c) ∧ W.cell? ⟨bb, oo, none⟩ = some (.slice (some ⟨b0, o0, none⟩) 1 c0) ∧ W.cell? ⟨bb, oo + 1, none⟩ = some (.slice (some ⟨b1, o1, none⟩) 1 c1) ∧ W.cell? ⟨b0, o0, none⟩ = some (.slice (some ⟨ba, oa, none⟩) 2 ca) ∧ W.cell? ⟨b1, o1, none⟩ = some (.slice (some ⟨be, oe, none⟩) 1 ce) ∧ W.cell? ⟨ba, oa, none⟩ = some (.int .u64 0) ∧ W.cell? ⟨ba, oa + 1, none⟩ = some (.int .u64 8589934592) ∧ W.cell? ⟨ba, oa + 2, none⟩ = some (.int .u64 0) ∧ W.cell? ⟨ba, oa + 3, none⟩ = some (.int .u64 0) ∧ W.cell? ⟨ba, oa + 4, none⟩ = some (.int .u64 0) ∧ W.cell? ⟨ba, oa + 5, none⟩ = some (.int .u64 17179869184) ∧ W.cell? ⟨ba, oa + 6, none⟩ = some (.int .u64 0) ∧ W.cell? ⟨ba, oa + 7, none⟩ = some (.int .u64 0) ∧ W.cell? ⟨be, oe, none⟩ = some (.int .u64 0) ∧ W.cell? ⟨be, oe + 1, none⟩ = some (.int .u64 25769803776) ∧ W.cell? ⟨be, oe + 2, none⟩ = some (.int .u64 0) ∧ W.cell? ⟨be, oe + 3, none⟩ = some (.int .u64 0)) := hID (fun W ho => by
  have h := HB0.out.1.to (ho.block _ HB0.out.1.lt (fun h => h))
  have k := HB0.out.2.also ho
  obtain ⟨g1, g2, g3, g4, g5, g6⟩ := HC.out
  exact ⟨h.cell 0, h.cell 1, g2 W k 0 _ rfl, g2 W k 1 _ rfl, g3 W k 0 _ rfl, g4 W k 0 _ rfl, g5 W k 0 _ rfl, g5 W k 1 _ rfl, g5 W k 2 _ rfl, g5 W k 3 _ rfl, g5 W k 4 _ rfl, g5 W k 5 _ rfl, g5 W k 6 _ rfl, g5 W k 7 _ rfl, g6 W k 0 _ rfl, g6 W k 1 _ rfl, g6 W k 2 _ rfl, g6 W k 3 _ rfl⟩)
 have X0 : Hid (Off Nob w0 w0) := hID (Off.refl _ _)
 obtain ⟨t0, t1, v0, v1, m0, m1, s0, s1, s2, s3, s4, s5, s6, s7, r0, r1, r2, r3⟩ := GC.out _ X0.out
 go_wp2_with fail
 refine (co_lcheck _ _ (HV.out.keepT HB0.out.2)).mono ?_
 rintro e w1 ⟨rfl, o1⟩
 have X1 := hID (X0.out.also o1)
 clear o1 X0
 clear t0 t1 v0 v1 m0 m1 s0 s1 s2 s3 s4 s5 s6 s7 r0 r1 r2 r3
 obtain ⟨t0, t1, v0, v1, m0, m1, s0, s1, s2, s3, s4, s5, s6, s7, r0, r1, r2, r3⟩ := GC.out _ X1.out
 go_wp2_with fail
 refine (co_pack _ _ _ _ _ _ _ _ (HR.out.keepT (HB0.out.2.also X1.out)) (H0.out.keepT (HB0.out.2.also X1.out)) (H1.out.keepT (HB0.out.2.also X1.out))).mono ?_
 rintro e w2 ⟨u, rfl, hr, o1⟩
 have X2 := hID (X1.out.also o1)
 obtain ⟨hr, o1⟩ := id (And.intro hr o1)
 obtain ⟨AU, cu, rfl, _⟩ := hr.form
 have HU := hID hr
 clear hr
 clear o1 X1
 clear t0 t1 v0 v1 m0 m1 s0 s1 s2 s3 s4 s5 s6 s7 r0 r1 r2 r3
 obtain ⟨t0, t1, v0, v1, m0, m1, s0, s1, s2, s3, s4, s5, s6, s7, r0, r1, r2, r3⟩ := GC.out _ (X2.out.alloc (.cells #[.int .i64 1, .slice AU 2 cu] 62))
 go_wp2_with fail
 refine (co_psame _ _ _ (HV.out.keepT (HB0.out.2.also (X2.out.alloc _))) (HU.out.keepT (Off.alloc (Off.refl _ _) _))).mono ?_
 rintro e w3 ⟨rfl, o1⟩
 have X3 := hID ((X2.out.alloc (.cells #[.int .i64 1, .slice AU 2 cu] 62)).also o1)
 clear o1 X2 HU
 clear t0 t1 v0 v1 m0 m1 s0 s1 s2 s3 s4 s5 s6 s7 r0 r1 r2 r3
 obtain ⟨t0, t1, v0, v1, m0, m1, s0, s1, s2, s3, s4, s5, s6, s7, r0, r1, r2, r3⟩ := GC.out _ X3.out
 go_wp2_with fail
 refine wp_loop_rounds 3 ?_
 rw [rounds_succ]
 clear t0 t1 v0 v1 m0 m1 s0 s1 s2 s3 s4 s5 s6 s7 r0 r1 r2 r3
 obtain ⟨t0, t1, v0, v1, m0, m1, s0, s1, s2, s3, s4, s5, s6, s7, r0, r1, r2, r3⟩ := GC.out _ X3.out
 go_wp2_with fail
 refine wp_loop_rounds 2 ?_
 rw [rounds_succ]
 clear t0 t1 v0 v1 m0 m1 s0 s1 s2 s3 s4 s5 s6 s7 r0 r1 r2 r3
 obtain ⟨t0, t1, v0, v1, m0, m1, s0, s1, s2, s3, s4, s5, s6, s7, r0, r1, r2, r3⟩ := GC.out _ X3.out
 go_wp2_with fail
 refine wp_loop_rounds 3 ?_
 rw [rounds_succ]
 clear t0 t1 v0 v1 m0 m1 s0 s1 s2 s3 s4 s5 s6 s7 r0 r1 r2 r3
 obtain ⟨t0, t1, v0, v1, m0, m1, s0, s1, s2, s3, s4, s5, s6, s7, r0, r1, r2, r3⟩ := GC.out _ X3.out
 go_wp2_with fail
 refine Calls.mono (R := RetV w3 (.bool false)) (by have := co_has 0 8589934592 0 0 bt hbt w3; rwa [HF0.out] at this) ?_
 rintro e w4 ⟨rfl, o1⟩
 have X4 := hID (X3.out.also o1)
 clear o1 X3
 clear t0 t1 v0 v1 m0 m1 s0 s1 s2 s3 s4 s5 s6 s7 r0 r1 r2 r3
 obtain ⟨t0, t1, v0, v1, m0, m1, s0, s1, s2, s3, s4, s5, s6, s7, r0, r1, r2, r3⟩ := GC.out _ X4.out
 go_wp2_with fail
 rw [rounds_succ]
 clear t0 t1 v0 v1 m0 m1 s0 s1 s2 s3 s4 s5 s6 s7 r0 r1 r2 r3
 obtain ⟨t0, t1, v0, v1, m0, m1, s0, s1, s2, s3, s4, s5, s6, s7, r0, r1, r2, r3⟩ := GC.out _ X4.out
 go_wp2_with fail
 refine Calls.mono (R := RetV w4 (.bool true)) (by have := co_has 0 17179869184 0 0 bt hbt w4; rwa [HF1.out] at this) ?_
 rintro e w5 ⟨rfl, o1⟩
 have X5 := hID (X4.out.also o1)
 clear o1 X4
 clear t0 t1 v0 v1 m0 m1 s0 s1 s2 s3 s4 s5 s6 s7 r0 r1 r2 r3
 obtain ⟨t0, t1, v0, v1, m0, m1, s0, s1, s2, s3, s4, s5, s6, s7, r0, r1, r2, r3⟩ := GC.out _ X5.out
 go_wp2_with (at_builtin; refine @wpList_append_lies _ _ _ _ _ _ _ rfl _ _ 22 rfl w0.heap.size 3 i_int (.int .i64 0) 1 8 Tryz.underlying22 h_int z_int s_int b_int rfl (by decide) (.slice none 0 0) (0) ([]) rfl ((OwnL.nilAt X5.out 3 1).1.alloc _) ⟨w5.heap.size, 0, none⟩ 1 1 [.int .i64 1] rfl rfl ?c1 (by decide) (by decide) (by decide) (by decide) (by have := (OwnL.nilAt X5.out 3 1).2.size; simp; omega) _ rfl ?_)
 case c1 => exact cell_lit _ [.int .i64 1] _
 intro g6 cap6 w6 hown hgrow hat hlt
 have OW6 := hID ((OwnL.nilAt X5.out 3 1).grown (Off.alloc (Off.refl Nob w5) (.cells #[.int .i64 1] 3)) hown hgrow)
 have X6 := hID OW6.out.2
 clear hown hgrow hat hlt X5
 clear t0 t1 v0 v1 m0 m1 s0 s1 s2 s3 s4 s5 s6 s7 r0 r1 r2 r3
 obtain ⟨t0, t1, v0, v1, m0, m1, s0, s1, s2, s3, s4, s5, s6, s7, r0, r1, r2, r3⟩ := GC.out _ X6.out
 go_wp2_with fail
 rw [rounds_succ]
 clear t0 t1 v0 v1 m0 m1 s0 s1 s2 s3 s4 s5 s6 s7 r0 r1 r2 r3
 obtain ⟨t0, t1, v0, v1, m0, m1, s0, s1, s2, s3, s4, s5, s6, s7, r0, r1, r2, r3⟩ := GC.out _ X6.out
 go_wp2_with fail
 rw [rounds_succ]
 clear t0 t1 v0 v1 m0 m1 s0 s1 s2 s3 s4 s5 s6 s7 r0 r1 r2 r3
 obtain ⟨t0, t1, v0, v1, m0, m1, s0, s1, s2, s3, s4, s5, s6, s7, r0, r1, r2, r3⟩ := GC.out _ X6.out
 go_wp2_with fail
 rw [rounds_succ]
 clear t0 t1 v0 v1 m0 m1 s0 s1 s2 s3 s4 s5 s6 s7 r0 r1 r2 r3
 obtain ⟨t0, t1, v0, v1, m0, m1, s0, s1, s2, s3, s4, s5, s6, s7, r0, r1, r2, r3⟩ := GC.out _ X6.out
 go_wp2_with fail
 refine wp_loop_rounds 2 ?_
 rw [rounds_succ]
 clear t0 t1 v0 v1 m0 m1 s0 s1 s2 s3 s4 s5 s6 s7 r0 r1 r2 r3
 obtain ⟨t0, t1, v0, v1, m0, m1, s0, s1, s2, s3, s4, s5, s6, s7, r0, r1, r2, r3⟩ := GC.out _ X6.out
 go_wp2_with fail
 refine wp_loop_rounds 2 ?_
 rw [rounds_succ]
 clear t0 t1 v0 v1 m0 m1 s0 s1 s2 s3 s4 s5 s6 s7 r0 r1 r2 r3
 obtain ⟨t0, t1, v0, v1, m0, m1, s0, s1, s2, s3, s4, s5, s6, s7, r0, r1, r2, r3⟩ := GC.out _ X6.out
 go_wp2_with fail
 refine Calls.mono (R := RetV w6 (.bool true)) (by have := co_has 0 25769803776 0 0 bt hbt w6; rwa [HF2.out] at this) ?_
 rintro e w7 ⟨rfl, o1⟩
 have X7 := hID (X6.out.also o1)
 have OW6' := hID (OW6.out.off o1)
 clear OW6
 have OW6 := OW6'
 clear OW6'
 clear o1 X6
 clear t0 t1 v0 v1 m0 m1 s0 s1 s2 s3 s4 s5 s6 s7 r0 r1 r2 r3
 obtain ⟨t0, t1, v0, v1, m0, m1, s0, s1, s2, s3, s4, s5, s6, s7, r0, r1, r2, r3⟩ := GC.out _ X7.out
 go_wp2_with (at_builtin; refine @wpList_append_lies _ _ _ _ _ _ _ rfl _ _ 22 rfl w0.heap.size 3 i_int (.int .i64 0) 1 8 Tryz.underlying22 h_int z_int s_int b_int rfl (by decide) (.slice (some ⟨g6, 0, none⟩) (0 + 1) cap6) (0 + 1) ([] ++ [.int .i64 1]) rfl (OW6.out.1.alloc _) ⟨w7.heap.size, 0, none⟩ 1 1 [.int .i64 2] rfl rfl ?c1 (by decide) (by decide) (by decide) (by decide) (by have := OW6.out.2.size; simp; omega) _ rfl ?_)
 case c1 => exact cell_lit _ [.int .i64 2] _
 intro g8 cap8 w8 hown hgrow hat hlt
 have OW8 := hID (OW6.out.grown (Off.alloc (Off.refl Nob w7) (.cells #[.int .i64 2] 3)) hown hgrow)
 have X8 := hID OW8.out.2
 clear hown hgrow hat hlt X7 OW6
 clear t0 t1 v0 v1 m0 m1 s0 s1 s2 s3 s4 s5 s6 s7 r0 r1 r2 r3
 obtain ⟨t0, t1, v0, v1, m0, m1, s0, s1, s2, s3, s4, s5, s6, s7, r0, r1, r2, r3⟩ := GC.out _ X8.out
 go_wp2_with fail
 rw [rounds_succ]
 clear t0 t1 v0 v1 m0 m1 s0 s1 s2 s3 s4 s5 s6 s7 r0 r1 r2 r3
 obtain ⟨t0, t1, v0, v1, m0, m1, s0, s1, s2, s3, s4, s5, s6, s7, r0, r1, r2, r3⟩ := GC.out _ X8.out
 go_wp2_with fail
 rw [rounds_succ]
 clear t0 t1 v0 v1 m0 m1 s0 s1 s2 s3 s4 s5 s6 s7 r0 r1 r2 r3
 obtain ⟨t0, t1, v0, v1, m0, m1, s0, s1, s2, s3, s4, s5, s6, s7, r0, r1, r2, r3⟩ := GC.out _ X8.out
 go_wp2_with fail
 rw [rounds_succ]
 clear t0 t1 v0 v1 m0 m1 s0 s1 s2 s3 s4 s5 s6 s7 r0 r1 r2 r3
 obtain ⟨t0, t1, v0, v1, m0, m1, s0, s1, s2, s3, s4, s5, s6, s7, r0, r1, r2, r3⟩ := GC.out _ X8.out
 go_wp2_with fail
 refine (co_rof_12 _ _ OW8.out.rd).mono ?_
 rintro e w9 ⟨u, rfl, hr, o1⟩
 have X9 := hID (X8.out.also o1)
 obtain ⟨hr, o1⟩ := id (And.intro hr o1)
 have HZ := hID hr.any
 clear hr
 clear o1 X8
 clear t0 t1 v0 v1 m0 m1 s0 s1 s2 s3 s4 s5 s6 s7 r0 r1 r2 r3
 obtain ⟨t0, t1, v0, v1, m0, m1, s0, s1, s2, s3, s4, s5, s6, s7, r0, r1, r2, r3⟩ := GC.out _ X9.out
 go_wp2_with fail
 go_ret2
 exact ⟨_, rfl, HZ.out, HB0.out.2.also X9.out⟩
set_option maxHeartbeats 16000000 in
theorem co_row_x (w : World) (v rv l0 l1 ma mb : Value) (hv : Rd w (fun _ => True) 3 v 2 ln_ab) (hr : Rd w (fun _ => True) 1 rv 2 [l0, l1]) (h0 : Rd w (fun _ => True) 1 l0 1 [ma]) (h1 : Rd w (fun _ => True) 1 l1 1 [mb]) (ha : Rd w (fun _ => True) 4 ma 2 se_a) (hb : Rd w (fun _ => True) 4 mb 1 se_b) (bt : Nat) (hbt : bt < 256) (hf0 : hasB 0 8589934592 0 0 bt = false) (hf1 : hasB 0 17179869184 0 0 bt = false) (hf2 : hasB 0 25769803776 0 0 bt = false) :
  Calls Tryz.prog 60 #[.agg #[.int .i64 1, v], rv, .int .u8 (bt : Int)] w (fun e w' => ∃ u, e = .returned (.tuple #[u, .int .i64 0]) ∧ Rd w' (fun _ => True) 1 u 1 [.int .u64 0] ∧ Off Nob w w') := by
 have HF0 := hID hf0
 have HF1 := hID hf1
 have HF2 := hID hf2
 obtain ⟨i_int, h_int, z_int, s_int, b_int⟩ := info_parts Tryz.infoI'
 have HV0 := hID hv
 have HR0 := hID hr
 have H00 := hID h0
 have H10 := hID h1
 obtain ⟨b, o, c, rfl, hc⟩ := hv.cellsT (by decide)
 obtain ⟨bb, oo, cc, rfl, hcr⟩ := hr.cellsT (by decide)
 obtain ⟨b0, o0, c0, rfl, hc0⟩ := h0.cellsT (by decide)
 obtain ⟨b1, o1, c1, rfl, hc1⟩ := h1.cellsT (by decide)
 obtain ⟨ba, oa, ca, rfl, hca⟩ := ha.cellsT (by decide)
 obtain ⟨be, oe, ce, rfl, hce⟩ := hb.cellsT (by decide)
 have HV := HV0
 have HR := HR0
 have H0 := H00
 have H1 := H10
 have HC := hID (And.intro hc (And.intro hcr (And.intro hc0 (And.intro hc1 (And.intro hca hce)))))
 clear hc hv hr h0 h1 ha hb hcr hc0 hc1 hca hce HV0 HR0 H00 H10 hf0 hf1 hf2
 go_enter Tryz.func60, Tryz.ntmps60
 go_wp2_with fail
 have HB0 : Hid (Blk (w.alloc (.cells #[.int .i64 1, .slice (some ⟨b, o, none⟩) 2 c] 62)) w.heap.size 62 #[.int .i64 1, .slice (some ⟨b, o, none⟩) 2 c] ∧ Off Nob w (w.alloc (.cells #[.int .i64 1, .slice (some ⟨b, o, none⟩) 2 c] 62))) := hID ⟨Blk.new _ _ _, Off.alloc (Off.refl _ _) _⟩
 revert HB0
 generalize (w.alloc (.cells #[.int .i64 1, .slice (some ⟨b, o, none⟩) 2 c] 62)) = w0
 intro HB0
 have GC : Hid (∀ W, Off Nob w0 W → W.cell? ⟨w.heap.size, 0, none⟩ = some (.int .i64 1) ∧ W.cell? ⟨w.heap.size, 1, none⟩ = some (.slice (some ⟨b, o, none⟩) 2 c) ∧ W.cell? ⟨bb, oo, none⟩ = some (.slice (some ⟨b0, o0, none⟩) 1 c0) ∧ W.cell? ⟨bb, oo + 1, none⟩ = some (.slice (some ⟨b1, o1, none⟩) 1 c1) ∧ W.cell? ⟨b0, o0, none⟩ = some (.slice (some ⟨ba, oa, none⟩) 2 ca) ∧ W.cell? ⟨b1, o1, none⟩ = some (.slice (some ⟨be, oe, none⟩) 1 ce) ∧ W.cell? ⟨ba, oa, none⟩ = some (.int .u64 0) ∧ W.cell? ⟨ba, oa + 1, none⟩ = some (.int .u64 8589934592) ∧ W.cell? ⟨ba, oa + 2, none⟩ = some (.int .u64 0) ∧ W.cell? ⟨ba, oa + 3, none⟩ = some (.int .u64 0) ∧ W.cell? ⟨ba, oa + 4, none⟩ = some (.int .u64 0) ∧ W.cell? ⟨ba, oa + 5, none⟩ = some (.int .u64 17179869184) ∧ W.cell? ⟨ba, oa + 6, none⟩ = some (.int .u64 0) ∧ W.cell? ⟨ba, oa + 7, none⟩ = some (.int .u64 0) ∧ W.cell? ⟨be, oe, none⟩ = some (.int .u64 0) ∧ W.cell? ⟨be, oe + 1, none⟩ = some (.int .u64 25769803776) ∧ W.cell? ⟨be, oe + 2, none⟩ = some (.int .u64 0) ∧ W.cell? ⟨be, oe + 3, none⟩ = some (.int .u64 0)) := hID (fun W ho => by
  have h := HB0.out.1.to (ho.block _ HB0.out.1.lt (fun h => h))
  have k := HB0.out.2.also ho
  obtain ⟨g1, g2, g3, g4, g5, g6⟩ := HC.out
  exact ⟨h.cell 0, h.cell 1, g2 W k 0 _ rfl, g2 W k 1 _ rfl, g3 W k 0 _ rfl, g4 W k 0 _ rfl, g5 W k 0 _ rfl, g5 W k 1 _ rfl, g5 W k 2 _ rfl, g5 W k 3 _ rfl, g5 W k 4 _ rfl, g5 W k 5 _ rfl, g5 W k 6 _ rfl, g5 W k 7 _ rfl, g6 W k 0 _ rfl, g6 W k 1 _ rfl, g6 W k 2 _ rfl, g6 W k 3 _ rfl⟩)
 have X0 : Hid (Off Nob w0 w0) := hID (Off.refl _ _)
 obtain ⟨t0, t1, v0, v1, m0, m1, s0, s1, s2, s3, s4, s5, s6, s7, r0, r1, r2, r3⟩ := GC.out _ X0.out
 go_wp2_with fail
 refine (co_lcheck _ _ (HV.out.keepT HB0.out.2)).mono ?_
 rintro e w1 ⟨rfl, o1⟩
 have X1 := hID (X0.out.also o1)
 clear o1 X0
 clear t0 t1 v0 v1 m0 m1 s0 s1 s2 s3 s4 s5 s6 s7 r0 r1 r2 r3
 obtain ⟨t0, t1, v0, v1, m0, m1, s0, s1, s2, s3, s4, s5, s6, s7, r0, r1, r2, r3⟩ := GC.out _ X1.out
 go_wp2_with fail
 refine (co_pack _ _ _ _ _ _ _ _ (HR.out.keepT (HB0.out.2.also X1.out)) (H0.out.keepT (HB0.out.2.also X1.out)) (H1.out.keepT (HB0.out.2.also X1.out))).mono ?_
 rintro e w2 ⟨u, rfl, hr, o1⟩
 have X2 := hID (X1.out.also o1)
 obtain ⟨hr, o1⟩ := id (And.intro hr o1)
 obtain ⟨AU, cu, rfl, _⟩ := hr.form
 have HU := hID hr
 clear hr
 clear o1 X1
 clear t0 t1 v0 v1 m0 m1 s0 s1 s2 s3 s4 s5 s6 s7 r0 r1 r2 r3
 obtain ⟨t0, t1, v0, v1, m0, m1, s0, s1, s2, s3, s4, s5, s6, s7, r0, r1, r2, r3⟩ := GC.out _ (X2.out.alloc (.cells #[.int .i64 1, .slice AU 2 cu] 62))
 go_wp2_with fail
 refine (co_psame _ _ _ (HV.out.keepT (HB0.out.2.also (X2.out.alloc _))) (HU.out.keepT (Off.alloc (Off.refl _ _) _))).mono ?_
 rintro e w3 ⟨rfl, o1⟩
 have X3 := hID ((X2.out.alloc (.cells #[.int .i64 1, .slice AU 2 cu] 62)).also o1)
 clear o1 X2 HU
 clear t0 t1 v0 v1 m0 m1 s0 s1 s2 s3 s4 s5 s6 s7 r0 r1 r2 r3
 obtain ⟨t0, t1, v0, v1, m0, m1, s0, s1, s2, s3, s4, s5, s6, s7, r0, r1, r2, r3⟩ := GC.out _ X3.out
 go_wp2_with fail
 refine wp_loop_rounds 3 ?_
 rw [rounds_succ]
 clear t0 t1 v0 v1 m0 m1 s0 s1 s2 s3 s4 s5 s6 s7 r0 r1 r2 r3
 obtain ⟨t0, t1, v0, v1, m0, m1, s0, s1, s2, s3, s4, s5, s6, s7, r0, r1, r2, r3⟩ := GC.out _ X3.out
 go_wp2_with fail
 refine wp_loop_rounds 2 ?_
 rw [rounds_succ]
 clear t0 t1 v0 v1 m0 m1 s0 s1 s2 s3 s4 s5 s6 s7 r0 r1 r2 r3
 obtain ⟨t0, t1, v0, v1, m0, m1, s0, s1, s2, s3, s4, s5, s6, s7, r0, r1, r2, r3⟩ := GC.out _ X3.out
 go_wp2_with fail
 refine wp_loop_rounds 3 ?_
 rw [rounds_succ]
 clear t0 t1 v0 v1 m0 m1 s0 s1 s2 s3 s4 s5 s6 s7 r0 r1 r2 r3
 obtain ⟨t0, t1, v0, v1, m0, m1, s0, s1, s2, s3, s4, s5, s6, s7, r0, r1, r2, r3⟩ := GC.out _ X3.out
 go_wp2_with fail
 refine Calls.mono (R := RetV w3 (.bool false)) (by have := co_has 0 8589934592 0 0 bt hbt w3; rwa [HF0.out] at this) ?_
 rintro e w4 ⟨rfl, o1⟩
 have X4 := hID (X3.out.also o1)
 clear o1 X3
 clear t0 t1 v0 v1 m0 m1 s0 s1 s2 s3 s4 s5 s6 s7 r0 r1 r2 r3
 obtain ⟨t0, t1, v0, v1, m0, m1, s0, s1, s2, s3, s4, s5, s6, s7, r0, r1, r2, r3⟩ := GC.out _ X4.out
 go_wp2_with fail
 rw [rounds_succ]
 clear t0 t1 v0 v1 m0 m1 s0 s1 s2 s3 s4 s5 s6 s7 r0 r1 r2 r3
 obtain ⟨t0, t1, v0, v1, m0, m1, s0, s1, s2, s3, s4, s5, s6, s7, r0, r1, r2, r3⟩ := GC.out _ X4.out
 go_wp2_with fail
 refine Calls.mono (R := RetV w4 (.bool false)) (by have := co_has 0 17179869184 0 0 bt hbt w4; rwa [HF1.out] at this) ?_
 rintro e w5 ⟨rfl, o1⟩
 have X5 := hID (X4.out.also o1)
 clear o1 X4
 clear t0 t1 v0 v1 m0 m1 s0 s1 s2 s3 s4 s5 s6 s7 r0 r1 r2 r3
 obtain ⟨t0, t1, v0, v1, m0, m1, s0, s1, s2, s3, s4, s5, s6, s7, r0, r1, r2, r3⟩ := GC.out _ X5.out
 go_wp2_with fail
 rw [rounds_succ]
 clear t0 t1 v0 v1 m0 m1 s0 s1 s2 s3 s4 s5 s6 s7 r0 r1 r2 r3
 obtain ⟨t0, t1, v0, v1, m0, m1, s0, s1, s2, s3, s4, s5, s6, s7, r0, r1, r2, r3⟩ := GC.out _ X5.out
 go_wp2_with fail
 rw [rounds_succ]
 clear t0 t1 v0 v1 m0 m1 s0 s1 s2 s3 s4 s5 s6 s7 r0 r1 r2 r3
 obtain ⟨t0, t1, v0, v1, m0, m1, s0, s1, s2, s3, s4, s5, s6, s7, r0, r1, r2, r3⟩ := GC.out _ X5.out
 go_wp2_with fail
 rw [rounds_succ]
 clear t0 t1 v0 v1 m0 m1 s0 s1 s2 s3 s4 s5 s6 s7 r0 r1 r2 r3
 obtain ⟨t0, t1, v0, v1, m0, m1, s0, s1, s2, s3, s4, s5, s6, s7, r0, r1, r2, r3⟩ := GC.out _ X5.out
 go_wp2_with fail
 refine wp_loop_rounds 2 ?_
 rw [rounds_succ]
 clear t0 t1 v0 v1 m0 m1 s0 s1 s2 s3 s4 s5 s6 s7 r0 r1 r2 r3
 obtain ⟨t0, t1, v0, v1, m0, m1, s0, s1, s2, s3, s4, s5, s6, s7, r0, r1, r2, r3⟩ := GC.out _ X5.out
 go_wp2_with fail
 refine wp_loop_rounds 2 ?_
 rw [rounds_succ]
 clear t0 t1 v0 v1 m0 m1 s0 s1 s2 s3 s4 s5 s6 s7 r0 r1 r2 r3
 obtain ⟨t0, t1, v0, v1, m0, m1, s0, s1, s2, s3, s4, s5, s6, s7, r0, r1, r2, r3⟩ := GC.out _ X5.out
 go_wp2_with fail
 refine Calls.mono (R := RetV w5 (.bool false)) (by have := co_has 0 25769803776 0 0 bt hbt w5; rwa [HF2.out] at this) ?_
 rintro e w6 ⟨rfl, o1⟩
 have X6 := hID (X5.out.also o1)
 clear o1 X5
 clear t0 t1 v0 v1 m0 m1 s0 s1 s2 s3 s4 s5 s6 s7 r0 r1 r2 r3
 obtain ⟨t0, t1, v0, v1, m0, m1, s0, s1, s2, s3, s4, s5, s6, s7, r0, r1, r2, r3⟩ := GC.out _ X6.out
 go_wp2_with fail
 rw [rounds_succ]
 clear t0 t1 v0 v1 m0 m1 s0 s1 s2 s3 s4 s5 s6 s7 r0 r1 r2 r3
 obtain ⟨t0, t1, v0, v1, m0, m1, s0, s1, s2, s3, s4, s5, s6, s7, r0, r1, r2, r3⟩ := GC.out _ X6.out
 go_wp2_with fail
 rw [rounds_succ]
 clear t0 t1 v0 v1 m0 m1 s0 s1 s2 s3 s4 s5 s6 s7 r0 r1 r2 r3
 obtain ⟨t0, t1, v0, v1, m0, m1, s0, s1, s2, s3, s4, s5, s6, s7, r0, r1, r2, r3⟩ := GC.out _ X6.out
 go_wp2_with fail
 rw [rounds_succ]
 clear t0 t1 v0 v1 m0 m1 s0 s1 s2 s3 s4 s5 s6 s7 r0 r1 r2 r3
 obtain ⟨t0, t1, v0, v1, m0, m1, s0, s1, s2, s3, s4, s5, s6, s7, r0, r1, r2, r3⟩ := GC.out _ X6.out
 go_wp2_with fail
 refine (co_rof_no _ _ (rd_zero _ _ _ _)).mono ?_
 rintro e w7 ⟨u, rfl, hr, o1⟩
 have X7 := hID (X6.out.also o1)
 obtain ⟨hr, o1⟩ := id (And.intro hr o1)
 have HZ := hID hr.any
 clear hr
 clear o1 X6
 clear t0 t1 v0 v1 m0 m1 s0 s1 s2 s3 s4 s5 s6 s7 r0 r1 r2 r3
 obtain ⟨t0, t1, v0, v1, m0, m1, s0, s1, s2, s3, s4, s5, s6, s7, r0, r1, r2, r3⟩ := GC.out _ X7.out
 go_wp2_with fail
 go_ret2
 exact ⟨_, rfl, HZ.out, HB0.out.2.also X7.out⟩
end Go.Proofs.YtlgjaefcfnndhaaGreatDoor
