/-
 dragnetref13.choices, Alone and Check at the rules of the example.
-/
import Derived.Test.YtlgjaefcfnndhaaGreatDoorP15
set_option linter.unusedVariables false
set_option linter.unusedSimpArgs false
set_option maxHeartbeats 16000000
set_option maxRecDepth 100000
namespace Go.Proofs.YtlgjaefcfnndhaaGreatDoor
section
open Go.RowKit
theorem qn2 (w : World) (v : Value) (hv : Rd w (fun _ => True) 8 v 1 el_a) : Calls Tryz.prog 120 #[.agg #[.int .i64 5, v]] w (RetV w (.int .i64 1)) := by
 obtain ⟨b, o, c, rfl, hc⟩ := hv.cellsT (by decide)
 have HC := hID hc
 clear hc hv
 go_enter Tryz.func120, Tryz.ntmps120
 go_wp2_with fail
 have HB0 : Hid (Blk (w.alloc (.cells #[.int .i64 5, .slice (some ⟨b, o, none⟩) 1 c] 124)) w.heap.size 124 #[.int .i64 5, .slice (some ⟨b, o, none⟩) 1 c] ∧ Off Nob w (w.alloc (.cells #[.int .i64 5, .slice (some ⟨b, o, none⟩) 1 c] 124))) := hID ⟨Blk.new _ _ _, oAl oRf _⟩
 revert HB0
 generalize (w.alloc (.cells #[.int .i64 5, .slice (some ⟨b, o, none⟩) 1 c] 124)) = w0
 intro HB0
 have GC : Hid (∀ W, Off Nob w0 W → W.cell? ⟨w.heap.size, 0, none⟩ = some (.int .i64 5) ∧ W.cell? ⟨w.heap.size, 1, none⟩ = some (.slice (some ⟨b, o, none⟩) 1 c) ∧ W.cell? ⟨b, o, none⟩ = some (.int .i64 1) ∧ W.cell? ⟨b, o + 1, none⟩ = some (.string ⟨#[97, 98]⟩) ∧ W.cell? ⟨b, o + 2, none⟩ = some (.int .u64 0) ∧ W.cell? ⟨b, o + 3, none⟩ = some (.int .u64 0) ∧ W.cell? ⟨b, o + 4, none⟩ = some (.int .u64 0) ∧ W.cell? ⟨b, o + 5, none⟩ = some (.int .u64 0) ∧ W.cell? ⟨b, o + 6, none⟩ = some (.int .i64 0) ∧ W.cell? ⟨b, o + 7, none⟩ = some (.int .i64 0)) := hID (fun W ho => by
  have h := HB0.out.1.to (ho.block _ HB0.out.1.lt (fun h => h))
  have k := HC.out W (HB0.out.2.also ho)
  exact ⟨h.cell 0, h.cell 1, k 0 _ rfl, k 1 _ rfl, k 2 _ rfl, k 3 _ rfl, k 4 _ rfl, k 5 _ rfl, k 6 _ rfl, k 7 _ rfl⟩)
 have X0 : Hid (Off Nob w0 w0) := hID oRf
 obtain ⟨t0, t1, c0, c1, c2, c3, c4, c5, c6, c7⟩ := GC.out _ X0.out
 go_wp2_with fail
 refine wp_loop_rounds 2 ?_
 rw [rounds_succ]
 go_wp2_with fail
 rw [rounds_succ]
 go_wp2_with fail
 go_ret
 exact ⟨rfl, HB0.out.2.also X0.out⟩
theorem qsi (w : World) (v : Value) (hv : Rd w (fun _ => True) 8 v 1 el_a) : Calls Tryz.prog 98 #[.agg #[.int .i64 5, v]] w (RetV w (.tuple #[.int .i64 0, .int .i64 0])) := by
 have HV0 := hID hv
 obtain ⟨b, o, c, rfl, hc⟩ := hv.cellsT (by decide)
 have HV := HV0
 have HC := hID hc
 clear hc hv HV0
 go_enter Tryz.func98, Tryz.ntmps98
 go_wp2_with fail
 have HL : Hid (Rd ((w.alloc (.cells #[.int .i64 5, .slice (some ⟨b, o, none⟩) 1 c] 124)).alloc (.cells #[.int .i64 5, .slice (some ⟨b, o, none⟩) 1 c] 124)) (fun _ => True) 2 (.slice (some ⟨w.heap.size + 1, 0, none⟩) 1 1) 1 [.int .i64 5, .slice (some ⟨b, o, none⟩) 1 c]) := hID (by have := Rd.newT (w.alloc (.cells #[.int .i64 5, .slice (some ⟨b, o, none⟩) 1 c] 124)) 124 [.int .i64 5, .slice (some ⟨b, o, none⟩) 1 c] 2 1 rfl (by decide); simpa using this)
 have HB0 : Hid (Blk ((w.alloc (.cells #[.int .i64 5, .slice (some ⟨b, o, none⟩) 1 c] 124)).alloc (.cells #[.int .i64 5, .slice (some ⟨b, o, none⟩) 1 c] 124)) w.heap.size 124 #[.int .i64 5, .slice (some ⟨b, o, none⟩) 1 c] ∧ Off Nob w ((w.alloc (.cells #[.int .i64 5, .slice (some ⟨b, o, none⟩) 1 c] 124)).alloc (.cells #[.int .i64 5, .slice (some ⟨b, o, none⟩) 1 c] 124))) := hID ⟨(Blk.new _ _ _).alloc _, oAl (oAl oRf _) _⟩
 revert HB0 HL
 generalize ((w.alloc (.cells #[.int .i64 5, .slice (some ⟨b, o, none⟩) 1 c] 124)).alloc (.cells #[.int .i64 5, .slice (some ⟨b, o, none⟩) 1 c] 124)) = w0
 intro HL HB0
 have GC : Hid (∀ W, Off Nob w0 W → W.cell? ⟨w.heap.size, 0, none⟩ = some (.int .i64 5) ∧ W.cell? ⟨w.heap.size, 1, none⟩ = some (.slice (some ⟨b, o, none⟩) 1 c) ∧ W.cell? ⟨b, o, none⟩ = some (.int .i64 1) ∧ W.cell? ⟨b, o + 1, none⟩ = some (.string ⟨#[97, 98]⟩) ∧ W.cell? ⟨b, o + 2, none⟩ = some (.int .u64 0) ∧ W.cell? ⟨b, o + 3, none⟩ = some (.int .u64 0) ∧ W.cell? ⟨b, o + 4, none⟩ = some (.int .u64 0) ∧ W.cell? ⟨b, o + 5, none⟩ = some (.int .u64 0) ∧ W.cell? ⟨b, o + 6, none⟩ = some (.int .i64 0) ∧ W.cell? ⟨b, o + 7, none⟩ = some (.int .i64 0)) := hID (fun W ho => by
  have h := HB0.out.1.to (ho.block _ HB0.out.1.lt (fun h => h))
  have k := HC.out W (HB0.out.2.also ho)
  exact ⟨h.cell 0, h.cell 1, k 0 _ rfl, k 1 _ rfl, k 2 _ rfl, k 3 _ rfl, k 4 _ rfl, k 5 _ rfl, k 6 _ rfl, k 7 _ rfl⟩)
 have X0 : Hid (Off Nob w0 w0) := hID oRf
 obtain ⟨t0, t1, c0, c1, c2, c3, c4, c5, c6, c7⟩ := GC.out _ X0.out
 go_wp2_with fail
 refine (quu _ _ _ HL.out (HV.out.keepT HB0.out.2)).mono ?_
 rintro e w1 ⟨rfl, o1⟩
 have X1 := hID (X0.out.also o1)
 clear HL
 clear o1 X0
 clear t0 t1 c0 c1 c2 c3 c4 c5 c6 c7
 obtain ⟨t0, t1, c0, c1, c2, c3, c4, c5, c6, c7⟩ := GC.out _ X1.out
 go_wp2_with fail
 refine wp_loop_rounds 2 ?_
 rw [rounds_succ]
 go_wp2_with fail
 refine (qn0 _ _ (HV.out.keepT (HB0.out.2.also X1.out))).mono ?_
 rintro e w2 ⟨rfl, o1⟩
 have X2 := hID (X1.out.also o1)
 clear o1 X1
 clear t0 t1 c0 c1 c2 c3 c4 c5 c6 c7
 obtain ⟨t0, t1, c0, c1, c2, c3, c4, c5, c6, c7⟩ := GC.out _ X2.out
 go_wp2_with fail
 rw [rounds_succ]
 go_wp2_with fail
 refine (qn2 _ _ (HV.out.keepT (HB0.out.2.also X2.out))).mono ?_
 rintro e w3 ⟨rfl, o1⟩
 have X3 := hID (X2.out.also o1)
 clear o1 X2
 clear t0 t1 c0 c1 c2 c3 c4 c5 c6 c7
 obtain ⟨t0, t1, c0, c1, c2, c3, c4, c5, c6, c7⟩ := GC.out _ X3.out
 go_wp2_with fail
 refine (qhs _ _ (HV.out.keepT (HB0.out.2.also X3.out))).mono ?_
 rintro e w4 ⟨v1, rfl, hr, o1⟩
 have X4 := hID (X3.out.also o1)
 have HT := hID hr
 obtain ⟨AA, cc, rfl, _⟩ := hr.form
 clear hr
 clear o1 X3
 clear t0 t1 c0 c1 c2 c3 c4 c5 c6 c7
 obtain ⟨t0, t1, c0, c1, c2, c3, c4, c5, c6, c7⟩ := GC.out _ X4.out
 go_wp2_with fail
 refine Calls.mono (R := RetV _ (.int .i64 2)) (qij 2 (by decide) _ _ HT.out) ?_
 rintro e w5 ⟨rfl, o1⟩
 have X5 := hID (X4.out.also o1)
 clear HT
 clear o1 X4
 clear t0 t1 c0 c1 c2 c3 c4 c5 c6 c7
 obtain ⟨t0, t1, c0, c1, c2, c3, c4, c5, c6, c7⟩ := GC.out _ X5.out
 go_wp2_with fail
 go_ret2
 exact ⟨rfl, HB0.out.2.also X5.out⟩
theorem qn3 (w : World) (v : Value) (hv : Rd w (fun _ => True) 8 v 1 el_b) : Calls Tryz.prog 120 #[.agg #[.int .i64 9, v]] w (RetV w (.int .i64 1)) := by
 obtain ⟨b, o, c, rfl, hc⟩ := hv.cellsT (by decide)
 have HC := hID hc
 clear hc hv
 go_enter Tryz.func120, Tryz.ntmps120
 go_wp2_with fail
 have HB0 : Hid (Blk (w.alloc (.cells #[.int .i64 9, .slice (some ⟨b, o, none⟩) 1 c] 124)) w.heap.size 124 #[.int .i64 9, .slice (some ⟨b, o, none⟩) 1 c] ∧ Off Nob w (w.alloc (.cells #[.int .i64 9, .slice (some ⟨b, o, none⟩) 1 c] 124))) := hID ⟨Blk.new _ _ _, oAl oRf _⟩
 revert HB0
 generalize (w.alloc (.cells #[.int .i64 9, .slice (some ⟨b, o, none⟩) 1 c] 124)) = w0
 intro HB0
 have GC : Hid (∀ W, Off Nob w0 W → W.cell? ⟨w.heap.size, 0, none⟩ = some (.int .i64 9) ∧ W.cell? ⟨w.heap.size, 1, none⟩ = some (.slice (some ⟨b, o, none⟩) 1 c) ∧ W.cell? ⟨b, o, none⟩ = some (.int .i64 3) ∧ W.cell? ⟨b, o + 1, none⟩ = some (.string ⟨#[]⟩) ∧ W.cell? ⟨b, o + 2, none⟩ = some (.int .u64 0) ∧ W.cell? ⟨b, o + 3, none⟩ = some (.int .u64 25769803776) ∧ W.cell? ⟨b, o + 4, none⟩ = some (.int .u64 0) ∧ W.cell? ⟨b, o + 5, none⟩ = some (.int .u64 0) ∧ W.cell? ⟨b, o + 6, none⟩ = some (.int .i64 0) ∧ W.cell? ⟨b, o + 7, none⟩ = some (.int .i64 0)) := hID (fun W ho => by
  have h := HB0.out.1.to (ho.block _ HB0.out.1.lt (fun h => h))
  have k := HC.out W (HB0.out.2.also ho)
  exact ⟨h.cell 0, h.cell 1, k 0 _ rfl, k 1 _ rfl, k 2 _ rfl, k 3 _ rfl, k 4 _ rfl, k 5 _ rfl, k 6 _ rfl, k 7 _ rfl⟩)
 have X0 : Hid (Off Nob w0 w0) := hID oRf
 obtain ⟨t0, t1, c0, c1, c2, c3, c4, c5, c6, c7⟩ := GC.out _ X0.out
 go_wp2_with fail
 refine wp_loop_rounds 2 ?_
 rw [rounds_succ]
 go_wp2_with fail
 rw [rounds_succ]
 go_wp2_with fail
 go_ret
 exact ⟨rfl, HB0.out.2.also X0.out⟩
theorem qsj (w : World) (v : Value) (hv : Rd w (fun _ => True) 8 v 1 el_b) : Calls Tryz.prog 98 #[.agg #[.int .i64 9, v]] w (RetV w (.tuple #[.int .i64 0, .int .i64 0])) := by
 have HV0 := hID hv
 obtain ⟨b, o, c, rfl, hc⟩ := hv.cellsT (by decide)
 have HV := HV0
 have HC := hID hc
 clear hc hv HV0
 go_enter Tryz.func98, Tryz.ntmps98
 go_wp2_with fail
 have HL : Hid (Rd ((w.alloc (.cells #[.int .i64 9, .slice (some ⟨b, o, none⟩) 1 c] 124)).alloc (.cells #[.int .i64 9, .slice (some ⟨b, o, none⟩) 1 c] 124)) (fun _ => True) 2 (.slice (some ⟨w.heap.size + 1, 0, none⟩) 1 1) 1 [.int .i64 9, .slice (some ⟨b, o, none⟩) 1 c]) := hID (by have := Rd.newT (w.alloc (.cells #[.int .i64 9, .slice (some ⟨b, o, none⟩) 1 c] 124)) 124 [.int .i64 9, .slice (some ⟨b, o, none⟩) 1 c] 2 1 rfl (by decide); simpa using this)
 have HB0 : Hid (Blk ((w.alloc (.cells #[.int .i64 9, .slice (some ⟨b, o, none⟩) 1 c] 124)).alloc (.cells #[.int .i64 9, .slice (some ⟨b, o, none⟩) 1 c] 124)) w.heap.size 124 #[.int .i64 9, .slice (some ⟨b, o, none⟩) 1 c] ∧ Off Nob w ((w.alloc (.cells #[.int .i64 9, .slice (some ⟨b, o, none⟩) 1 c] 124)).alloc (.cells #[.int .i64 9, .slice (some ⟨b, o, none⟩) 1 c] 124))) := hID ⟨(Blk.new _ _ _).alloc _, oAl (oAl oRf _) _⟩
 revert HB0 HL
 generalize ((w.alloc (.cells #[.int .i64 9, .slice (some ⟨b, o, none⟩) 1 c] 124)).alloc (.cells #[.int .i64 9, .slice (some ⟨b, o, none⟩) 1 c] 124)) = w0
 intro HL HB0
 have GC : Hid (∀ W, Off Nob w0 W → W.cell? ⟨w.heap.size, 0, none⟩ = some (.int .i64 9) ∧ W.cell? ⟨w.heap.size, 1, none⟩ = some (.slice (some ⟨b, o, none⟩) 1 c) ∧ W.cell? ⟨b, o, none⟩ = some (.int .i64 3) ∧ W.cell? ⟨b, o + 1, none⟩ = some (.string ⟨#[]⟩) ∧ W.cell? ⟨b, o + 2, none⟩ = some (.int .u64 0) ∧ W.cell? ⟨b, o + 3, none⟩ = some (.int .u64 25769803776) ∧ W.cell? ⟨b, o + 4, none⟩ = some (.int .u64 0) ∧ W.cell? ⟨b, o + 5, none⟩ = some (.int .u64 0) ∧ W.cell? ⟨b, o + 6, none⟩ = some (.int .i64 0) ∧ W.cell? ⟨b, o + 7, none⟩ = some (.int .i64 0)) := hID (fun W ho => by
  have h := HB0.out.1.to (ho.block _ HB0.out.1.lt (fun h => h))
  have k := HC.out W (HB0.out.2.also ho)
  exact ⟨h.cell 0, h.cell 1, k 0 _ rfl, k 1 _ rfl, k 2 _ rfl, k 3 _ rfl, k 4 _ rfl, k 5 _ rfl, k 6 _ rfl, k 7 _ rfl⟩)
 have X0 : Hid (Off Nob w0 w0) := hID oRf
 obtain ⟨t0, t1, c0, c1, c2, c3, c4, c5, c6, c7⟩ := GC.out _ X0.out
 go_wp2_with fail
 refine (quv _ _ _ HL.out (HV.out.keepT HB0.out.2)).mono ?_
 rintro e w1 ⟨rfl, o1⟩
 have X1 := hID (X0.out.also o1)
 clear HL
 clear o1 X0
 clear t0 t1 c0 c1 c2 c3 c4 c5 c6 c7
 obtain ⟨t0, t1, c0, c1, c2, c3, c4, c5, c6, c7⟩ := GC.out _ X1.out
 go_wp2_with fail
 refine wp_loop_rounds 2 ?_
 rw [rounds_succ]
 go_wp2_with fail
 refine (qn1 _ _ (HV.out.keepT (HB0.out.2.also X1.out))).mono ?_
 rintro e w2 ⟨rfl, o1⟩
 have X2 := hID (X1.out.also o1)
 clear o1 X1
 clear t0 t1 c0 c1 c2 c3 c4 c5 c6 c7
 obtain ⟨t0, t1, c0, c1, c2, c3, c4, c5, c6, c7⟩ := GC.out _ X2.out
 go_wp2_with fail
 rw [rounds_succ]
 go_wp2_with fail
 refine (qn3 _ _ (HV.out.keepT (HB0.out.2.also X2.out))).mono ?_
 rintro e w3 ⟨rfl, o1⟩
 have X3 := hID (X2.out.also o1)
 clear o1 X2
 clear t0 t1 c0 c1 c2 c3 c4 c5 c6 c7
 obtain ⟨t0, t1, c0, c1, c2, c3, c4, c5, c6, c7⟩ := GC.out _ X3.out
 go_wp2_with fail
 refine (qht _ _ (HV.out.keepT (HB0.out.2.also X3.out))).mono ?_
 rintro e w4 ⟨v1, rfl, hr, o1⟩
 have X4 := hID (X3.out.also o1)
 have HT := hID hr
 obtain ⟨AA, cc, rfl, _⟩ := hr.form
 clear hr
 clear o1 X3
 clear t0 t1 c0 c1 c2 c3 c4 c5 c6 c7
 obtain ⟨t0, t1, c0, c1, c2, c3, c4, c5, c6, c7⟩ := GC.out _ X4.out
 go_wp2_with fail
 refine Calls.mono (R := RetV _ (.int .i64 1)) (qij 1 (by decide) _ _ HT.out) ?_
 rintro e w5 ⟨rfl, o1⟩
 have X5 := hID (X4.out.also o1)
 clear HT
 clear o1 X4
 clear t0 t1 c0 c1 c2 c3 c4 c5 c6 c7
 obtain ⟨t0, t1, c0, c1, c2, c3, c4, c5, c6, c7⟩ := GC.out _ X5.out
 go_wp2_with fail
 go_ret2
 exact ⟨rfl, HB0.out.2.also X5.out⟩
theorem qsk (w : World) (v va vb : Value) (hv : Rd w (fun _ => True) 2 v 2 [.int .i64 5, va, .int .i64 9, vb]) (ha : Rd w (fun _ => True) 8 va 1 el_a) (hb : Rd w (fun _ => True) 8 vb 1 el_b) : Calls Tryz.prog 68 #[v] w (RetV w (.tuple #[.int .i64 0, .int .i64 0, .int .i64 0])) := by
 have HV := hID hv
 have Ha := hID ha
 have Hb := hID hb
 obtain ⟨b, o, c, rfl, hc⟩ := hv.cellsT (by decide)
 have HC := hID hc
 clear hc hv ha hb
 go_enter Tryz.func68, Tryz.ntmps68
 have GC : Hid (∀ W, Off Nob w W → W.cell? ⟨b, o, none⟩ = some (.int .i64 5) ∧ W.cell? ⟨b, o + 1, none⟩ = some (va) ∧ W.cell? ⟨b, o + 2, none⟩ = some (.int .i64 9) ∧ W.cell? ⟨b, o + 3, none⟩ = some (vb)) := hID (fun W ho => ⟨HC.out W ho 0 _ rfl, HC.out W ho 1 _ rfl, HC.out W ho 2 _ rfl, HC.out W ho 3 _ rfl⟩)
 have X0 : Hid (Off Nob w w) := hID oRf
 obtain ⟨c0, c1, c2, c3⟩ := GC.out _ X0.out
 go_wp2_with fail
 refine (qsf _ _ _ _ HV.out Ha.out Hb.out).mono ?_
 rintro e w1 ⟨rfl, o1⟩
 have X1 := hID (X0.out.also o1)
 clear o1 X0
 clear c0 c1 c2 c3
 obtain ⟨c0, c1, c2, c3⟩ := GC.out _ X1.out
 go_wp2_with fail
 refine wp_loop_rounds 3 ?_
 rw [rounds_succ]
 go_wp2_with fail
 refine (qsi _ _ (Ha.out.keepT X1.out)).mono ?_
 rintro e w2 ⟨rfl, o1⟩
 have X2 := hID (X1.out.also o1)
 clear o1 X1
 clear c0 c1 c2 c3
 obtain ⟨c0, c1, c2, c3⟩ := GC.out _ X2.out
 go_wp2_with fail
 refine wp_loop_rounds 1 ?_
 rw [rounds_succ]
 go_wp2_with fail
 go_quiet (fail)
 have X3 := hID (X2.out.drewN nq)
 clear X2
 clear c0 c1 c2 c3
 generalize w2.drewN nq = w3 at *
 obtain ⟨c0, c1, c2, c3⟩ := GC.out _ X3.out
 go_wp2_with fail
 refine (qhs _ _ (Ha.out.keepT X3.out)).mono ?_
 rintro e w4 ⟨v1, rfl, hr, o1⟩
 have X4 := hID (X3.out.also o1)
 have HT := hID hr
 obtain ⟨AA, cc, rfl, _⟩ := hr.form
 clear hr
 clear o1 X3
 clear c0 c1 c2 c3
 obtain ⟨c0, c1, c2, c3⟩ := GC.out _ X4.out
 go_wp2_with fail
 refine Calls.mono (R := RetV _ (.int .i64 2)) (qij 2 (by decide) _ _ HT.out) ?_
 rintro e w5 ⟨rfl, o1⟩
 have X5 := hID (X4.out.also o1)
 clear HT
 clear o1 X4
 clear c0 c1 c2 c3
 obtain ⟨c0, c1, c2, c3⟩ := GC.out _ X5.out
 go_wp2_with fail
 rw [rounds_succ]
 go_wp2_with fail
 refine (qsj _ _ (Hb.out.keepT X5.out)).mono ?_
 rintro e w6 ⟨rfl, o1⟩
 have X6 := hID (X5.out.also o1)
 clear o1 X5
 clear c0 c1 c2 c3
 obtain ⟨c0, c1, c2, c3⟩ := GC.out _ X6.out
 go_wp2_with fail
 refine wp_loop_rounds 2 ?_
 rw [rounds_succ]
 go_wp2_with fail
 go_quiet (fail)
 have X7 := hID (X6.out.drewN nq)
 clear X6
 clear c0 c1 c2 c3
 generalize w6.drewN nq = w7 at *
 obtain ⟨c0, c1, c2, c3⟩ := GC.out _ X7.out
 go_wp2_with fail
 rw [rounds_succ]
 go_wp2_with fail
 go_quiet (fail)
 have X8 := hID (X7.out.drewN nq)
 clear X7
 clear c0 c1 c2 c3
 generalize w7.drewN nq = w8 at *
 obtain ⟨c0, c1, c2, c3⟩ := GC.out _ X8.out
 go_wp2_with fail
 refine (qht _ _ (Hb.out.keepT X8.out)).mono ?_
 rintro e w9 ⟨v1, rfl, hr, o1⟩
 have X9 := hID (X8.out.also o1)
 have HT := hID hr
 obtain ⟨AA, cc, rfl, _⟩ := hr.form
 clear hr
 clear o1 X8
 clear c0 c1 c2 c3
 obtain ⟨c0, c1, c2, c3⟩ := GC.out _ X9.out
 go_wp2_with fail
 refine Calls.mono (R := RetV _ (.int .i64 1)) (qij 1 (by decide) _ _ HT.out) ?_
 rintro e w10 ⟨rfl, o1⟩
 have X10 := hID (X9.out.also o1)
 clear HT
 clear o1 X9
 clear c0 c1 c2 c3
 obtain ⟨c0, c1, c2, c3⟩ := GC.out _ X10.out
 go_wp2_with fail
 rw [rounds_succ]
 go_wp2_with fail
 go_ret3
 exact ⟨rfl, X10.out⟩
end
section
open Go.RowKit
def pa_a : List Value := [.bool false, .int .u64 0, .int .u64 8589934592, .int .u64 0, .int .u64 0, .int .i64 0, .int .i64 0, .bool false, .int .u64 0, .int .u64 17179869184, .int .u64 0, .int .u64 0, .int .i64 0, .int .i64 0]
theorem qpu (w : World) (v : Value) (hv : Rd w (fun _ => True) 7 v 2 pa_a) : Calls Tryz.prog 102 #[v] w (RetV w (.tuple #[.int .i64 0, .int .i64 0])) := by
 obtain ⟨b, o, c, rfl, hc⟩ := hv.cellsT (by decide)
 have GC : Hid (∀ W, Off Nob w W → W.cell? ⟨b, o, none⟩ = some (.bool false) ∧ W.cell? ⟨b, o + 1, none⟩ = some (.int .u64 0) ∧ W.cell? ⟨b, o + 2, none⟩ = some (.int .u64 8589934592) ∧ W.cell? ⟨b, o + 3, none⟩ = some (.int .u64 0) ∧ W.cell? ⟨b, o + 4, none⟩ = some (.int .u64 0) ∧ W.cell? ⟨b, o + 5, none⟩ = some (.int .i64 0) ∧ W.cell? ⟨b, o + 6, none⟩ = some (.int .i64 0) ∧ W.cell? ⟨b, o + 7, none⟩ = some (.bool false) ∧ W.cell? ⟨b, o + 8, none⟩ = some (.int .u64 0) ∧ W.cell? ⟨b, o + 9, none⟩ = some (.int .u64 17179869184) ∧ W.cell? ⟨b, o + 10, none⟩ = some (.int .u64 0) ∧ W.cell? ⟨b, o + 11, none⟩ = some (.int .u64 0) ∧ W.cell? ⟨b, o + 12, none⟩ = some (.int .i64 0) ∧ W.cell? ⟨b, o + 13, none⟩ = some (.int .i64 0)) := hID (fun W ho => ⟨hc W ho 0 _ rfl, hc W ho 1 _ rfl, hc W ho 2 _ rfl, hc W ho 3 _ rfl, hc W ho 4 _ rfl, hc W ho 5 _ rfl, hc W ho 6 _ rfl, hc W ho 7 _ rfl, hc W ho 8 _ rfl, hc W ho 9 _ rfl, hc W ho 10 _ rfl, hc W ho 11 _ rfl, hc W ho 12 _ rfl, hc W ho 13 _ rfl⟩)
 clear hc hv
 go_enter Tryz.func102, Tryz.ntmps102
 have X0 : Hid (Off Nob w w) := hID oRf
 obtain ⟨c0, c1, c2, c3, c4, c5, c6, c7, c8, c9, c10, c11, c12, c13⟩ := GC.out _ X0.out
 go_wp2_with fail
 refine wp_loop_rounds 3 ?_
 rw [rounds_succ]
 go_wp2_with fail
 have X1 := hID (X0.out.alloc (.cells #[.bool false, .int .u64 0, .int .u64 8589934592, .int .u64 0, .int .u64 0, .int .i64 0, .int .i64 0] 160))
 clear X0
 clear c0 c1 c2 c3 c4 c5 c6 c7 c8 c9 c10 c11 c12 c13
 generalize w.alloc (.cells #[.bool false, .int .u64 0, .int .u64 8589934592, .int .u64 0, .int .u64 0, .int .i64 0, .int .i64 0] 160) = w1 at *
 rw [rounds_succ]
 obtain ⟨c0, c1, c2, c3, c4, c5, c6, c7, c8, c9, c10, c11, c12, c13⟩ := GC.out _ X1.out
 go_wp2_with fail
 have X2 := hID (X1.out.alloc (.cells #[.bool false, .int .u64 0, .int .u64 17179869184, .int .u64 0, .int .u64 0, .int .i64 0, .int .i64 0] 160))
 clear X1
 clear c0 c1 c2 c3 c4 c5 c6 c7 c8 c9 c10 c11 c12 c13
 generalize w1.alloc (.cells #[.bool false, .int .u64 0, .int .u64 17179869184, .int .u64 0, .int .u64 0, .int .i64 0, .int .i64 0] 160) = w2 at *
 rw [rounds_succ]
 obtain ⟨c0, c1, c2, c3, c4, c5, c6, c7, c8, c9, c10, c11, c12, c13⟩ := GC.out _ X2.out
 go_wp2_with fail
 go_ret2
 exact ⟨rfl, X2.out⟩
def pa_b : List Value := [.bool false, .int .u64 0, .int .u64 25769803776, .int .u64 0, .int .u64 0, .int .i64 0, .int .i64 0]
theorem qpv (w : World) (v : Value) (hv : Rd w (fun _ => True) 7 v 1 pa_b) : Calls Tryz.prog 102 #[v] w (RetV w (.tuple #[.int .i64 0, .int .i64 0])) := by
 obtain ⟨b, o, c, rfl, hc⟩ := hv.cellsT (by decide)
 have GC : Hid (∀ W, Off Nob w W → W.cell? ⟨b, o, none⟩ = some (.bool false) ∧ W.cell? ⟨b, o + 1, none⟩ = some (.int .u64 0) ∧ W.cell? ⟨b, o + 2, none⟩ = some (.int .u64 25769803776) ∧ W.cell? ⟨b, o + 3, none⟩ = some (.int .u64 0) ∧ W.cell? ⟨b, o + 4, none⟩ = some (.int .u64 0) ∧ W.cell? ⟨b, o + 5, none⟩ = some (.int .i64 0) ∧ W.cell? ⟨b, o + 6, none⟩ = some (.int .i64 0)) := hID (fun W ho => ⟨hc W ho 0 _ rfl, hc W ho 1 _ rfl, hc W ho 2 _ rfl, hc W ho 3 _ rfl, hc W ho 4 _ rfl, hc W ho 5 _ rfl, hc W ho 6 _ rfl⟩)
 clear hc hv
 go_enter Tryz.func102, Tryz.ntmps102
 have X0 : Hid (Off Nob w w) := hID oRf
 obtain ⟨c0, c1, c2, c3, c4, c5, c6⟩ := GC.out _ X0.out
 go_wp2_with fail
 refine wp_loop_rounds 2 ?_
 rw [rounds_succ]
 go_wp2_with fail
 have X1 := hID (X0.out.alloc (.cells #[.bool false, .int .u64 0, .int .u64 25769803776, .int .u64 0, .int .u64 0, .int .i64 0, .int .i64 0] 160))
 clear X0
 clear c0 c1 c2 c3 c4 c5 c6
 generalize w.alloc (.cells #[.bool false, .int .u64 0, .int .u64 25769803776, .int .u64 0, .int .u64 0, .int .i64 0, .int .i64 0] 160) = w1 at *
 rw [rounds_succ]
 obtain ⟨c0, c1, c2, c3, c4, c5, c6⟩ := GC.out _ X1.out
 go_wp2_with fail
 go_ret2
 exact ⟨rfl, X1.out⟩
theorem Tryz.infoPa : (Tryz.prog.info? 160).map (fun i => (i.zero, i.size, i.bytes)) = some (some (.agg #[.bool false, .int .u64 0, .int .u64 0, .int .u64 0, .int .u64 0, .int .i64 0, .int .i64 0]), 7, 56) := by kernel_rfl
theorem qxl (w : World) (v : Value) (hv : Rd w (fun _ => True) 8 v 1 el_a) : Calls Tryz.prog 69 #[.agg #[.int .i64 5, v]] w (fun e w' => ∃ u, e = .returned (.tuple #[u, .int .i64 0]) ∧ Rd w' (fun k => w.heap.size ≤ k) 7 u 2 pa_a ∧ Off Nob w w') := by
 obtain ⟨i0, hi, hz0, hz1, hz2⟩ := info_parts Tryz.infoPa
 have hx0 : (⟨#[97, 98]⟩ : ByteArray)[0]'(by decide) = 97 := rfl
 have hx1 : (⟨#[97, 98]⟩ : ByteArray)[1]'(by decide) = 98 := rfl
 obtain ⟨b, o, c, rfl, hc⟩ := hv.cellsT (by decide)
 have HC := hID hc
 clear hc hv
 go_enter Tryz.func69, Tryz.ntmps69
 go_wp2_with fail
 have HB0 : Hid (Blk (w.alloc (.cells #[.int .i64 5, .slice (some ⟨b, o, none⟩) 1 c] 124)) w.heap.size 124 #[.int .i64 5, .slice (some ⟨b, o, none⟩) 1 c] ∧ Off Nob w (w.alloc (.cells #[.int .i64 5, .slice (some ⟨b, o, none⟩) 1 c] 124))) := hID ⟨Blk.new _ _ _, oAl oRf _⟩
 revert HB0
 generalize (w.alloc (.cells #[.int .i64 5, .slice (some ⟨b, o, none⟩) 1 c] 124)) = w0
 intro HB0
 refine wp_loop_rounds 2 ?_
 rw [rounds_succ]
 have t0 := HB0.out.1.cell 0
 have t1 := HB0.out.1.cell 1
 simp only [qG] at t0 t1
 have c0 := HC.out _ HB0.out.2 0 _ rfl
 have c1 := HC.out _ HB0.out.2 1 _ rfl
 have c2 := HC.out _ HB0.out.2 2 _ rfl
 have c3 := HC.out _ HB0.out.2 3 _ rfl
 have c4 := HC.out _ HB0.out.2 4 _ rfl
 have c5 := HC.out _ HB0.out.2 5 _ rfl
 have c6 := HC.out _ HB0.out.2 6 _ rfl
 have c7 := HC.out _ HB0.out.2 7 _ rfl
 simp only [Nat.add_zero] at c0
 go_wp2_with fail
 have GC : Hid (∀ W, Off Nob (w0.alloc (.cells #[.int .i64 1, .string ⟨#[97, 98]⟩, .int .u64 0, .int .u64 0, .int .u64 0, .int .u64 0, .int .i64 0, .int .i64 0] 126)) W → W.cell? ⟨w.heap.size, 0, none⟩ = some (.int .i64 5) ∧ W.cell? ⟨w.heap.size, 1, none⟩ = some (.slice (some ⟨b, o, none⟩) 1 c) ∧ W.cell? ⟨w0.heap.size, 0, none⟩ = some (.int .i64 1) ∧ W.cell? ⟨w0.heap.size, 1, none⟩ = some (.string ⟨#[97, 98]⟩)) := hID (fun W ho => by
  have h := (HB0.out.1.alloc (.cells #[.int .i64 1, .string ⟨#[97, 98]⟩, .int .u64 0, .int .u64 0, .int .u64 0, .int .u64 0, .int .i64 0, .int .i64 0] 126)).to (ho.block _ (HB0.out.1.alloc _).lt (fun h => h))
  have k := Blk.to (Blk.new w0 126 #[.int .i64 1, .string ⟨#[97, 98]⟩, .int .u64 0, .int .u64 0, .int .u64 0, .int .u64 0, .int .i64 0, .int .i64 0]) (ho.block _ (Blk.new w0 126 #[.int .i64 1, .string ⟨#[97, 98]⟩, .int .u64 0, .int .u64 0, .int .u64 0, .int .u64 0, .int .i64 0, .int .i64 0]).lt (fun h => h))
  exact ⟨h.cell 0, h.cell 1, k.cell 0, k.cell 1⟩)
 have Y1 : Hid (Off Nob w (w0.alloc (.cells #[.int .i64 1, .string ⟨#[97, 98]⟩, .int .u64 0, .int .u64 0, .int .u64 0, .int .u64 0, .int .i64 0, .int .i64 0] 126))) := hID (HB0.out.2.alloc _)
 clear t0 t1 c0 c1 c2 c3 c4 c5 c6 c7
 revert GC Y1
 generalize (w0.alloc (.cells #[.int .i64 1, .string ⟨#[97, 98]⟩, .int .u64 0, .int .u64 0, .int .u64 0, .int .u64 0, .int .i64 0, .int .i64 0] 126)) = w1
 intro GC Y1
 have X1 : Hid (Off Nob w1 w1) := hID oRf
 refine wp_loop_rounds 3 ?_
 rw [rounds_succ]
 obtain ⟨t0, t1, x0, x1⟩ := GC.out _ X1.out
 go_wp2_with fail
 refine (qzd _ _ (Rd.newT w1 5 [.int .u8 97] 1 1 rfl (by decide))).mono ?_
 rintro e w2 ⟨rfl, o1⟩
 have X2 := hID ((X1.out.alloc (.cells #[.int .u8 97] 5)).also o1)
 have OW2 := hID (OwnL.nilAt (Y1.out.also X2.out) 160 7)
 clear o1 X1 t0 t1 x0 x1
 obtain ⟨t0, t1, x0, x1⟩ := GC.out _ (X2.out.alloc (.cells #[.int .u64 0, .int .u64 8589934592, .int .u64 0, .int .u64 0] 73))
 go_wp2_with (at_builtin; refine @wpList_append_lies _ _ _ _ _ _ _ rfl _ _ 54 rfl w.heap.size 160 i0 (.agg #[.bool false, .int .u64 0, .int .u64 0, .int .u64 0, .int .u64 0, .int .i64 0, .int .i64 0]) 7 56 Tryz.underlying54 hi hz0 hz1 hz2 rfl (by decide) (.slice none 0 0) 0 [] rfl ((OW2.out.off (oAl (Off.refl Nob w2) (.cells #[.int .u64 0, .int .u64 8589934592, .int .u64 0, .int .u64 0] 73))).1.alloc _) ⟨w2.heap.size + 1, 0, none⟩ 1 1 [.bool false, .int .u64 0, .int .u64 8589934592, .int .u64 0, .int .u64 0, .int .i64 0, .int .i64 0] rfl rfl ?c1 (by decide) (by decide) (by decide) (by decide) (by have := OW2.out.2.size; simp; omega) _ rfl ?_)
 case c1 =>
  intro j u hj
  have := qby (w2.alloc (.cells #[.int .u64 0, .int .u64 8589934592, .int .u64 0, .int .u64 0] 73)) [.bool false, .int .u64 0, .int .u64 8589934592, .int .u64 0, .int .u64 0, .int .i64 0, .int .i64 0] 160 j u hj
  simpa using this
 intro g1 cap1 w3 oW gW hat hlt
 have OW3 := hID ((OW2.out.off (oAl (Off.refl Nob w2) (.cells #[.int .u64 0, .int .u64 8589934592, .int .u64 0, .int .u64 0] 73))).grown (oAl oRf (.cells #[.bool false, .int .u64 0, .int .u64 8589934592, .int .u64 0, .int .u64 0, .int .i64 0, .int .i64 0] 160)) oW gW)
 have X3 : Hid (Off Nob w1 w3) := hID ((X2.out.alloc (.cells #[.int .u64 0, .int .u64 8589934592, .int .u64 0, .int .u64 0] 73)).alloc (.cells #[.bool false, .int .u64 0, .int .u64 8589934592, .int .u64 0, .int .u64 0, .int .i64 0, .int .i64 0] 160) |>.grown gW (fun k hk => by cases hk))
 have KG : Hid (w1.heap.size ≤ g1) := hID (by
  rcases hat with h | h
  ·cases h
  ·have := X2.out.size
   rw [h]; simp; omega)
 clear oW gW hat hlt X2 OW2 t0 t1 x0 x1
 obtain ⟨t0, t1, x0, x1⟩ := GC.out _ X3.out
 go_wp2_with fail
 rw [rounds_succ]
 go_wp2_with fail
 refine (qze _ _ (Rd.newT w3 5 [.int .u8 98] 1 1 rfl (by decide))).mono ?_
 rintro e w4 ⟨rfl, o1⟩
 have X4 := hID ((X3.out.alloc (.cells #[.int .u8 98] 5)).also o1)
 have OW4 := hID ((OW3.out.off (oAl (Off.refl Nob w3) (.cells #[.int .u8 98] 5))).off o1)
 clear o1 X3 OW3 t0 t1 x0 x1
 obtain ⟨t0, t1, x0, x1⟩ := GC.out _ (X4.out.alloc (.cells #[.int .u64 0, .int .u64 17179869184, .int .u64 0, .int .u64 0] 73))
 go_wp2_with (at_builtin; refine @wpList_append_lies _ _ _ _ _ _ _ rfl _ _ 54 rfl w.heap.size 160 i0 (.agg #[.bool false, .int .u64 0, .int .u64 0, .int .u64 0, .int .u64 0, .int .i64 0, .int .i64 0]) 7 56 Tryz.underlying54 hi hz0 hz1 hz2 rfl (by decide) (.slice (some ⟨g1, 0, none⟩) (0 + 1) cap1) (0 + 1) ([] ++ [.bool false, .int .u64 0, .int .u64 8589934592, .int .u64 0, .int .u64 0, .int .i64 0, .int .i64 0]) rfl ((OW4.out.off (oAl (Off.refl Nob w4) (.cells #[.int .u64 0, .int .u64 17179869184, .int .u64 0, .int .u64 0] 73))).1.alloc _) ⟨w4.heap.size + 1, 0, none⟩ 1 1 [.bool false, .int .u64 0, .int .u64 17179869184, .int .u64 0, .int .u64 0, .int .i64 0, .int .i64 0] rfl rfl ?c1 (by decide) (by decide) (by decide) (by decide) (by have := OW4.out.2.size; simp; omega) _ rfl ?_)
 case c1 =>
  intro j u hj
  have := qby (w4.alloc (.cells #[.int .u64 0, .int .u64 17179869184, .int .u64 0, .int .u64 0] 73)) [.bool false, .int .u64 0, .int .u64 17179869184, .int .u64 0, .int .u64 0, .int .i64 0, .int .i64 0] 160 j u hj
  simpa using this
 intro g2 cap2 w5 oW gW hat hlt
 have OW5 := hID ((OW4.out.off (oAl (Off.refl Nob w4) (.cells #[.int .u64 0, .int .u64 17179869184, .int .u64 0, .int .u64 0] 73))).grown (oAl oRf (.cells #[.bool false, .int .u64 0, .int .u64 17179869184, .int .u64 0, .int .u64 0, .int .i64 0, .int .i64 0] 160)) oW gW)
 have X5 : Hid (Off Nob w1 w5) := hID ((X4.out.alloc (.cells #[.int .u64 0, .int .u64 17179869184, .int .u64 0, .int .u64 0] 73)).alloc (.cells #[.bool false, .int .u64 0, .int .u64 17179869184, .int .u64 0, .int .u64 0, .int .i64 0, .int .i64 0] 160) |>.grown gW (fun k hk => .inr (by injection hk with hk; rw [← hk]; exact KG.out)))
 clear oW gW hat hlt X4 OW4 t0 t1 x0 x1
 obtain ⟨t0, t1, x0, x1⟩ := GC.out _ X5.out
 go_wp2_with fail
 rw [rounds_succ]
 go_wp2_with fail
 rw [rounds_succ]
 go_wp2_with fail
 refine (qpu _ _ (show Rd w5 (fun _ => True) 7 _ 2 pa_a from OW5.out.rd)).mono ?_
 rintro e w6 ⟨rfl, o1⟩
 have OW6 := hID (OW5.out.off o1)
 clear o1
 go_wp2_with fail
 go_ret2
 exact ⟨_, rfl, Rd.own OW6.out.1 (fun k hk => (OW6.out.1.lt k hk).1), OW6.out.2⟩
theorem qxm (w : World) (v : Value) (hv : Rd w (fun _ => True) 8 v 1 el_b) : Calls Tryz.prog 69 #[.agg #[.int .i64 9, v]] w (fun e w' => ∃ u, e = .returned (.tuple #[u, .int .i64 0]) ∧ Rd w' (fun k => w.heap.size ≤ k) 7 u 1 pa_b ∧ Off Nob w w') := by
 obtain ⟨i0, hi, hz0, hz1, hz2⟩ := info_parts Tryz.infoPa
 have hx0 : (⟨#[97, 98]⟩ : ByteArray)[0]'(by decide) = 97 := rfl
 have hx1 : (⟨#[97, 98]⟩ : ByteArray)[1]'(by decide) = 98 := rfl
 obtain ⟨b, o, c, rfl, hc⟩ := hv.cellsT (by decide)
 have HC := hID hc
 clear hc hv
 go_enter Tryz.func69, Tryz.ntmps69
 go_wp2_with fail
 have HB0 : Hid (Blk (w.alloc (.cells #[.int .i64 9, .slice (some ⟨b, o, none⟩) 1 c] 124)) w.heap.size 124 #[.int .i64 9, .slice (some ⟨b, o, none⟩) 1 c] ∧ Off Nob w (w.alloc (.cells #[.int .i64 9, .slice (some ⟨b, o, none⟩) 1 c] 124))) := hID ⟨Blk.new _ _ _, oAl oRf _⟩
 revert HB0
 generalize (w.alloc (.cells #[.int .i64 9, .slice (some ⟨b, o, none⟩) 1 c] 124)) = w0
 intro HB0
 refine wp_loop_rounds 2 ?_
 rw [rounds_succ]
 have t0 := HB0.out.1.cell 0
 have t1 := HB0.out.1.cell 1
 simp only [qG] at t0 t1
 have c0 := HC.out _ HB0.out.2 0 _ rfl
 have c1 := HC.out _ HB0.out.2 1 _ rfl
 have c2 := HC.out _ HB0.out.2 2 _ rfl
 have c3 := HC.out _ HB0.out.2 3 _ rfl
 have c4 := HC.out _ HB0.out.2 4 _ rfl
 have c5 := HC.out _ HB0.out.2 5 _ rfl
 have c6 := HC.out _ HB0.out.2 6 _ rfl
 have c7 := HC.out _ HB0.out.2 7 _ rfl
 simp only [Nat.add_zero] at c0
 go_wp2_with (at_builtin; refine @wpList_append_lies _ _ _ _ _ _ _ rfl _ _ 54 rfl w.heap.size 160 i0 (.agg #[.bool false, .int .u64 0, .int .u64 0, .int .u64 0, .int .u64 0, .int .i64 0, .int .i64 0]) 7 56 Tryz.underlying54 hi hz0 hz1 hz2 rfl (by decide) (.slice none 0 0) 0 [] rfl (((OwnL.nilAt HB0.out.2 160 7).off (oAl (Off.refl Nob w0) (.cells #[.int .i64 3, .string ⟨#[]⟩, .int .u64 0, .int .u64 25769803776, .int .u64 0, .int .u64 0, .int .i64 0, .int .i64 0] 126))).1.alloc _) ⟨w0.heap.size + 1, 0, none⟩ 1 1 [.bool false, .int .u64 0, .int .u64 25769803776, .int .u64 0, .int .u64 0, .int .i64 0, .int .i64 0] rfl rfl ?c1 (by decide) (by decide) (by decide) (by decide) (by have := (OwnL.nilAt HB0.out.2 160 7).2.size; simp; omega) _ rfl ?_)
 case c1 =>
  intro j u hj
  have := qby (w0.alloc (.cells #[.int .i64 3, .string ⟨#[]⟩, .int .u64 0, .int .u64 25769803776, .int .u64 0, .int .u64 0, .int .i64 0, .int .i64 0] 126)) [.bool false, .int .u64 0, .int .u64 25769803776, .int .u64 0, .int .u64 0, .int .i64 0, .int .i64 0] 160 j u hj
  simpa using this
 intro g1 cap1 w3 oW gW hat hlt
 have OW3 := hID (((OwnL.nilAt HB0.out.2 160 7).off (oAl (Off.refl Nob w0) (.cells #[.int .i64 3, .string ⟨#[]⟩, .int .u64 0, .int .u64 25769803776, .int .u64 0, .int .u64 0, .int .i64 0, .int .i64 0] 126))).grown (oAl oRf (.cells #[.bool false, .int .u64 0, .int .u64 25769803776, .int .u64 0, .int .u64 0, .int .i64 0, .int .i64 0] 160)) oW gW)
 have X3 : Hid (Off Nob w0 w3) := hID (Off.grown (oAl (oAl oRf _) _) gW (fun k hk => by cases hk))
 have HB3 := hID (HB0.out.1.to (X3.out.block _ HB0.out.1.lt (fun h => h)))
 clear oW gW hat hlt t0 t1 c0 c1 c2 c3 c4 c5 c6 c7
 have t0 := HB3.out.cell 0
 have t1 := HB3.out.cell 1
 simp only [qG] at t0 t1
 go_wp2_with fail
 rw [rounds_succ]
 go_wp2_with fail
 refine (qpv _ _ (show Rd w3 (fun _ => True) 7 _ 1 pa_b from OW3.out.rd)).mono ?_
 rintro e w6 ⟨rfl, o1⟩
 have OW6 := hID (OW3.out.off o1)
 clear o1
 go_wp2_with fail
 go_ret2
 exact ⟨_, rfl, Rd.own OW6.out.1 (fun k hk => (OW6.out.1.lt k hk).1), OW6.out.2⟩
end
section
open Go.RowKit
end
section
open Go.RowKit
theorem Tryz.infoU64 : (Tryz.prog.info? 71).map (fun i => (i.zero, i.size, i.bytes)) = some (some (.int .u64 0), 1, 8) := by kernel_rfl
end
section
open Go.RowKit
theorem Tryz.infoLa : (Tryz.prog.info? 43).map (fun i => (i.zero, i.size, i.bytes)) = some (some (.agg #[.int .i64 0, .int .i64 0, .int .i64 0]), 3, 24) := by kernel_rfl
end
section
open Go.RowKit
end
section
open Go.RowKit
def Asc (xs : List Int) : Prop := ∀ j, j + 1 < xs.length → xs.getD j 0 < xs.getD (j + 1) 0
theorem q1n (xs : List Int) (hx : ∀ x ∈ xs, 1 ≤ x ∧ x ≤ 1000) (hn : xs.length ≤ 1024) (w : World) (v : Value) (hv : Rd w (fun _ => True) 1 v xs.length (xs.map (Value.int .i64))) : Calls Tryz.prog 74 #[v] w fun e w' => (∃ i m, e = .returned (.tuple #[.int .i64 i, .int .i64 m]) ∧ (Asc xs ∧ m = 0 ∨ ¬ Asc xs ∧ m = 6)) ∧ w = w' := by
 have HV := hID hv
 have HC : Hid (∀ k, k < xs.length → ∃ a, v = a ∧ True) := hID (fun _ _ => ⟨v, rfl, trivial⟩)
 clear HC
 have hform : ∃ A c, v = .slice A xs.length c := by
  obtain ⟨A, c, rfl, _⟩ := hv.form
  exact ⟨A, c, rfl⟩
 obtain ⟨A, c, rfl⟩ := hform
 have HC : Hid (∀ k, k < xs.length → ∃ b o, A = some ⟨b, o, none⟩ ∧ ∀ j, j < xs.length → w.cell? ⟨b, o + j, none⟩ = some (.int .i64 (xs.getD j 0))) := hID (fun k hk => by
  obtain ⟨b, o, c2, he, hc⟩ := hv.cellsT (by omega)
  injection he with h1 h2 h3
  exact ⟨b, o, h1, fun j hj => hc w oRf j _ (by simp [gDe, gEe hj])⟩)
 clear hv HV
 have HX : Hid (∀ k, k < xs.length → 1 ≤ xs.getD k 0 ∧ xs.getD k 0 ≤ 1000) := hID (fun k hk => by rw [gDe, gEe hk]; exact hx _ (List.getElem_mem hk))
 clear hx
 go_enter Tryz.func74, Tryz.ntmps74
 go_wp2_with fail
 go_loopw [8] (fun p wr => ∃ k : Nat, p = .int .i64 (k : Int) ∧ k ≤ xs.length ∧ (∀ j, j + 1 < k → xs.getD j 0 < xs.getD (j + 1) 0) ∧ wr = w) (fun p wr => xs.length - (intOf p).toNat)
 case atStart => exact ⟨0, rfl, Nat.zero_le _, fun j hj => by omega, rfl⟩
 case round =>
  obtain ⟨k, rfl, hk, hall, rfl⟩ := hrel
  have HA := hID hall
  clear hall
  by_cases hlt : k < xs.length
  ·have d1 : decide ((k : Int) < (xs.length : Int)) = true := dcT
   obtain ⟨b, o, rfl, hc⟩ := HC.out k hlt
   have ck := hc k hlt
   obtain ⟨y, hy⟩ : ∃ y, xs.getD k 0 = y := ⟨_, rfl⟩
   have hyb := HX.out k hlt
   have HY := hID hy
   rw [hy] at ck hyb
   have d2 : decide (y < 1) = false := dcF
   have d3 : decide (1000 < y) = false := dcF
   by_cases hk0 : k = 0
   ·subst hk0
    clear hy hyb hc
    rw [Nat.add_zero] at ck
    go_wp2_with fail
    go_roundw
    case rel => exact ⟨1, rfl, by omega, fun j hj => by omega, trivial⟩
    case measure => simp [intOf]; omega
   ·have d4 : decide ((0 : Int) < (k : Int)) = true := dcT
    have cp := hc (k - 1) (by omega)
    obtain ⟨z, hz⟩ : ∃ z, xs.getD (k - 1) 0 = z := ⟨_, rfl⟩
    have HZ := hID hz
    rw [hz] at cp
    have hkk : ((k - 1 : Nat) : Int) = (k : Int) - 1 := by omega
    have HKK := hID hkk
    by_cases hyz : y ≤ z
    ·have d5 : decide (y ≤ z) = true := dT hyz
     clear hy hyb hc hz
     go_wp2_with fail
     go_ret2
     refine ⟨⟨_, _, rfl, .inr ⟨fun h => ?_, rfl⟩⟩, rfl⟩
     have := h (k - 1) (by omega)
     rw [HZ.out, show k - 1 + 1 = k by omega, HY.out] at this
     omega
    ·have d5 : decide (y ≤ z) = false := dF hyz
     clear hy hyb hc hz
     go_wp2_with fail
     go_roundw
     case rel =>
      refine ⟨k + 1, by go_num, by omega, fun j hj => ?_, trivial⟩
      by_cases hj2 : j + 1 < k
      ·exact HA.out j hj2
      ·obtain rfl : j = k - 1 := by omega
       rw [HZ.out, show k - 1 + 1 = k by omega, HY.out]
       omega
     case measure => simp [intOf]; omega
  ·obtain rfl : k = xs.length := by omega
   have d1 : decide ((xs.length : Int) < (xs.length : Int)) = false := dcF
   go_wp2_with fail
   go_ret2
   exact ⟨⟨_, _, rfl, .inl ⟨HA.out, rfl⟩⟩, rfl⟩
end
section
open Go.RowKit
theorem qae {P : Program} {fn : Func} {p u u2 : Tmp} {ty : TypeId} (h : fn.results = #[.cell p ty, .tmp u, .tmp u2]) (tmps : Array Value) (w : World) (g : Nat) (t : TypeId) (cs : Array Value) (fr : Nat × Nat) (d : TypeDesc)
  (hp : tmps.getD p undef = .pointer (some ⟨g, 0, none⟩)) (hg : w.heap[g]? = some (.cells cs t fr)) (hu : P.underlying ty = some d) (hd : (match d with | .struct _ | .array _ _ => true | _ => false) = true) (hi : (P.info? ty).map (·.size) = some cs.size) :
  (results fn tmps).run P w = .ok (.tuple #[.agg cs, tmps.getD u undef, tmps.getD u2 undef]) w := by
 have hp' : tmps[p]?.getD undef = .pointer (some ⟨g, 0, none⟩) := by simpa using hp
 simp [results, h, hp', asAddr, run_loadVar_row w g t ty cs fr d hg hu hd hi, Sem.run_bind, Result.andThen]
theorem qda {w : World} {base : Nat} {e t : TypeId} {size n g c b : Nat} {xs : List Value} {cs : Array Value} (h : w.ownsRow base e size (.slice (some ⟨g, 0, none⟩) n c) n xs) (hb : Blk w b t cs) (ne : t ≠ e) : g ≠ b := by
 rcases h.2 with ⟨hx, _⟩ | ⟨g', cap, cur, hv, _, hh, _⟩
 ·cases hx
 ·injection hv with hv1
  injection hv1 with hv1
  injection hv1 with hv1
  subst hv1
  rintro rfl
  unfold Blk at hb
  rw [hb] at hh
  injection hh with hh
  injection hh with _ hh
  exact ne hh
theorem Tryz.infoLp : (Tryz.prog.info? 62).map (·.size) = some 2 := by kernel_rfl
end
end Go.Proofs.YtlgjaefcfnndhaaGreatDoor
