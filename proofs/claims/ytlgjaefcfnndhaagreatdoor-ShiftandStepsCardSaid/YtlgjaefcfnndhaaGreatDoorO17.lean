/-
 dragnetref13.choices, Alone and Check at the rules of the example.
-/
import Derived.Test.YtlgjaefcfnndhaaGreatDoorO16
set_option linter.unusedVariables false
set_option linter.unusedSimpArgs false
set_option maxHeartbeats 16000000
set_option maxRecDepth 100000
namespace Go.Proofs.YtlgjaefcfnndhaaGreatDoor
section
open Go.RowKit
theorem qm3 (w : World) (v : Value) (hv : Rd w (fun _ => True) 8 v 1 el_a) : Calls Tryz.prog 120 #[.agg #[.int .i64 5, v]] w (RetV w (.int .i64 1)) := by
 obtain ⟨b, o, c, rfl, hc⟩ := hv.cellsT (by decide)
 have HC := hID hc
 clear hc hv
 go_enter Tryz.func120, Tryz.ntmps120
 go_wp2_with fail
 have HB0 : Hid (Blk (w.alloc (.cells #[.int .i64 5, .slice (some ⟨b, o, none⟩) 1 c] 124)) w.heap.size 124 #[.int .i64 5, .slice (some ⟨b, o, none⟩) 1 c] ∧ Off Nob w (w.alloc (.cells #[.int .i64 5, .slice (some ⟨b, o, none⟩) 1 c] 124))) := hID ⟨Blk.new _ _ _, oAl oRf _⟩
 revert HB0
 generalize (w.alloc (.cells #[.int .i64 5, .slice (some ⟨b, o, none⟩) 1 c] 124)) = w0
 intro HB0
 have GC : Hid (∀ W, Off Nob w0 W → W.cell? ⟨w.heap.size, 0, none⟩ = some (.int .i64 5) ∧ W.cell? ⟨w.heap.size, 1, none⟩ = some (.slice (some ⟨b, o, none⟩) 1 c) ∧ W.cell? ⟨b, o, none⟩ = some (.int .i64 1) ∧ W.cell? ⟨b, o + 1, none⟩ = some (.string ⟨#[97, 98]⟩) ∧ W.cell? ⟨b, o + 2, none⟩ = some (.int .u64 0) ∧ W.cell? ⟨b, o + 3, none⟩ = some (.int .u64 0) ∧ W.cell? ⟨b, o + 4, none⟩ = some (.int .u64 0) ∧ W.cell? ⟨b, o + 5, none⟩ = some (.int .u64 0) ∧ W.cell? ⟨b, o + 6, none⟩ = some (.int .i64 0) ∧ W.cell? ⟨b, o + 7, none⟩ = some (.int .i64 0)) := hID (fun W ho => by
  have h := HB0.out.1.to (ho.block _ HB0.out.1.lt (fun h => h))
  have k := HC.out W (HB0.out.2.also ho)
  exact ⟨h.cell 0, h.cell 1, k 0 _ rfl, k 1 _ rfl, k 2 _ rfl, k 3 _ rfl, k 4 _ rfl, k 5 _ rfl, k 6 _ rfl, k 7 _ rfl⟩)
 have X0 : Hid (Off Nob w0 w0) := hID oRf
 obtain ⟨t0, t1, c0, c1, c2, c3, c4, c5, c6, c7⟩ := GC.out _ X0.out
 go_wp2_with fail
 refine wp_loop_rounds 2 ?_
 rw [rounds_succ]
 go_wp2_with fail
 rw [rounds_succ]
 go_wp2_with fail
 go_ret
 exact ⟨rfl, HB0.out.2.also X0.out⟩
theorem qq7 (w : World) (v : Value) (hv : Rd w (fun _ => True) 8 v 1 el_a) : Calls Tryz.prog 98 #[.agg #[.int .i64 5, v]] w (RetV w (.tuple #[.int .i64 0, .int .i64 0])) := by
 have HV0 := hID hv
 obtain ⟨b, o, c, rfl, hc⟩ := hv.cellsT (by decide)
 have HV := HV0
 have HC := hID hc
 clear hc hv HV0
 go_enter Tryz.func98, Tryz.ntmps98
 go_wp2_with fail
 have HL : Hid (Rd ((w.alloc (.cells #[.int .i64 5, .slice (some ⟨b, o, none⟩) 1 c] 124)).alloc (.cells #[.int .i64 5, .slice (some ⟨b, o, none⟩) 1 c] 124)) (fun _ => True) 2 (.slice (some ⟨w.heap.size + 1, 0, none⟩) 1 1) 1 [.int .i64 5, .slice (some ⟨b, o, none⟩) 1 c]) := hID (by have := Rd.newT (w.alloc (.cells #[.int .i64 5, .slice (some ⟨b, o, none⟩) 1 c] 124)) 124 [.int .i64 5, .slice (some ⟨b, o, none⟩) 1 c] 2 1 rfl (by decide); simpa using this)
 have HB0 : Hid (Blk ((w.alloc (.cells #[.int .i64 5, .slice (some ⟨b, o, none⟩) 1 c] 124)).alloc (.cells #[.int .i64 5, .slice (some ⟨b, o, none⟩) 1 c] 124)) w.heap.size 124 #[.int .i64 5, .slice (some ⟨b, o, none⟩) 1 c] ∧ Off Nob w ((w.alloc (.cells #[.int .i64 5, .slice (some ⟨b, o, none⟩) 1 c] 124)).alloc (.cells #[.int .i64 5, .slice (some ⟨b, o, none⟩) 1 c] 124))) := hID ⟨(Blk.new _ _ _).alloc _, oAl (oAl oRf _) _⟩
 revert HB0 HL
 generalize ((w.alloc (.cells #[.int .i64 5, .slice (some ⟨b, o, none⟩) 1 c] 124)).alloc (.cells #[.int .i64 5, .slice (some ⟨b, o, none⟩) 1 c] 124)) = w0
 intro HL HB0
 have GC : Hid (∀ W, Off Nob w0 W → W.cell? ⟨w.heap.size, 0, none⟩ = some (.int .i64 5) ∧ W.cell? ⟨w.heap.size, 1, none⟩ = some (.slice (some ⟨b, o, none⟩) 1 c) ∧ W.cell? ⟨b, o, none⟩ = some (.int .i64 1) ∧ W.cell? ⟨b, o + 1, none⟩ = some (.string ⟨#[97, 98]⟩) ∧ W.cell? ⟨b, o + 2, none⟩ = some (.int .u64 0) ∧ W.cell? ⟨b, o + 3, none⟩ = some (.int .u64 0) ∧ W.cell? ⟨b, o + 4, none⟩ = some (.int .u64 0) ∧ W.cell? ⟨b, o + 5, none⟩ = some (.int .u64 0) ∧ W.cell? ⟨b, o + 6, none⟩ = some (.int .i64 0) ∧ W.cell? ⟨b, o + 7, none⟩ = some (.int .i64 0)) := hID (fun W ho => by
  have h := HB0.out.1.to (ho.block _ HB0.out.1.lt (fun h => h))
  have k := HC.out W (HB0.out.2.also ho)
  exact ⟨h.cell 0, h.cell 1, k 0 _ rfl, k 1 _ rfl, k 2 _ rfl, k 3 _ rfl, k 4 _ rfl, k 5 _ rfl, k 6 _ rfl, k 7 _ rfl⟩)
 have X0 : Hid (Off Nob w0 w0) := hID oRf
 obtain ⟨t0, t1, c0, c1, c2, c3, c4, c5, c6, c7⟩ := GC.out _ X0.out
 go_wp2_with fail
 refine (qtn _ _ _ HL.out (HV.out.keepT HB0.out.2)).mono ?_
 rintro e w1 ⟨rfl, o1⟩
 have X1 := hID (X0.out.also o1)
 clear HL
 clear o1 X0
 clear t0 t1 c0 c1 c2 c3 c4 c5 c6 c7
 obtain ⟨t0, t1, c0, c1, c2, c3, c4, c5, c6, c7⟩ := GC.out _ X1.out
 go_wp2_with fail
 refine wp_loop_rounds 2 ?_
 rw [rounds_succ]
 go_wp2_with fail
 refine (qm1 _ _ (HV.out.keepT (HB0.out.2.also X1.out))).mono ?_
 rintro e w2 ⟨rfl, o1⟩
 have X2 := hID (X1.out.also o1)
 clear o1 X1
 clear t0 t1 c0 c1 c2 c3 c4 c5 c6 c7
 obtain ⟨t0, t1, c0, c1, c2, c3, c4, c5, c6, c7⟩ := GC.out _ X2.out
 go_wp2_with fail
 rw [rounds_succ]
 go_wp2_with fail
 refine (qm3 _ _ (HV.out.keepT (HB0.out.2.also X2.out))).mono ?_
 rintro e w3 ⟨rfl, o1⟩
 have X3 := hID (X2.out.also o1)
 clear o1 X2
 clear t0 t1 c0 c1 c2 c3 c4 c5 c6 c7
 obtain ⟨t0, t1, c0, c1, c2, c3, c4, c5, c6, c7⟩ := GC.out _ X3.out
 go_wp2_with fail
 refine (qhu _ _ (HV.out.keepT (HB0.out.2.also X3.out))).mono ?_
 rintro e w4 ⟨v1, rfl, hr, o1⟩
 have X4 := hID (X3.out.also o1)
 have HT := hID hr
 obtain ⟨AA, cc, rfl, _⟩ := hr.form
 clear hr
 clear o1 X3
 clear t0 t1 c0 c1 c2 c3 c4 c5 c6 c7
 obtain ⟨t0, t1, c0, c1, c2, c3, c4, c5, c6, c7⟩ := GC.out _ X4.out
 go_wp2_with fail
 refine Calls.mono (R := RetV _ (.int .i64 2)) (qib 2 (by decide) _ _ HT.out) ?_
 rintro e w5 ⟨rfl, o1⟩
 have X5 := hID (X4.out.also o1)
 clear HT
 clear o1 X4
 clear t0 t1 c0 c1 c2 c3 c4 c5 c6 c7
 obtain ⟨t0, t1, c0, c1, c2, c3, c4, c5, c6, c7⟩ := GC.out _ X5.out
 go_wp2_with fail
 go_ret2
 exact ⟨rfl, HB0.out.2.also X5.out⟩
theorem qm4 (w : World) (v : Value) (hv : Rd w (fun _ => True) 8 v 1 el_b) : Calls Tryz.prog 120 #[.agg #[.int .i64 9, v]] w (RetV w (.int .i64 1)) := by
 obtain ⟨b, o, c, rfl, hc⟩ := hv.cellsT (by decide)
 have HC := hID hc
 clear hc hv
 go_enter Tryz.func120, Tryz.ntmps120
 go_wp2_with fail
 have HB0 : Hid (Blk (w.alloc (.cells #[.int .i64 9, .slice (some ⟨b, o, none⟩) 1 c] 124)) w.heap.size 124 #[.int .i64 9, .slice (some ⟨b, o, none⟩) 1 c] ∧ Off Nob w (w.alloc (.cells #[.int .i64 9, .slice (some ⟨b, o, none⟩) 1 c] 124))) := hID ⟨Blk.new _ _ _, oAl oRf _⟩
 revert HB0
 generalize (w.alloc (.cells #[.int .i64 9, .slice (some ⟨b, o, none⟩) 1 c] 124)) = w0
 intro HB0
 have GC : Hid (∀ W, Off Nob w0 W → W.cell? ⟨w.heap.size, 0, none⟩ = some (.int .i64 9) ∧ W.cell? ⟨w.heap.size, 1, none⟩ = some (.slice (some ⟨b, o, none⟩) 1 c) ∧ W.cell? ⟨b, o, none⟩ = some (.int .i64 3) ∧ W.cell? ⟨b, o + 1, none⟩ = some (.string ⟨#[]⟩) ∧ W.cell? ⟨b, o + 2, none⟩ = some (.int .u64 0) ∧ W.cell? ⟨b, o + 3, none⟩ = some (.int .u64 25769803776) ∧ W.cell? ⟨b, o + 4, none⟩ = some (.int .u64 0) ∧ W.cell? ⟨b, o + 5, none⟩ = some (.int .u64 0) ∧ W.cell? ⟨b, o + 6, none⟩ = some (.int .i64 0) ∧ W.cell? ⟨b, o + 7, none⟩ = some (.int .i64 0)) := hID (fun W ho => by
  have h := HB0.out.1.to (ho.block _ HB0.out.1.lt (fun h => h))
  have k := HC.out W (HB0.out.2.also ho)
  exact ⟨h.cell 0, h.cell 1, k 0 _ rfl, k 1 _ rfl, k 2 _ rfl, k 3 _ rfl, k 4 _ rfl, k 5 _ rfl, k 6 _ rfl, k 7 _ rfl⟩)
 have X0 : Hid (Off Nob w0 w0) := hID oRf
 obtain ⟨t0, t1, c0, c1, c2, c3, c4, c5, c6, c7⟩ := GC.out _ X0.out
 go_wp2_with fail
 refine wp_loop_rounds 2 ?_
 rw [rounds_succ]
 go_wp2_with fail
 rw [rounds_succ]
 go_wp2_with fail
 go_ret
 exact ⟨rfl, HB0.out.2.also X0.out⟩
theorem qq8 (w : World) (v : Value) (hv : Rd w (fun _ => True) 8 v 1 el_b) : Calls Tryz.prog 98 #[.agg #[.int .i64 9, v]] w (RetV w (.tuple #[.int .i64 0, .int .i64 0])) := by
 have HV0 := hID hv
 obtain ⟨b, o, c, rfl, hc⟩ := hv.cellsT (by decide)
 have HV := HV0
 have HC := hID hc
 clear hc hv HV0
 go_enter Tryz.func98, Tryz.ntmps98
 go_wp2_with fail
 have HL : Hid (Rd ((w.alloc (.cells #[.int .i64 9, .slice (some ⟨b, o, none⟩) 1 c] 124)).alloc (.cells #[.int .i64 9, .slice (some ⟨b, o, none⟩) 1 c] 124)) (fun _ => True) 2 (.slice (some ⟨w.heap.size + 1, 0, none⟩) 1 1) 1 [.int .i64 9, .slice (some ⟨b, o, none⟩) 1 c]) := hID (by have := Rd.newT (w.alloc (.cells #[.int .i64 9, .slice (some ⟨b, o, none⟩) 1 c] 124)) 124 [.int .i64 9, .slice (some ⟨b, o, none⟩) 1 c] 2 1 rfl (by decide); simpa using this)
 have HB0 : Hid (Blk ((w.alloc (.cells #[.int .i64 9, .slice (some ⟨b, o, none⟩) 1 c] 124)).alloc (.cells #[.int .i64 9, .slice (some ⟨b, o, none⟩) 1 c] 124)) w.heap.size 124 #[.int .i64 9, .slice (some ⟨b, o, none⟩) 1 c] ∧ Off Nob w ((w.alloc (.cells #[.int .i64 9, .slice (some ⟨b, o, none⟩) 1 c] 124)).alloc (.cells #[.int .i64 9, .slice (some ⟨b, o, none⟩) 1 c] 124))) := hID ⟨(Blk.new _ _ _).alloc _, oAl (oAl oRf _) _⟩
 revert HB0 HL
 generalize ((w.alloc (.cells #[.int .i64 9, .slice (some ⟨b, o, none⟩) 1 c] 124)).alloc (.cells #[.int .i64 9, .slice (some ⟨b, o, none⟩) 1 c] 124)) = w0
 intro HL HB0
 have GC : Hid (∀ W, Off Nob w0 W → W.cell? ⟨w.heap.size, 0, none⟩ = some (.int .i64 9) ∧ W.cell? ⟨w.heap.size, 1, none⟩ = some (.slice (some ⟨b, o, none⟩) 1 c) ∧ W.cell? ⟨b, o, none⟩ = some (.int .i64 3) ∧ W.cell? ⟨b, o + 1, none⟩ = some (.string ⟨#[]⟩) ∧ W.cell? ⟨b, o + 2, none⟩ = some (.int .u64 0) ∧ W.cell? ⟨b, o + 3, none⟩ = some (.int .u64 25769803776) ∧ W.cell? ⟨b, o + 4, none⟩ = some (.int .u64 0) ∧ W.cell? ⟨b, o + 5, none⟩ = some (.int .u64 0) ∧ W.cell? ⟨b, o + 6, none⟩ = some (.int .i64 0) ∧ W.cell? ⟨b, o + 7, none⟩ = some (.int .i64 0)) := hID (fun W ho => by
  have h := HB0.out.1.to (ho.block _ HB0.out.1.lt (fun h => h))
  have k := HC.out W (HB0.out.2.also ho)
  exact ⟨h.cell 0, h.cell 1, k 0 _ rfl, k 1 _ rfl, k 2 _ rfl, k 3 _ rfl, k 4 _ rfl, k 5 _ rfl, k 6 _ rfl, k 7 _ rfl⟩)
 have X0 : Hid (Off Nob w0 w0) := hID oRf
 obtain ⟨t0, t1, c0, c1, c2, c3, c4, c5, c6, c7⟩ := GC.out _ X0.out
 go_wp2_with fail
 refine (qto _ _ _ HL.out (HV.out.keepT HB0.out.2)).mono ?_
 rintro e w1 ⟨rfl, o1⟩
 have X1 := hID (X0.out.also o1)
 clear HL
 clear o1 X0
 clear t0 t1 c0 c1 c2 c3 c4 c5 c6 c7
 obtain ⟨t0, t1, c0, c1, c2, c3, c4, c5, c6, c7⟩ := GC.out _ X1.out
 go_wp2_with fail
 refine wp_loop_rounds 2 ?_
 rw [rounds_succ]
 go_wp2_with fail
 refine (qm2 _ _ (HV.out.keepT (HB0.out.2.also X1.out))).mono ?_
 rintro e w2 ⟨rfl, o1⟩
 have X2 := hID (X1.out.also o1)
 clear o1 X1
 clear t0 t1 c0 c1 c2 c3 c4 c5 c6 c7
 obtain ⟨t0, t1, c0, c1, c2, c3, c4, c5, c6, c7⟩ := GC.out _ X2.out
 go_wp2_with fail
 rw [rounds_succ]
 go_wp2_with fail
 refine (qm4 _ _ (HV.out.keepT (HB0.out.2.also X2.out))).mono ?_
 rintro e w3 ⟨rfl, o1⟩
 have X3 := hID (X2.out.also o1)
 clear o1 X2
 clear t0 t1 c0 c1 c2 c3 c4 c5 c6 c7
 obtain ⟨t0, t1, c0, c1, c2, c3, c4, c5, c6, c7⟩ := GC.out _ X3.out
 go_wp2_with fail
 refine (qhv _ _ (HV.out.keepT (HB0.out.2.also X3.out))).mono ?_
 rintro e w4 ⟨v1, rfl, hr, o1⟩
 have X4 := hID (X3.out.also o1)
 have HT := hID hr
 obtain ⟨AA, cc, rfl, _⟩ := hr.form
 clear hr
 clear o1 X3
 clear t0 t1 c0 c1 c2 c3 c4 c5 c6 c7
 obtain ⟨t0, t1, c0, c1, c2, c3, c4, c5, c6, c7⟩ := GC.out _ X4.out
 go_wp2_with fail
 refine Calls.mono (R := RetV _ (.int .i64 1)) (qib 1 (by decide) _ _ HT.out) ?_
 rintro e w5 ⟨rfl, o1⟩
 have X5 := hID (X4.out.also o1)
 clear HT
 clear o1 X4
 clear t0 t1 c0 c1 c2 c3 c4 c5 c6 c7
 obtain ⟨t0, t1, c0, c1, c2, c3, c4, c5, c6, c7⟩ := GC.out _ X5.out
 go_wp2_with fail
 go_ret2
 exact ⟨rfl, HB0.out.2.also X5.out⟩
theorem qq9 (w : World) (v va vb : Value) (hv : Rd w (fun _ => True) 2 v 2 [.int .i64 5, va, .int .i64 9, vb]) (ha : Rd w (fun _ => True) 8 va 1 el_a) (hb : Rd w (fun _ => True) 8 vb 1 el_b) : Calls Tryz.prog 68 #[v] w (RetV w (.tuple #[.int .i64 0, .int .i64 0, .int .i64 0])) := by
 have HV := hID hv
 have Ha := hID ha
 have Hb := hID hb
 obtain ⟨b, o, c, rfl, hc⟩ := hv.cellsT (by decide)
 have HC := hID hc
 clear hc hv ha hb
 go_enter Tryz.func68, Tryz.ntmps68
 have GC : Hid (∀ W, Off Nob w W → W.cell? ⟨b, o, none⟩ = some (.int .i64 5) ∧ W.cell? ⟨b, o + 1, none⟩ = some (va) ∧ W.cell? ⟨b, o + 2, none⟩ = some (.int .i64 9) ∧ W.cell? ⟨b, o + 3, none⟩ = some (vb)) := hID (fun W ho => ⟨HC.out W ho 0 _ rfl, HC.out W ho 1 _ rfl, HC.out W ho 2 _ rfl, HC.out W ho 3 _ rfl⟩)
 have X0 : Hid (Off Nob w w) := hID oRf
 obtain ⟨c0, c1, c2, c3⟩ := GC.out _ X0.out
 go_wp2_with fail
 refine (qq4 _ _ _ _ HV.out Ha.out Hb.out).mono ?_
 rintro e w1 ⟨rfl, o1⟩
 have X1 := hID (X0.out.also o1)
 clear o1 X0
 clear c0 c1 c2 c3
 obtain ⟨c0, c1, c2, c3⟩ := GC.out _ X1.out
 go_wp2_with fail
 refine wp_loop_rounds 3 ?_
 rw [rounds_succ]
 go_wp2_with fail
 refine (qq7 _ _ (Ha.out.keepT X1.out)).mono ?_
 rintro e w2 ⟨rfl, o1⟩
 have X2 := hID (X1.out.also o1)
 clear o1 X1
 clear c0 c1 c2 c3
 obtain ⟨c0, c1, c2, c3⟩ := GC.out _ X2.out
 go_wp2_with fail
 refine wp_loop_rounds 1 ?_
 rw [rounds_succ]
 go_wp2_with fail
 go_quiet (fail)
 have X3 := hID (X2.out.drewN nq)
 clear X2
 clear c0 c1 c2 c3
 generalize w2.drewN nq = w3 at *
 obtain ⟨c0, c1, c2, c3⟩ := GC.out _ X3.out
 go_wp2_with fail
 refine (qhu _ _ (Ha.out.keepT X3.out)).mono ?_
 rintro e w4 ⟨v1, rfl, hr, o1⟩
 have X4 := hID (X3.out.also o1)
 have HT := hID hr
 obtain ⟨AA, cc, rfl, _⟩ := hr.form
 clear hr
 clear o1 X3
 clear c0 c1 c2 c3
 obtain ⟨c0, c1, c2, c3⟩ := GC.out _ X4.out
 go_wp2_with fail
 refine Calls.mono (R := RetV _ (.int .i64 2)) (qib 2 (by decide) _ _ HT.out) ?_
 rintro e w5 ⟨rfl, o1⟩
 have X5 := hID (X4.out.also o1)
 clear HT
 clear o1 X4
 clear c0 c1 c2 c3
 obtain ⟨c0, c1, c2, c3⟩ := GC.out _ X5.out
 go_wp2_with fail
 rw [rounds_succ]
 go_wp2_with fail
 refine (qq8 _ _ (Hb.out.keepT X5.out)).mono ?_
 rintro e w6 ⟨rfl, o1⟩
 have X6 := hID (X5.out.also o1)
 clear o1 X5
 clear c0 c1 c2 c3
 obtain ⟨c0, c1, c2, c3⟩ := GC.out _ X6.out
 go_wp2_with fail
 refine wp_loop_rounds 2 ?_
 rw [rounds_succ]
 go_wp2_with fail
 go_quiet (fail)
 have X7 := hID (X6.out.drewN nq)
 clear X6
 clear c0 c1 c2 c3
 generalize w6.drewN nq = w7 at *
 obtain ⟨c0, c1, c2, c3⟩ := GC.out _ X7.out
 go_wp2_with fail
 rw [rounds_succ]
 go_wp2_with fail
 go_quiet (fail)
 have X8 := hID (X7.out.drewN nq)
 clear X7
 clear c0 c1 c2 c3
 generalize w7.drewN nq = w8 at *
 obtain ⟨c0, c1, c2, c3⟩ := GC.out _ X8.out
 go_wp2_with fail
 refine (qhv _ _ (Hb.out.keepT X8.out)).mono ?_
 rintro e w9 ⟨v1, rfl, hr, o1⟩
 have X9 := hID (X8.out.also o1)
 have HT := hID hr
 obtain ⟨AA, cc, rfl, _⟩ := hr.form
 clear hr
 clear o1 X8
 clear c0 c1 c2 c3
 obtain ⟨c0, c1, c2, c3⟩ := GC.out _ X9.out
 go_wp2_with fail
 refine Calls.mono (R := RetV _ (.int .i64 1)) (qib 1 (by decide) _ _ HT.out) ?_
 rintro e w10 ⟨rfl, o1⟩
 have X10 := hID (X9.out.also o1)
 clear HT
 clear o1 X9
 clear c0 c1 c2 c3
 obtain ⟨c0, c1, c2, c3⟩ := GC.out _ X10.out
 go_wp2_with fail
 rw [rounds_succ]
 go_wp2_with fail
 go_ret3
 exact ⟨rfl, X10.out⟩
end
section
open Go.RowKit
def pa_a : List Value := [.bool false, .int .u64 0, .int .u64 8589934592, .int .u64 0, .int .u64 0, .int .i64 0, .int .i64 0, .bool false, .int .u64 0, .int .u64 17179869184, .int .u64 0, .int .u64 0, .int .i64 0, .int .i64 0]
theorem qfs (w : World) (v : Value) (hv : Rd w (fun _ => True) 7 v 2 pa_a) : Calls Tryz.prog 102 #[v] w (RetV w (.tuple #[.int .i64 0, .int .i64 0])) := by
 obtain ⟨b, o, c, rfl, hc⟩ := hv.cellsT (by decide)
 have GC := hID (gcl2 hc)
 clear hc hv
 go_enter Tryz.func102, Tryz.ntmps102
 have X0 : Hid (Off Nob w w) := hID oRf
 obtain ⟨c0, c1, c2, c3, c4, c5, c6, c7, c8, c9, c10, c11, c12, c13⟩ := GC.out _ X0.out
 go_wp2_with fail
 refine wp_loop_rounds 3 ?_
 rw [rounds_succ]
 go_wp2_with fail
 have X1 := hID (X0.out.alloc (.cells #[.bool false, .int .u64 0, .int .u64 8589934592, .int .u64 0, .int .u64 0, .int .i64 0, .int .i64 0] 160))
 clear X0
 clear c0 c1 c2 c3 c4 c5 c6 c7 c8 c9 c10 c11 c12 c13
 generalize w.alloc (.cells #[.bool false, .int .u64 0, .int .u64 8589934592, .int .u64 0, .int .u64 0, .int .i64 0, .int .i64 0] 160) = w1 at *
 rw [rounds_succ]
 obtain ⟨c0, c1, c2, c3, c4, c5, c6, c7, c8, c9, c10, c11, c12, c13⟩ := GC.out _ X1.out
 go_wp2_with fail
 have X2 := hID (X1.out.alloc (.cells #[.bool false, .int .u64 0, .int .u64 17179869184, .int .u64 0, .int .u64 0, .int .i64 0, .int .i64 0] 160))
 clear X1
 clear c0 c1 c2 c3 c4 c5 c6 c7 c8 c9 c10 c11 c12 c13
 generalize w1.alloc (.cells #[.bool false, .int .u64 0, .int .u64 17179869184, .int .u64 0, .int .u64 0, .int .i64 0, .int .i64 0] 160) = w2 at *
 rw [rounds_succ]
 obtain ⟨c0, c1, c2, c3, c4, c5, c6, c7, c8, c9, c10, c11, c12, c13⟩ := GC.out _ X2.out
 go_wp2_with fail
 go_ret2
 exact ⟨rfl, X2.out⟩
def pa_b : List Value := [.bool false, .int .u64 0, .int .u64 25769803776, .int .u64 0, .int .u64 0, .int .i64 0, .int .i64 0]
theorem qft (w : World) (v : Value) (hv : Rd w (fun _ => True) 7 v 1 pa_b) : Calls Tryz.prog 102 #[v] w (RetV w (.tuple #[.int .i64 0, .int .i64 0])) := by
 obtain ⟨b, o, c, rfl, hc⟩ := hv.cellsT (by decide)
 have GC := hID (gcl3 hc)
 clear hc hv
 go_enter Tryz.func102, Tryz.ntmps102
 have X0 : Hid (Off Nob w w) := hID oRf
 obtain ⟨c0, c1, c2, c3, c4, c5, c6⟩ := GC.out _ X0.out
 go_wp2_with fail
 refine wp_loop_rounds 2 ?_
 rw [rounds_succ]
 go_wp2_with fail
 have X1 := hID (X0.out.alloc (.cells #[.bool false, .int .u64 0, .int .u64 25769803776, .int .u64 0, .int .u64 0, .int .i64 0, .int .i64 0] 160))
 clear X0
 clear c0 c1 c2 c3 c4 c5 c6
 generalize w.alloc (.cells #[.bool false, .int .u64 0, .int .u64 25769803776, .int .u64 0, .int .u64 0, .int .i64 0, .int .i64 0] 160) = w1 at *
 rw [rounds_succ]
 obtain ⟨c0, c1, c2, c3, c4, c5, c6⟩ := GC.out _ X1.out
 go_wp2_with fail
 go_ret2
 exact ⟨rfl, X1.out⟩
theorem Tryz.infoPa : (Tryz.prog.info? 160).map (fun i => (i.zero, i.size, i.bytes)) = some (some (.agg #[.bool false, .int .u64 0, .int .u64 0, .int .u64 0, .int .u64 0, .int .i64 0, .int .i64 0]), 7, 56) := by kernel_rfl
theorem qv1 (w : World) (v : Value) (hv : Rd w (fun _ => True) 8 v 1 el_a) : Calls Tryz.prog 69 #[.agg #[.int .i64 5, v]] w (fun e w' => ∃ u, e = .returned (.tuple #[u, .int .i64 0]) ∧ Rd w' (fun k => w.heap.size ≤ k) 7 u 2 pa_a ∧ Off Nob w w') := by
 obtain ⟨i0, hi, hz0, hz1, hz2⟩ := info_parts Tryz.infoPa
 have hx0 : (⟨#[97, 98]⟩ : ByteArray)[0]'(by decide) = 97 := rfl
 have hx1 : (⟨#[97, 98]⟩ : ByteArray)[1]'(by decide) = 98 := rfl
 obtain ⟨b, o, c, rfl, hc⟩ := hv.cellsT (by decide)
 have HC := hID hc
 clear hc hv
 go_enter Tryz.func69, Tryz.ntmps69
 go_wp2_with fail
 have HB0 : Hid (Blk (w.alloc (.cells #[.int .i64 5, .slice (some ⟨b, o, none⟩) 1 c] 124)) w.heap.size 124 #[.int .i64 5, .slice (some ⟨b, o, none⟩) 1 c] ∧ Off Nob w (w.alloc (.cells #[.int .i64 5, .slice (some ⟨b, o, none⟩) 1 c] 124))) := hID ⟨Blk.new _ _ _, oAl oRf _⟩
 revert HB0
 generalize (w.alloc (.cells #[.int .i64 5, .slice (some ⟨b, o, none⟩) 1 c] 124)) = w0
 intro HB0
 refine wp_loop_rounds 2 ?_
 rw [rounds_succ]
 have t0 := HB0.out.1.cell 0
 have t1 := HB0.out.1.cell 1
 simp only [qG] at t0 t1
 have c0 := HC.out _ HB0.out.2 0 _ rfl
 have c1 := HC.out _ HB0.out.2 1 _ rfl
 have c2 := HC.out _ HB0.out.2 2 _ rfl
 have c3 := HC.out _ HB0.out.2 3 _ rfl
 have c4 := HC.out _ HB0.out.2 4 _ rfl
 have c5 := HC.out _ HB0.out.2 5 _ rfl
 have c6 := HC.out _ HB0.out.2 6 _ rfl
 have c7 := HC.out _ HB0.out.2 7 _ rfl
 simp only [Nat.add_zero] at c0
 go_wp2_with fail
 have GC : Hid (∀ W, Off Nob (w0.alloc (.cells #[.int .i64 1, .string ⟨#[97, 98]⟩, .int .u64 0, .int .u64 0, .int .u64 0, .int .u64 0, .int .i64 0, .int .i64 0] 126)) W → W.cell? ⟨w.heap.size, 0, none⟩ = some (.int .i64 5) ∧ W.cell? ⟨w.heap.size, 1, none⟩ = some (.slice (some ⟨b, o, none⟩) 1 c) ∧ W.cell? ⟨w0.heap.size, 0, none⟩ = some (.int .i64 1) ∧ W.cell? ⟨w0.heap.size, 1, none⟩ = some (.string ⟨#[97, 98]⟩)) := hID (fun W ho => by
  have h := (HB0.out.1.alloc (.cells #[.int .i64 1, .string ⟨#[97, 98]⟩, .int .u64 0, .int .u64 0, .int .u64 0, .int .u64 0, .int .i64 0, .int .i64 0] 126)).to (ho.block _ (HB0.out.1.alloc _).lt (fun h => h))
  have k := Blk.to (Blk.new w0 126 #[.int .i64 1, .string ⟨#[97, 98]⟩, .int .u64 0, .int .u64 0, .int .u64 0, .int .u64 0, .int .i64 0, .int .i64 0]) (ho.block _ (Blk.new w0 126 #[.int .i64 1, .string ⟨#[97, 98]⟩, .int .u64 0, .int .u64 0, .int .u64 0, .int .u64 0, .int .i64 0, .int .i64 0]).lt (fun h => h))
  exact ⟨h.cell 0, h.cell 1, k.cell 0, k.cell 1⟩)
 have Y1 : Hid (Off Nob w (w0.alloc (.cells #[.int .i64 1, .string ⟨#[97, 98]⟩, .int .u64 0, .int .u64 0, .int .u64 0, .int .u64 0, .int .i64 0, .int .i64 0] 126))) := hID (HB0.out.2.alloc _)
 clear t0 t1 c0 c1 c2 c3 c4 c5 c6 c7
 revert GC Y1
 generalize (w0.alloc (.cells #[.int .i64 1, .string ⟨#[97, 98]⟩, .int .u64 0, .int .u64 0, .int .u64 0, .int .u64 0, .int .i64 0, .int .i64 0] 126)) = w1
 intro GC Y1
 have X1 : Hid (Off Nob w1 w1) := hID oRf
 refine wp_loop_rounds 3 ?_
 rw [rounds_succ]
 obtain ⟨t0, t1, x0, x1⟩ := GC.out _ X1.out
 go_wp2_with fail
 refine (qxf _ _ (Rd.newT w1 5 [.int .u8 97] 1 1 rfl (by decide))).mono ?_
 rintro e w2 ⟨rfl, o1⟩
 have X2 := hID ((X1.out.alloc (.cells #[.int .u8 97] 5)).also o1)
 have OW2 := hID (OwnL.nilAt (Y1.out.also X2.out) 160 7)
 clear o1 X1 t0 t1 x0 x1
 obtain ⟨t0, t1, x0, x1⟩ := GC.out _ (X2.out.alloc (.cells #[.int .u64 0, .int .u64 8589934592, .int .u64 0, .int .u64 0] 73))
 go_wp2_with (at_builtin; refine @wpList_append_lies _ _ _ _ _ _ _ rfl _ _ 54 rfl w.heap.size 160 i0 (.agg #[.bool false, .int .u64 0, .int .u64 0, .int .u64 0, .int .u64 0, .int .i64 0, .int .i64 0]) 7 56 Tryz.underlying54 hi hz0 hz1 hz2 rfl (by decide) (.slice none 0 0) 0 [] rfl ((OW2.out.off (oAl (Off.refl Nob w2) (.cells #[.int .u64 0, .int .u64 8589934592, .int .u64 0, .int .u64 0] 73))).1.alloc _) ⟨w2.heap.size + 1, 0, none⟩ 1 1 [.bool false, .int .u64 0, .int .u64 8589934592, .int .u64 0, .int .u64 0, .int .i64 0, .int .i64 0] rfl rfl ?c1 (by decide) (by decide) (by decide) (by decide) (by have := OW2.out.2.size; simp; omega) _ rfl ?_)
 case c1 =>
  intro j u hj
  have := qai (w2.alloc (.cells #[.int .u64 0, .int .u64 8589934592, .int .u64 0, .int .u64 0] 73)) [.bool false, .int .u64 0, .int .u64 8589934592, .int .u64 0, .int .u64 0, .int .i64 0, .int .i64 0] 160 j u hj
  simpa using this
 intro g1 cap1 w3 oW gW hat hlt
 have OW3 := hID ((OW2.out.off (oAl (Off.refl Nob w2) (.cells #[.int .u64 0, .int .u64 8589934592, .int .u64 0, .int .u64 0] 73))).grown (oAl oRf (.cells #[.bool false, .int .u64 0, .int .u64 8589934592, .int .u64 0, .int .u64 0, .int .i64 0, .int .i64 0] 160)) oW gW)
 have X3 : Hid (Off Nob w1 w3) := hID ((X2.out.alloc (.cells #[.int .u64 0, .int .u64 8589934592, .int .u64 0, .int .u64 0] 73)).alloc (.cells #[.bool false, .int .u64 0, .int .u64 8589934592, .int .u64 0, .int .u64 0, .int .i64 0, .int .i64 0] 160) |>.grown gW (fun k hk => by cases hk))
 have KG : Hid (w1.heap.size ≤ g1) := hID (by
  rcases hat with h | h
  ·cases h
  ·have := X2.out.size
   rw [h]; simp; omega)
 clear oW gW hat hlt X2 OW2 t0 t1 x0 x1
 obtain ⟨t0, t1, x0, x1⟩ := GC.out _ X3.out
 go_wp2_with fail
 rw [rounds_succ]
 go_wp2_with fail
 refine (qxg _ _ (Rd.newT w3 5 [.int .u8 98] 1 1 rfl (by decide))).mono ?_
 rintro e w4 ⟨rfl, o1⟩
 have X4 := hID ((X3.out.alloc (.cells #[.int .u8 98] 5)).also o1)
 have OW4 := hID ((OW3.out.off (oAl (Off.refl Nob w3) (.cells #[.int .u8 98] 5))).off o1)
 clear o1 X3 OW3 t0 t1 x0 x1
 obtain ⟨t0, t1, x0, x1⟩ := GC.out _ (X4.out.alloc (.cells #[.int .u64 0, .int .u64 17179869184, .int .u64 0, .int .u64 0] 73))
 go_wp2_with (at_builtin; refine @wpList_append_lies _ _ _ _ _ _ _ rfl _ _ 54 rfl w.heap.size 160 i0 (.agg #[.bool false, .int .u64 0, .int .u64 0, .int .u64 0, .int .u64 0, .int .i64 0, .int .i64 0]) 7 56 Tryz.underlying54 hi hz0 hz1 hz2 rfl (by decide) (.slice (some ⟨g1, 0, none⟩) (0 + 1) cap1) (0 + 1) ([] ++ [.bool false, .int .u64 0, .int .u64 8589934592, .int .u64 0, .int .u64 0, .int .i64 0, .int .i64 0]) rfl ((OW4.out.off (oAl (Off.refl Nob w4) (.cells #[.int .u64 0, .int .u64 17179869184, .int .u64 0, .int .u64 0] 73))).1.alloc _) ⟨w4.heap.size + 1, 0, none⟩ 1 1 [.bool false, .int .u64 0, .int .u64 17179869184, .int .u64 0, .int .u64 0, .int .i64 0, .int .i64 0] rfl rfl ?c1 (by decide) (by decide) (by decide) (by decide) (by have := OW4.out.2.size; simp; omega) _ rfl ?_)
 case c1 =>
  intro j u hj
  have := qai (w4.alloc (.cells #[.int .u64 0, .int .u64 17179869184, .int .u64 0, .int .u64 0] 73)) [.bool false, .int .u64 0, .int .u64 17179869184, .int .u64 0, .int .u64 0, .int .i64 0, .int .i64 0] 160 j u hj
  simpa using this
 intro g2 cap2 w5 oW gW hat hlt
 have OW5 := hID ((OW4.out.off (oAl (Off.refl Nob w4) (.cells #[.int .u64 0, .int .u64 17179869184, .int .u64 0, .int .u64 0] 73))).grown (oAl oRf (.cells #[.bool false, .int .u64 0, .int .u64 17179869184, .int .u64 0, .int .u64 0, .int .i64 0, .int .i64 0] 160)) oW gW)
 have X5 : Hid (Off Nob w1 w5) := hID ((X4.out.alloc (.cells #[.int .u64 0, .int .u64 17179869184, .int .u64 0, .int .u64 0] 73)).alloc (.cells #[.bool false, .int .u64 0, .int .u64 17179869184, .int .u64 0, .int .u64 0, .int .i64 0, .int .i64 0] 160) |>.grown gW (fun k hk => .inr (by injection hk with hk; rw [← hk]; exact KG.out)))
 clear oW gW hat hlt X4 OW4 t0 t1 x0 x1
 obtain ⟨t0, t1, x0, x1⟩ := GC.out _ X5.out
 go_wp2_with fail
 rw [rounds_succ]
 go_wp2_with fail
 rw [rounds_succ]
 go_wp2_with fail
 refine (qfs _ _ (show Rd w5 (fun _ => True) 7 _ 2 pa_a from OW5.out.rd)).mono ?_
 rintro e w6 ⟨rfl, o1⟩
 have OW6 := hID (OW5.out.off o1)
 clear o1
 go_wp2_with fail
 go_ret2
 exact ⟨_, rfl, Rd.own OW6.out.1 (fun k hk => (OW6.out.1.lt k hk).1), OW6.out.2⟩
theorem qv2 (w : World) (v : Value) (hv : Rd w (fun _ => True) 8 v 1 el_b) : Calls Tryz.prog 69 #[.agg #[.int .i64 9, v]] w (fun e w' => ∃ u, e = .returned (.tuple #[u, .int .i64 0]) ∧ Rd w' (fun k => w.heap.size ≤ k) 7 u 1 pa_b ∧ Off Nob w w') := by
 obtain ⟨i0, hi, hz0, hz1, hz2⟩ := info_parts Tryz.infoPa
 have hx0 : (⟨#[97, 98]⟩ : ByteArray)[0]'(by decide) = 97 := rfl
 have hx1 : (⟨#[97, 98]⟩ : ByteArray)[1]'(by decide) = 98 := rfl
 obtain ⟨b, o, c, rfl, hc⟩ := hv.cellsT (by decide)
 have HC := hID hc
 clear hc hv
 go_enter Tryz.func69, Tryz.ntmps69
 go_wp2_with fail
 have HB0 : Hid (Blk (w.alloc (.cells #[.int .i64 9, .slice (some ⟨b, o, none⟩) 1 c] 124)) w.heap.size 124 #[.int .i64 9, .slice (some ⟨b, o, none⟩) 1 c] ∧ Off Nob w (w.alloc (.cells #[.int .i64 9, .slice (some ⟨b, o, none⟩) 1 c] 124))) := hID ⟨Blk.new _ _ _, oAl oRf _⟩
 revert HB0
 generalize (w.alloc (.cells #[.int .i64 9, .slice (some ⟨b, o, none⟩) 1 c] 124)) = w0
 intro HB0
 refine wp_loop_rounds 2 ?_
 rw [rounds_succ]
 have t0 := HB0.out.1.cell 0
 have t1 := HB0.out.1.cell 1
 simp only [qG] at t0 t1
 have c0 := HC.out _ HB0.out.2 0 _ rfl
 have c1 := HC.out _ HB0.out.2 1 _ rfl
 have c2 := HC.out _ HB0.out.2 2 _ rfl
 have c3 := HC.out _ HB0.out.2 3 _ rfl
 have c4 := HC.out _ HB0.out.2 4 _ rfl
 have c5 := HC.out _ HB0.out.2 5 _ rfl
 have c6 := HC.out _ HB0.out.2 6 _ rfl
 have c7 := HC.out _ HB0.out.2 7 _ rfl
 simp only [Nat.add_zero] at c0
 go_wp2_with (at_builtin; refine @wpList_append_lies _ _ _ _ _ _ _ rfl _ _ 54 rfl w.heap.size 160 i0 (.agg #[.bool false, .int .u64 0, .int .u64 0, .int .u64 0, .int .u64 0, .int .i64 0, .int .i64 0]) 7 56 Tryz.underlying54 hi hz0 hz1 hz2 rfl (by decide) (.slice none 0 0) 0 [] rfl (((OwnL.nilAt HB0.out.2 160 7).off (oAl (Off.refl Nob w0) (.cells #[.int .i64 3, .string ⟨#[]⟩, .int .u64 0, .int .u64 25769803776, .int .u64 0, .int .u64 0, .int .i64 0, .int .i64 0] 126))).1.alloc _) ⟨w0.heap.size + 1, 0, none⟩ 1 1 [.bool false, .int .u64 0, .int .u64 25769803776, .int .u64 0, .int .u64 0, .int .i64 0, .int .i64 0] rfl rfl ?c1 (by decide) (by decide) (by decide) (by decide) (by have := (OwnL.nilAt HB0.out.2 160 7).2.size; simp; omega) _ rfl ?_)
 case c1 =>
  intro j u hj
  have := qai (w0.alloc (.cells #[.int .i64 3, .string ⟨#[]⟩, .int .u64 0, .int .u64 25769803776, .int .u64 0, .int .u64 0, .int .i64 0, .int .i64 0] 126)) [.bool false, .int .u64 0, .int .u64 25769803776, .int .u64 0, .int .u64 0, .int .i64 0, .int .i64 0] 160 j u hj
  simpa using this
 intro g1 cap1 w3 oW gW hat hlt
 have OW3 := hID (((OwnL.nilAt HB0.out.2 160 7).off (oAl (Off.refl Nob w0) (.cells #[.int .i64 3, .string ⟨#[]⟩, .int .u64 0, .int .u64 25769803776, .int .u64 0, .int .u64 0, .int .i64 0, .int .i64 0] 126))).grown (oAl oRf (.cells #[.bool false, .int .u64 0, .int .u64 25769803776, .int .u64 0, .int .u64 0, .int .i64 0, .int .i64 0] 160)) oW gW)
 have X3 : Hid (Off Nob w0 w3) := hID (Off.grown (oAl (oAl oRf _) _) gW (fun k hk => by cases hk))
 have HB3 := hID (HB0.out.1.to (X3.out.block _ HB0.out.1.lt (fun h => h)))
 clear oW gW hat hlt t0 t1 c0 c1 c2 c3 c4 c5 c6 c7
 have t0 := HB3.out.cell 0
 have t1 := HB3.out.cell 1
 simp only [qG] at t0 t1
 go_wp2_with fail
 rw [rounds_succ]
 go_wp2_with fail
 refine (qft _ _ (show Rd w3 (fun _ => True) 7 _ 1 pa_b from OW3.out.rd)).mono ?_
 rintro e w6 ⟨rfl, o1⟩
 have OW6 := hID (OW3.out.off o1)
 clear o1
 go_wp2_with fail
 go_ret2
 exact ⟨_, rfl, Rd.own OW6.out.1 (fun k hk => (OW6.out.1.lt k hk).1), OW6.out.2⟩
end
section
open Go.RowKit
theorem Tryz.infoIs : (Tryz.prog.info? 22).map (fun i => (i.zero, i.size, i.bytes)) = some (some (.slice none 0 0), 1, 24) := by kernel_rfl
theorem Tryz.infoCl4 : (Tryz.prog.info? 73).map (fun i => (i.zero, i.size, i.bytes)) = some (some (.agg #[.int .u64 0, .int .u64 0, .int .u64 0, .int .u64 0]), 4, 32) := by kernel_rfl
theorem Tryz.infoLn : (Tryz.prog.info? 65).map (fun i => (i.zero, i.size, i.bytes)) = some (some (.slice none 0 0), 1, 24) := by kernel_rfl
def se_a : List Value := [.int .u64 0, .int .u64 8589934592, .int .u64 0, .int .u64 0, .int .u64 0, .int .u64 17179869184, .int .u64 0, .int .u64 0]
def se_b : List Value := [.int .u64 0, .int .u64 25769803776, .int .u64 0, .int .u64 0]
theorem qpj (w : World) (A : Option Addr) (c : Nat) : Calls Tryz.prog 115 #[.slice A 0 c] w (RetV w (.int .i64 0)) := by
 go_enter Tryz.func115, Tryz.ntmps115
 go_wp2_with fail
 refine wp_loop_rounds 1 ?_
 rw [rounds_succ]
 go_wp2_with fail
 go_ret
 exact ⟨rfl, Off.refl _ _⟩
theorem qfh (w : World) (v : Value) (hv : Rd w (fun _ => True) 7 v 2 pa_a) : Calls Tryz.prog 113 #[v] w (RetV w (.slice none 0 0)) := by
 have HV0 := hID hv
 obtain ⟨b, o, c, rfl, hc⟩ := hv.cellsT (by decide)
 have HV := HV0
 have GC := hID (gcl2 hc)
 clear hc hv HV0
 go_enter Tryz.func113, Tryz.ntmps113
 have X0 : Hid (Off Nob w w) := hID oRf
 obtain ⟨c0, c1, c2, c3, c4, c5, c6, c7, c8, c9, c10, c11, c12, c13⟩ := GC.out _ X0.out
 go_wp2_with fail
 refine wp_loop_rounds 3 ?_
 rw [rounds_succ]
 go_wp2_with fail
 rw [rounds_succ]
 go_wp2_with fail
 rw [rounds_succ]
 go_wp2_with fail
 go_ret
 exact ⟨rfl, X0.out⟩
theorem qm5 (w : World) (v : Value) (hv : Rd w (fun _ => True) 7 v 2 pa_a) : Calls Tryz.prog 112 #[v] w (RetV w (.tuple #[.int .i64 1, .int .i64 0])) := by
 have HV0 := hID hv
 obtain ⟨b, o, c, rfl, hc⟩ := hv.cellsT (by decide)
 have HV := HV0
 have GC := hID (gcl2 hc)
 clear hc hv HV0
 go_enter Tryz.func112, Tryz.ntmps112
 have X0 : Hid (Off Nob w w) := hID oRf
 obtain ⟨c0, c1, c2, c3, c4, c5, c6, c7, c8, c9, c10, c11, c12, c13⟩ := GC.out _ X0.out
 go_wp2_with fail
 refine (qfs _ _ HV.out).mono ?_
 rintro e w1 ⟨rfl, o1⟩
 have X1 := hID (X0.out.also o1)
 clear o1 X0
 clear c0 c1 c2 c3 c4 c5 c6 c7 c8 c9 c10 c11 c12 c13
 obtain ⟨c0, c1, c2, c3, c4, c5, c6, c7, c8, c9, c10, c11, c12, c13⟩ := GC.out _ X1.out
 go_wp2_with fail
 refine (qfh _ _ (HV.out.keepT X1.out)).mono ?_
 rintro e w2 ⟨rfl, o1⟩
 have X2 := hID (X1.out.also o1)
 clear o1 X1
 clear c0 c1 c2 c3 c4 c5 c6 c7 c8 c9 c10 c11 c12 c13
 obtain ⟨c0, c1, c2, c3, c4, c5, c6, c7, c8, c9, c10, c11, c12, c13⟩ := GC.out _ X2.out
 go_wp2_with fail
 refine wp_loop_rounds 1 ?_
 rw [rounds_succ]
 go_wp2_with fail
 go_ret2
 exact ⟨rfl, X2.out⟩
theorem qf2 (w : World) (v : Value) (hv : Rd w (fun _ => True) 7 v 2 pa_a) : Calls Tryz.prog 114 #[v] w (fun e w' => ∃ u A c, e = .returned u ∧ Rd w' (fun _ => True) 1 u 1 [.slice A 0 c] ∧ Off Nob w w') := by
 have HV0 := hID hv
 obtain ⟨b, o, c, rfl, hc⟩ := hv.cellsT (by decide)
 have HV := HV0
 have GC := hID (gcl2 hc)
 clear hc hv HV0
 obtain ⟨i_ints, h_ints, z_ints, s_ints, b_ints⟩ := info_parts Tryz.infoIs
 go_enter Tryz.func114, Tryz.ntmps114
 have X0 : Hid (Off Nob w w) := hID oRf
 obtain ⟨c0, c1, c2, c3, c4, c5, c6, c7, c8, c9, c10, c11, c12, c13⟩ := GC.out _ X0.out
 go_wp2_with fail
 have X1 : Hid (Off Nob w ((w.alloc (.cells #[] 3)).alloc (.cells #[.slice (some ⟨w.heap.size, 0, none⟩) 0 0] 22))) := hID (oAl (oAl oRf _) _)
 have B1 : Hid (Blk ((w.alloc (.cells #[] 3)).alloc (.cells #[.slice (some ⟨w.heap.size, 0, none⟩) 0 0] 22)) (w.heap.size + 1) 22 #[.slice (some ⟨w.heap.size, 0, none⟩) 0 0]) := hID (qal _ _ _ _)
 clear X0
 revert X1 B1
 generalize ((w.alloc (.cells #[] 3)).alloc (.cells #[.slice (some ⟨w.heap.size, 0, none⟩) 0 0] 22)) = w1
 intro X1 B1
 have GA : Hid (∀ W, Off Nob w1 W → W.cell? ⟨w.heap.size + 1, 0, none⟩ = some (.slice (some ⟨w.heap.size, 0, none⟩) 0 0)) := hID (fun W ho => (B1.out.to (ho.block _ B1.out.lt (fun h => h))).cell 0)
 have Y1 : Hid (Off Nob w1 w1) := hID oRf
 clear c0 c1 c2 c3 c4 c5 c6 c7 c8 c9 c10 c11 c12 c13
 obtain ⟨c0, c1, c2, c3, c4, c5, c6, c7, c8, c9, c10, c11, c12, c13⟩ := GC.out _ X1.out
 go_wp2_with fail
 refine (qfh _ _ (HV.out.keepT X1.out)).mono ?_
 rintro e w2 ⟨rfl, o1⟩
 have X2 := hID (X1.out.also o1)
 have Y2 := hID (Y1.out.also o1)
 clear Y1
 clear o1 X1
 clear c0 c1 c2 c3 c4 c5 c6 c7 c8 c9 c10 c11 c12 c13
 have d0 := GA.out _ Y2.out
 go_wp2_with fail
 refine wp_loop_rounds 1 ?_
 rw [rounds_succ]
 go_wp2_with fail
 refine wp_loop_rounds 2 ?_
 rw [rounds_succ]
 go_wp2_with fail
 refine wp_loop_rounds 2 ?_
 rw [rounds_succ]
 go_wp2_with fail
 go_quiet (fail)
 have X3 := hID (X2.out.drewN nq)
 have Y3 := hID (Y2.out.drewN nq)
 clear X2 Y2 d0
 generalize w2.drewN nq = w3 at *
 have d0 := GA.out _ Y3.out
 go_wp2_with fail
 go_quiet (fail)
 have X4 := hID (X3.out.drewN nq)
 have Y4 := hID (Y3.out.drewN nq)
 clear X3 Y3 d0
 generalize w3.drewN nq = w4 at *
 have d0 := GA.out _ Y4.out
 go_wp2_with fail
 rw [rounds_succ]
 go_wp2_with (at_builtin; refine @wpList_append_lies _ _ _ _ _ _ _ rfl _ _ 148 rfl w.heap.size 22 i_ints (.slice none 0 0) 1 24 Tryz.underlying148 h_ints z_ints s_ints b_ints rfl (by decide) (.slice none 0 0) (0) ([]) rfl ((OwnL.nilAt X4.out 22 1).1.alloc _) ⟨w4.heap.size, 0, none⟩ 1 1 [.slice (some ⟨w.heap.size, 0, none⟩) 0 0] rfl rfl ?c1 (by intro u hu; simp at hu; subst hu; rfl) (by decide) (by decide) (by decide) (by have := (OwnL.nilAt X4.out 22 1).2.size; simp; omega) _ rfl ?_)
 case c1 => exact qai _ [.slice (some ⟨w.heap.size, 0, none⟩) 0 0] _
 intro g5 cap5 w5 oW gW hat hlt
 have OW5 := hID ((OwnL.nilAt X4.out 22 1).grown (oAl (Off.refl Nob w4) (.cells #[.slice (some ⟨w.heap.size, 0, none⟩) 0 0] 22)) oW gW)
 have X5 := hID OW5.out.2
 clear oW gW hat hlt X4
 clear d0 Y4
 go_wp2_with fail
 rw [rounds_succ]
 go_wp2_with fail
 go_ret
 exact ⟨_, _, _, rfl, OW5.out.rd, OW5.out.2⟩
theorem qf3 (w : World) (v : Value) (hv : Rd w (fun _ => True) 7 v 2 pa_a) : Calls Tryz.prog 88 #[v] w (RetV w (.tuple #[.int .i64 2, .int .i64 0])) := by
 have HV0 := hID hv
 obtain ⟨b, o, c, rfl, hc⟩ := hv.cellsT (by decide)
 have HV := HV0
 have GC := hID (gcl2 hc)
 clear hc hv HV0
 go_enter Tryz.func88, Tryz.ntmps88
 have X0 : Hid (Off Nob w w) := hID oRf
 obtain ⟨c0, c1, c2, c3, c4, c5, c6, c7, c8, c9, c10, c11, c12, c13⟩ := GC.out _ X0.out
 go_wp2_with fail
 refine (qm5 _ _ HV.out).mono ?_
 rintro e w1 ⟨rfl, o1⟩
 have X1 := hID (X0.out.also o1)
 clear o1 X0
 clear c0 c1 c2 c3 c4 c5 c6 c7 c8 c9 c10 c11 c12 c13
 obtain ⟨c0, c1, c2, c3, c4, c5, c6, c7, c8, c9, c10, c11, c12, c13⟩ := GC.out _ X1.out
 go_wp2_with fail
 refine (qfh _ _ (HV.out.keepT X1.out)).mono ?_
 rintro e w2 ⟨rfl, o1⟩
 have X2 := hID (X1.out.also o1)
 clear o1 X1
 clear c0 c1 c2 c3 c4 c5 c6 c7 c8 c9 c10 c11 c12 c13
 obtain ⟨c0, c1, c2, c3, c4, c5, c6, c7, c8, c9, c10, c11, c12, c13⟩ := GC.out _ X2.out
 go_wp2_with fail
 refine (qf2 _ _ (HV.out.keepT X2.out)).mono ?_
 rintro e w3 ⟨u1, A1, k1, rfl, hr, o1⟩
 have X3 := hID (X2.out.also o1)
 obtain ⟨hr, o1⟩ := id (And.intro hr o1)
 obtain ⟨b1, p1, cc, rfl, hd⟩ := hr.cellsT (by decide)
 have HD := hID hd
 clear hr hd
 clear o1 X2
 clear c0 c1 c2 c3 c4 c5 c6 c7 c8 c9 c10 c11 c12 c13
 have d0 := HD.out _ oRf 0 _ rfl
 simp only [Nat.add_zero] at d0
 obtain ⟨c0, c1, c2, c3, c4, c5, c6, c7, c8, c9, c10, c11, c12, c13⟩ := GC.out _ X3.out
 go_wp2_with fail
 refine wp_loop_rounds 2 ?_
 rw [rounds_succ]
 go_wp2_with fail
 refine (qpj _ _ _).mono ?_
 rintro e w4 ⟨rfl, o1⟩
 have X4 := hID (X3.out.also o1)
 clear o1 X3
 clear c0 c1 c2 c3 c4 c5 c6 c7 c8 c9 c10 c11 c12 c13
 clear d0
 obtain ⟨c0, c1, c2, c3, c4, c5, c6, c7, c8, c9, c10, c11, c12, c13⟩ := GC.out _ X4.out
 go_wp2_with fail
 rw [rounds_succ]
 go_wp2_with fail
 go_ret2
 exact ⟨rfl, X4.out⟩
theorem qm6 (w : World) (v : Value) (hv : Rd w (fun _ => True) 7 v 2 pa_a) : Calls Tryz.prog 89 #[v] w (fun e w' => ∃ u A c, e = .returned (.tuple #[u, .int .i64 0]) ∧ Rd w' (fun _ => True) 1 u 1 [.slice A 0 c] ∧ Off Nob w w') := by
 have HV0 := hID hv
 obtain ⟨b, o, c, rfl, hc⟩ := hv.cellsT (by decide)
 have HV := HV0
 have GC := hID (gcl2 hc)
 clear hc hv HV0
 go_enter Tryz.func89, Tryz.ntmps89
 have X0 : Hid (Off Nob w w) := hID oRf
 obtain ⟨c0, c1, c2, c3, c4, c5, c6, c7, c8, c9, c10, c11, c12, c13⟩ := GC.out _ X0.out
 go_wp2_with fail
 refine (qf3 _ _ HV.out).mono ?_
 rintro e w1 ⟨rfl, o1⟩
 have X1 := hID (X0.out.also o1)
 clear o1 X0
 clear c0 c1 c2 c3 c4 c5 c6 c7 c8 c9 c10 c11 c12 c13
 obtain ⟨c0, c1, c2, c3, c4, c5, c6, c7, c8, c9, c10, c11, c12, c13⟩ := GC.out _ X1.out
 go_wp2_with fail
 refine (qf2 _ _ (HV.out.keepT X1.out)).mono ?_
 rintro e w2 ⟨u1, A1, k1, rfl, hr, o1⟩
 have X2 := hID (X1.out.also o1)
 obtain ⟨hr, o1⟩ := id (And.intro hr o1)
 have HD := hID hr
 clear hr
 clear o1 X1
 clear c0 c1 c2 c3 c4 c5 c6 c7 c8 c9 c10 c11 c12 c13
 obtain ⟨c0, c1, c2, c3, c4, c5, c6, c7, c8, c9, c10, c11, c12, c13⟩ := GC.out _ X2.out
 go_wp2_with fail
 go_ret2
 exact ⟨_, _, _, rfl, HD.out, X2.out⟩
theorem qtp (w : World) (v : Value) (hv : Rd w (fun _ => True) 7 v 2 pa_a) (AA : Option Addr) (ac : Nat) : Calls Tryz.prog 90 #[v, .slice AA 0 ac] w (fun e w' => ∃ u, e = .returned (.tuple #[u, .int .i64 0]) ∧ Rd w' (fun k => w.heap.size ≤ k) 4 u 2 se_a ∧ Off Nob w w') := by
 have HV0 := hID hv
 obtain ⟨b, o, c, rfl, hc⟩ := hv.cellsT (by decide)
 have HV := HV0
 have GC := hID (gcl2 hc)
 clear hc hv HV0
 obtain ⟨i_cl, h_cl, z_cl, s_cl, b_cl⟩ := info_parts Tryz.infoCl4
 go_enter Tryz.func90, Tryz.ntmps90
 have X0 : Hid (Off Nob w w) := hID oRf
 obtain ⟨c0, c1, c2, c3, c4, c5, c6, c7, c8, c9, c10, c11, c12, c13⟩ := GC.out _ X0.out
 go_wp2_with fail
 refine (qfs _ _ HV.out).mono ?_
 rintro e w1 ⟨rfl, o1⟩
 have X1 := hID (X0.out.also o1)
 clear o1 X0
 clear c0 c1 c2 c3 c4 c5 c6 c7 c8 c9 c10 c11 c12 c13
 obtain ⟨c0, c1, c2, c3, c4, c5, c6, c7, c8, c9, c10, c11, c12, c13⟩ := GC.out _ X1.out
 go_wp2_with fail
 refine (qfh _ _ (HV.out.keepT X1.out)).mono ?_
 rintro e w2 ⟨rfl, o1⟩
 have X2 := hID (X1.out.also o1)
 clear o1 X1
 clear c0 c1 c2 c3 c4 c5 c6 c7 c8 c9 c10 c11 c12 c13
 obtain ⟨c0, c1, c2, c3, c4, c5, c6, c7, c8, c9, c10, c11, c12, c13⟩ := GC.out _ X2.out
 go_wp2_with fail
 refine wp_loop_rounds 1 ?_
 rw [rounds_succ]
 go_wp2_with fail
 refine wp_loop_rounds 3 ?_
 rw [rounds_succ]
 go_wp2_with (at_builtin; refine @wpList_append_lies _ _ _ _ _ _ _ rfl _ _ 65 rfl w.heap.size 73 i_cl (.agg #[.int .u64 0, .int .u64 0, .int .u64 0, .int .u64 0]) 4 32 Tryz.underlying65 h_cl z_cl s_cl b_cl rfl (by decide) (.slice none 0 0) (0) ([]) rfl ((OwnL.nilAt X2.out 73 4).1.alloc _) ⟨w2.heap.size, 0, none⟩ 1 1 [.int .u64 0, .int .u64 8589934592, .int .u64 0, .int .u64 0] rfl rfl ?c1 (by decide) (by decide) (by decide) (by decide) (by have := (OwnL.nilAt X2.out 73 4).2.size; simp; omega) _ rfl ?_)
 case c1 => exact qai _ [.int .u64 0, .int .u64 8589934592, .int .u64 0, .int .u64 0] _
 intro g3 cap3 w3 oW gW hat hlt
 have OW3 := hID ((OwnL.nilAt X2.out 73 4).grown (oAl (Off.refl Nob w2) (.cells #[.int .u64 0, .int .u64 8589934592, .int .u64 0, .int .u64 0] 73)) oW gW)
 have X3 := hID OW3.out.2
 clear oW gW hat hlt X2
 clear c0 c1 c2 c3 c4 c5 c6 c7 c8 c9 c10 c11 c12 c13
 obtain ⟨c0, c1, c2, c3, c4, c5, c6, c7, c8, c9, c10, c11, c12, c13⟩ := GC.out _ X3.out
 go_wp2_with fail
 rw [rounds_succ]
 go_wp2_with (at_builtin; refine @wpList_append_lies _ _ _ _ _ _ _ rfl _ _ 65 rfl w.heap.size 73 i_cl (.agg #[.int .u64 0, .int .u64 0, .int .u64 0, .int .u64 0]) 4 32 Tryz.underlying65 h_cl z_cl s_cl b_cl rfl (by decide) (.slice (some ⟨g3, 0, none⟩) (0 + 1) cap3) (0 + 1) ([] ++ [.int .u64 0, .int .u64 8589934592, .int .u64 0, .int .u64 0]) rfl (OW3.out.1.alloc _) ⟨w3.heap.size, 0, none⟩ 1 1 [.int .u64 0, .int .u64 17179869184, .int .u64 0, .int .u64 0] rfl rfl ?c1 (by decide) (by decide) (by decide) (by decide) (by have := OW3.out.2.size; simp; omega) _ rfl ?_)
 case c1 => exact qai _ [.int .u64 0, .int .u64 17179869184, .int .u64 0, .int .u64 0] _
 intro g4 cap4 w4 oW gW hat hlt
 have OW4 := hID (OW3.out.grown (oAl (Off.refl Nob w3) (.cells #[.int .u64 0, .int .u64 17179869184, .int .u64 0, .int .u64 0] 73)) oW gW)
 have X4 := hID OW4.out.2
 clear oW gW hat hlt X3 OW3
 clear c0 c1 c2 c3 c4 c5 c6 c7 c8 c9 c10 c11 c12 c13
 obtain ⟨c0, c1, c2, c3, c4, c5, c6, c7, c8, c9, c10, c11, c12, c13⟩ := GC.out _ X4.out
 go_wp2_with fail
 rw [rounds_succ]
 go_wp2_with fail
 go_ret2
 exact ⟨_, rfl, Rd.own OW4.out.1 (fun k hk => (OW4.out.1.lt k hk).1), OW4.out.2⟩
theorem qra (w : World) (v : Value) (hv : Rd w (fun _ => True) 7 v 2 pa_a) : Calls Tryz.prog 56 #[v] w (fun e w' => ∃ u v, e = .returned (.tuple #[u, .int .i64 0]) ∧ Rd w' (fun k => w.heap.size ≤ k) 1 u 1 [v] ∧ (∃ A c, v = .slice A 2 c) ∧ Rd w' (fun k => w.heap.size ≤ k) 4 v 2 se_a ∧ Off Nob w w') := by
 have HV0 := hID hv
 obtain ⟨b, o, c, rfl, hc⟩ := hv.cellsT (by decide)
 have HV := HV0
 have GC := hID (gcl2 hc)
 clear hc hv HV0
 obtain ⟨i_line, h_line, z_line, s_line, b_line⟩ := info_parts Tryz.infoLn
 go_enter Tryz.func56, Tryz.ntmps56
 have X0 : Hid (Off Nob w w) := hID oRf
 obtain ⟨c0, c1, c2, c3, c4, c5, c6, c7, c8, c9, c10, c11, c12, c13⟩ := GC.out _ X0.out
 go_wp2_with fail
 refine (qm6 _ _ HV.out).mono ?_
 rintro e w1 ⟨u1, A1, k1, rfl, hr, o1⟩
 have X1 := hID (X0.out.also o1)
 obtain ⟨hr, o1⟩ := id (And.intro hr o1)
 obtain ⟨b1, p1, cc, rfl, hd⟩ := hr.cellsT (by decide)
 have HD := hID hd
 clear hr hd
 clear o1 X0
 clear c0 c1 c2 c3 c4 c5 c6 c7 c8 c9 c10 c11 c12 c13
 have d0 := HD.out _ oRf 0 _ rfl
 simp only [Nat.add_zero] at d0
 obtain ⟨c0, c1, c2, c3, c4, c5, c6, c7, c8, c9, c10, c11, c12, c13⟩ := GC.out _ X1.out
 go_wp2_with fail
 refine wp_loop_rounds 2 ?_
 rw [rounds_succ]
 go_wp2_with fail
 refine (qtp _ _ (HV.out.keepT X1.out) _ _).mono ?_
 rintro e w2 ⟨u2, rfl, hr, o1⟩
 have X2 := hID (X1.out.also o1)
 obtain ⟨hr, o1⟩ := id (And.intro hr o1)
 obtain ⟨A2, k2, rfl, _⟩ := hr.form
 have HS := hID (Rd.mono hr (G := fun k => w.heap.size ≤ k) (fun k hk => Nat.le_trans X1.out.size hk))
 clear hr d0
 clear o1 X1
 clear c0 c1 c2 c3 c4 c5 c6 c7 c8 c9 c10 c11 c12 c13
 obtain ⟨c0, c1, c2, c3, c4, c5, c6, c7, c8, c9, c10, c11, c12, c13⟩ := GC.out _ X2.out
 go_wp2_with (at_builtin; refine @wpList_append_lies _ _ _ _ _ _ _ rfl _ _ 100 rfl w.heap.size 65 i_line (.slice none 0 0) 1 24 Tryz.underlying100 h_line z_line s_line b_line rfl (by decide) (.slice none 0 0) (0) ([]) rfl ((OwnL.nilAt X2.out 65 1).1.alloc _) ⟨w2.heap.size, 0, none⟩ 1 1 [.slice A2 2 k2] rfl rfl ?c1 (by intro u hu; simp at hu; subst hu; rfl) (by decide) (by decide) (by decide) (by have := (OwnL.nilAt X2.out 65 1).2.size; simp; omega) _ rfl ?_)
 case c1 => exact qai _ [.slice A2 2 k2] _
 intro g3 cap3 w3 oW gW hat hlt
 have HS' := hID (HS.out.keep (Off.grown (oAl (Off.refl Nob w2) _) gW (fun k hk => by cases hk)) (fun _ _ h => h))
 have OW3 := hID ((OwnL.nilAt X2.out 65 1).grown (oAl (Off.refl Nob w2) (.cells #[.slice A2 2 k2] 65)) oW gW)
 have X3 := hID OW3.out.2
 clear oW gW hat hlt X2
 clear c0 c1 c2 c3 c4 c5 c6 c7 c8 c9 c10 c11 c12 c13
 obtain ⟨c0, c1, c2, c3, c4, c5, c6, c7, c8, c9, c10, c11, c12, c13⟩ := GC.out _ X3.out
 go_wp2_with fail
 rw [rounds_succ]
 go_wp2_with fail
 go_ret2
 exact ⟨_, _, rfl, Rd.own OW3.out.1 (fun k hk => (OW3.out.1.lt k hk).1), ⟨_, _, rfl⟩, HS'.out, OW3.out.2⟩
theorem qfi (w : World) (v : Value) (hv : Rd w (fun _ => True) 7 v 1 pa_b) : Calls Tryz.prog 113 #[v] w (RetV w (.slice none 0 0)) := by
 have HV0 := hID hv
 obtain ⟨b, o, c, rfl, hc⟩ := hv.cellsT (by decide)
 have HV := HV0
 have GC := hID (gcl3 hc)
 clear hc hv HV0
 go_enter Tryz.func113, Tryz.ntmps113
 have X0 : Hid (Off Nob w w) := hID oRf
 obtain ⟨c0, c1, c2, c3, c4, c5, c6⟩ := GC.out _ X0.out
 go_wp2_with fail
 refine wp_loop_rounds 2 ?_
 rw [rounds_succ]
 go_wp2_with fail
 rw [rounds_succ]
 go_wp2_with fail
 go_ret
 exact ⟨rfl, X0.out⟩
theorem qm7 (w : World) (v : Value) (hv : Rd w (fun _ => True) 7 v 1 pa_b) : Calls Tryz.prog 112 #[v] w (RetV w (.tuple #[.int .i64 1, .int .i64 0])) := by
 have HV0 := hID hv
 obtain ⟨b, o, c, rfl, hc⟩ := hv.cellsT (by decide)
 have HV := HV0
 have GC := hID (gcl3 hc)
 clear hc hv HV0
 go_enter Tryz.func112, Tryz.ntmps112
 have X0 : Hid (Off Nob w w) := hID oRf
 obtain ⟨c0, c1, c2, c3, c4, c5, c6⟩ := GC.out _ X0.out
 go_wp2_with fail
 refine (qft _ _ HV.out).mono ?_
 rintro e w1 ⟨rfl, o1⟩
 have X1 := hID (X0.out.also o1)
 clear o1 X0
 clear c0 c1 c2 c3 c4 c5 c6
 obtain ⟨c0, c1, c2, c3, c4, c5, c6⟩ := GC.out _ X1.out
 go_wp2_with fail
 refine (qfi _ _ (HV.out.keepT X1.out)).mono ?_
 rintro e w2 ⟨rfl, o1⟩
 have X2 := hID (X1.out.also o1)
 clear o1 X1
 clear c0 c1 c2 c3 c4 c5 c6
 obtain ⟨c0, c1, c2, c3, c4, c5, c6⟩ := GC.out _ X2.out
 go_wp2_with fail
 refine wp_loop_rounds 1 ?_
 rw [rounds_succ]
 go_wp2_with fail
 go_ret2
 exact ⟨rfl, X2.out⟩
theorem qf4 (w : World) (v : Value) (hv : Rd w (fun _ => True) 7 v 1 pa_b) : Calls Tryz.prog 114 #[v] w (fun e w' => ∃ u A c, e = .returned u ∧ Rd w' (fun _ => True) 1 u 1 [.slice A 0 c] ∧ Off Nob w w') := by
 have HV0 := hID hv
 obtain ⟨b, o, c, rfl, hc⟩ := hv.cellsT (by decide)
 have HV := HV0
 have GC := hID (gcl3 hc)
 clear hc hv HV0
 obtain ⟨i_ints, h_ints, z_ints, s_ints, b_ints⟩ := info_parts Tryz.infoIs
 go_enter Tryz.func114, Tryz.ntmps114
 have X0 : Hid (Off Nob w w) := hID oRf
 obtain ⟨c0, c1, c2, c3, c4, c5, c6⟩ := GC.out _ X0.out
 go_wp2_with fail
 have X1 : Hid (Off Nob w ((w.alloc (.cells #[] 3)).alloc (.cells #[.slice (some ⟨w.heap.size, 0, none⟩) 0 0] 22))) := hID (oAl (oAl oRf _) _)
 have B1 : Hid (Blk ((w.alloc (.cells #[] 3)).alloc (.cells #[.slice (some ⟨w.heap.size, 0, none⟩) 0 0] 22)) (w.heap.size + 1) 22 #[.slice (some ⟨w.heap.size, 0, none⟩) 0 0]) := hID (qal _ _ _ _)
 clear X0
 revert X1 B1
 generalize ((w.alloc (.cells #[] 3)).alloc (.cells #[.slice (some ⟨w.heap.size, 0, none⟩) 0 0] 22)) = w1
 intro X1 B1
 have GA : Hid (∀ W, Off Nob w1 W → W.cell? ⟨w.heap.size + 1, 0, none⟩ = some (.slice (some ⟨w.heap.size, 0, none⟩) 0 0)) := hID (fun W ho => (B1.out.to (ho.block _ B1.out.lt (fun h => h))).cell 0)
 have Y1 : Hid (Off Nob w1 w1) := hID oRf
 clear c0 c1 c2 c3 c4 c5 c6
 obtain ⟨c0, c1, c2, c3, c4, c5, c6⟩ := GC.out _ X1.out
 go_wp2_with fail
 refine (qfi _ _ (HV.out.keepT X1.out)).mono ?_
 rintro e w2 ⟨rfl, o1⟩
 have X2 := hID (X1.out.also o1)
 have Y2 := hID (Y1.out.also o1)
 clear Y1
 clear o1 X1
 clear c0 c1 c2 c3 c4 c5 c6
 have d0 := GA.out _ Y2.out
 go_wp2_with fail
 refine wp_loop_rounds 1 ?_
 rw [rounds_succ]
 go_wp2_with fail
 refine wp_loop_rounds 2 ?_
 rw [rounds_succ]
 go_wp2_with fail
 refine wp_loop_rounds 2 ?_
 rw [rounds_succ]
 go_wp2_with fail
 go_quiet (fail)
 have X3 := hID (X2.out.drewN nq)
 have Y3 := hID (Y2.out.drewN nq)
 clear X2 Y2 d0
 generalize w2.drewN nq = w3 at *
 have d0 := GA.out _ Y3.out
 go_wp2_with fail
 go_quiet (fail)
 have X4 := hID (X3.out.drewN nq)
 have Y4 := hID (Y3.out.drewN nq)
 clear X3 Y3 d0
 generalize w3.drewN nq = w4 at *
 have d0 := GA.out _ Y4.out
 go_wp2_with fail
 rw [rounds_succ]
 go_wp2_with (at_builtin; refine @wpList_append_lies _ _ _ _ _ _ _ rfl _ _ 148 rfl w.heap.size 22 i_ints (.slice none 0 0) 1 24 Tryz.underlying148 h_ints z_ints s_ints b_ints rfl (by decide) (.slice none 0 0) (0) ([]) rfl ((OwnL.nilAt X4.out 22 1).1.alloc _) ⟨w4.heap.size, 0, none⟩ 1 1 [.slice (some ⟨w.heap.size, 0, none⟩) 0 0] rfl rfl ?c1 (by intro u hu; simp at hu; subst hu; rfl) (by decide) (by decide) (by decide) (by have := (OwnL.nilAt X4.out 22 1).2.size; simp; omega) _ rfl ?_)
 case c1 => exact qai _ [.slice (some ⟨w.heap.size, 0, none⟩) 0 0] _
 intro g5 cap5 w5 oW gW hat hlt
 have OW5 := hID ((OwnL.nilAt X4.out 22 1).grown (oAl (Off.refl Nob w4) (.cells #[.slice (some ⟨w.heap.size, 0, none⟩) 0 0] 22)) oW gW)
 have X5 := hID OW5.out.2
 clear oW gW hat hlt X4
 clear d0 Y4
 go_wp2_with fail
 rw [rounds_succ]
 go_wp2_with fail
 go_ret
 exact ⟨_, _, _, rfl, OW5.out.rd, OW5.out.2⟩
theorem qf5 (w : World) (v : Value) (hv : Rd w (fun _ => True) 7 v 1 pa_b) : Calls Tryz.prog 88 #[v] w (RetV w (.tuple #[.int .i64 1, .int .i64 0])) := by
 have HV0 := hID hv
 obtain ⟨b, o, c, rfl, hc⟩ := hv.cellsT (by decide)
 have HV := HV0
 have GC := hID (gcl3 hc)
 clear hc hv HV0
 go_enter Tryz.func88, Tryz.ntmps88
 have X0 : Hid (Off Nob w w) := hID oRf
 obtain ⟨c0, c1, c2, c3, c4, c5, c6⟩ := GC.out _ X0.out
 go_wp2_with fail
 refine (qm7 _ _ HV.out).mono ?_
 rintro e w1 ⟨rfl, o1⟩
 have X1 := hID (X0.out.also o1)
 clear o1 X0
 clear c0 c1 c2 c3 c4 c5 c6
 obtain ⟨c0, c1, c2, c3, c4, c5, c6⟩ := GC.out _ X1.out
 go_wp2_with fail
 refine (qfi _ _ (HV.out.keepT X1.out)).mono ?_
 rintro e w2 ⟨rfl, o1⟩
 have X2 := hID (X1.out.also o1)
 clear o1 X1
 clear c0 c1 c2 c3 c4 c5 c6
 obtain ⟨c0, c1, c2, c3, c4, c5, c6⟩ := GC.out _ X2.out
 go_wp2_with fail
 refine (qf4 _ _ (HV.out.keepT X2.out)).mono ?_
 rintro e w3 ⟨u1, A1, k1, rfl, hr, o1⟩
 have X3 := hID (X2.out.also o1)
 obtain ⟨hr, o1⟩ := id (And.intro hr o1)
 obtain ⟨b1, p1, cc, rfl, hd⟩ := hr.cellsT (by decide)
 have HD := hID hd
 clear hr hd
 clear o1 X2
 clear c0 c1 c2 c3 c4 c5 c6
 have d0 := HD.out _ oRf 0 _ rfl
 simp only [Nat.add_zero] at d0
 obtain ⟨c0, c1, c2, c3, c4, c5, c6⟩ := GC.out _ X3.out
 go_wp2_with fail
 refine wp_loop_rounds 2 ?_
 rw [rounds_succ]
 go_wp2_with fail
 refine (qpj _ _ _).mono ?_
 rintro e w4 ⟨rfl, o1⟩
 have X4 := hID (X3.out.also o1)
 clear o1 X3
 clear c0 c1 c2 c3 c4 c5 c6
 clear d0
 obtain ⟨c0, c1, c2, c3, c4, c5, c6⟩ := GC.out _ X4.out
 go_wp2_with fail
 rw [rounds_succ]
 go_wp2_with fail
 go_ret2
 exact ⟨rfl, X4.out⟩
theorem qm8 (w : World) (v : Value) (hv : Rd w (fun _ => True) 7 v 1 pa_b) : Calls Tryz.prog 89 #[v] w (fun e w' => ∃ u A c, e = .returned (.tuple #[u, .int .i64 0]) ∧ Rd w' (fun _ => True) 1 u 1 [.slice A 0 c] ∧ Off Nob w w') := by
 have HV0 := hID hv
 obtain ⟨b, o, c, rfl, hc⟩ := hv.cellsT (by decide)
 have HV := HV0
 have GC := hID (gcl3 hc)
 clear hc hv HV0
 go_enter Tryz.func89, Tryz.ntmps89
 have X0 : Hid (Off Nob w w) := hID oRf
 obtain ⟨c0, c1, c2, c3, c4, c5, c6⟩ := GC.out _ X0.out
 go_wp2_with fail
 refine (qf5 _ _ HV.out).mono ?_
 rintro e w1 ⟨rfl, o1⟩
 have X1 := hID (X0.out.also o1)
 clear o1 X0
 clear c0 c1 c2 c3 c4 c5 c6
 obtain ⟨c0, c1, c2, c3, c4, c5, c6⟩ := GC.out _ X1.out
 go_wp2_with fail
 refine (qf4 _ _ (HV.out.keepT X1.out)).mono ?_
 rintro e w2 ⟨u1, A1, k1, rfl, hr, o1⟩
 have X2 := hID (X1.out.also o1)
 obtain ⟨hr, o1⟩ := id (And.intro hr o1)
 have HD := hID hr
 clear hr
 clear o1 X1
 clear c0 c1 c2 c3 c4 c5 c6
 obtain ⟨c0, c1, c2, c3, c4, c5, c6⟩ := GC.out _ X2.out
 go_wp2_with fail
 go_ret2
 exact ⟨_, _, _, rfl, HD.out, X2.out⟩
theorem qtq (w : World) (v : Value) (hv : Rd w (fun _ => True) 7 v 1 pa_b) (AA : Option Addr) (ac : Nat) : Calls Tryz.prog 90 #[v, .slice AA 0 ac] w (fun e w' => ∃ u, e = .returned (.tuple #[u, .int .i64 0]) ∧ Rd w' (fun k => w.heap.size ≤ k) 4 u 1 se_b ∧ Off Nob w w') := by
 have HV0 := hID hv
 obtain ⟨b, o, c, rfl, hc⟩ := hv.cellsT (by decide)
 have HV := HV0
 have GC := hID (gcl3 hc)
 clear hc hv HV0
 obtain ⟨i_cl, h_cl, z_cl, s_cl, b_cl⟩ := info_parts Tryz.infoCl4
 go_enter Tryz.func90, Tryz.ntmps90
 have X0 : Hid (Off Nob w w) := hID oRf
 obtain ⟨c0, c1, c2, c3, c4, c5, c6⟩ := GC.out _ X0.out
 go_wp2_with fail
 refine (qft _ _ HV.out).mono ?_
 rintro e w1 ⟨rfl, o1⟩
 have X1 := hID (X0.out.also o1)
 clear o1 X0
 clear c0 c1 c2 c3 c4 c5 c6
 obtain ⟨c0, c1, c2, c3, c4, c5, c6⟩ := GC.out _ X1.out
 go_wp2_with fail
 refine (qfi _ _ (HV.out.keepT X1.out)).mono ?_
 rintro e w2 ⟨rfl, o1⟩
 have X2 := hID (X1.out.also o1)
 clear o1 X1
 clear c0 c1 c2 c3 c4 c5 c6
 obtain ⟨c0, c1, c2, c3, c4, c5, c6⟩ := GC.out _ X2.out
 go_wp2_with fail
 refine wp_loop_rounds 1 ?_
 rw [rounds_succ]
 go_wp2_with fail
 refine wp_loop_rounds 2 ?_
 rw [rounds_succ]
 go_wp2_with (at_builtin; refine @wpList_append_lies _ _ _ _ _ _ _ rfl _ _ 65 rfl w.heap.size 73 i_cl (.agg #[.int .u64 0, .int .u64 0, .int .u64 0, .int .u64 0]) 4 32 Tryz.underlying65 h_cl z_cl s_cl b_cl rfl (by decide) (.slice none 0 0) (0) ([]) rfl ((OwnL.nilAt X2.out 73 4).1.alloc _) ⟨w2.heap.size, 0, none⟩ 1 1 [.int .u64 0, .int .u64 25769803776, .int .u64 0, .int .u64 0] rfl rfl ?c1 (by decide) (by decide) (by decide) (by decide) (by have := (OwnL.nilAt X2.out 73 4).2.size; simp; omega) _ rfl ?_)
 case c1 => exact qai _ [.int .u64 0, .int .u64 25769803776, .int .u64 0, .int .u64 0] _
 intro g3 cap3 w3 oW gW hat hlt
 have OW3 := hID ((OwnL.nilAt X2.out 73 4).grown (oAl (Off.refl Nob w2) (.cells #[.int .u64 0, .int .u64 25769803776, .int .u64 0, .int .u64 0] 73)) oW gW)
 have X3 := hID OW3.out.2
 clear oW gW hat hlt X2
 clear c0 c1 c2 c3 c4 c5 c6
 obtain ⟨c0, c1, c2, c3, c4, c5, c6⟩ := GC.out _ X3.out
 go_wp2_with fail
 rw [rounds_succ]
 go_wp2_with fail
 go_ret2
 exact ⟨_, rfl, Rd.own OW3.out.1 (fun k hk => (OW3.out.1.lt k hk).1), OW3.out.2⟩
theorem qrb (w : World) (v : Value) (hv : Rd w (fun _ => True) 7 v 1 pa_b) : Calls Tryz.prog 56 #[v] w (fun e w' => ∃ u v, e = .returned (.tuple #[u, .int .i64 0]) ∧ Rd w' (fun k => w.heap.size ≤ k) 1 u 1 [v] ∧ (∃ A c, v = .slice A 1 c) ∧ Rd w' (fun k => w.heap.size ≤ k) 4 v 1 se_b ∧ Off Nob w w') := by
 have HV0 := hID hv
 obtain ⟨b, o, c, rfl, hc⟩ := hv.cellsT (by decide)
 have HV := HV0
 have GC := hID (gcl3 hc)
 clear hc hv HV0
 obtain ⟨i_line, h_line, z_line, s_line, b_line⟩ := info_parts Tryz.infoLn
 go_enter Tryz.func56, Tryz.ntmps56
 have X0 : Hid (Off Nob w w) := hID oRf
 obtain ⟨c0, c1, c2, c3, c4, c5, c6⟩ := GC.out _ X0.out
 go_wp2_with fail
 refine (qm8 _ _ HV.out).mono ?_
 rintro e w1 ⟨u1, A1, k1, rfl, hr, o1⟩
 have X1 := hID (X0.out.also o1)
 obtain ⟨hr, o1⟩ := id (And.intro hr o1)
 obtain ⟨b1, p1, cc, rfl, hd⟩ := hr.cellsT (by decide)
 have HD := hID hd
 clear hr hd
 clear o1 X0
 clear c0 c1 c2 c3 c4 c5 c6
 have d0 := HD.out _ oRf 0 _ rfl
 simp only [Nat.add_zero] at d0
 obtain ⟨c0, c1, c2, c3, c4, c5, c6⟩ := GC.out _ X1.out
 go_wp2_with fail
 refine wp_loop_rounds 2 ?_
 rw [rounds_succ]
 go_wp2_with fail
 refine (qtq _ _ (HV.out.keepT X1.out) _ _).mono ?_
 rintro e w2 ⟨u2, rfl, hr, o1⟩
 have X2 := hID (X1.out.also o1)
 obtain ⟨hr, o1⟩ := id (And.intro hr o1)
 obtain ⟨A2, k2, rfl, _⟩ := hr.form
 have HS := hID (Rd.mono hr (G := fun k => w.heap.size ≤ k) (fun k hk => Nat.le_trans X1.out.size hk))
 clear hr d0
 clear o1 X1
 clear c0 c1 c2 c3 c4 c5 c6
 obtain ⟨c0, c1, c2, c3, c4, c5, c6⟩ := GC.out _ X2.out
 go_wp2_with (at_builtin; refine @wpList_append_lies _ _ _ _ _ _ _ rfl _ _ 100 rfl w.heap.size 65 i_line (.slice none 0 0) 1 24 Tryz.underlying100 h_line z_line s_line b_line rfl (by decide) (.slice none 0 0) (0) ([]) rfl ((OwnL.nilAt X2.out 65 1).1.alloc _) ⟨w2.heap.size, 0, none⟩ 1 1 [.slice A2 1 k2] rfl rfl ?c1 (by intro u hu; simp at hu; subst hu; rfl) (by decide) (by decide) (by decide) (by have := (OwnL.nilAt X2.out 65 1).2.size; simp; omega) _ rfl ?_)
 case c1 => exact qai _ [.slice A2 1 k2] _
 intro g3 cap3 w3 oW gW hat hlt
 have HS' := hID (HS.out.keep (Off.grown (oAl (Off.refl Nob w2) _) gW (fun k hk => by cases hk)) (fun _ _ h => h))
 have OW3 := hID ((OwnL.nilAt X2.out 65 1).grown (oAl (Off.refl Nob w2) (.cells #[.slice A2 1 k2] 65)) oW gW)
 have X3 := hID OW3.out.2
 clear oW gW hat hlt X2
 clear c0 c1 c2 c3 c4 c5 c6
 obtain ⟨c0, c1, c2, c3, c4, c5, c6⟩ := GC.out _ X3.out
 go_wp2_with fail
 rw [rounds_succ]
 go_wp2_with fail
 go_ret2
 exact ⟨_, _, rfl, Rd.own OW3.out.1 (fun k hk => (OW3.out.1.lt k hk).1), ⟨_, _, rfl⟩, HS'.out, OW3.out.2⟩
theorem qza (w : World) (v va vb : Value) (hv : Rd w (fun _ => True) 1 v 2 [va, vb]) (ha : Rd w (fun _ => True) 7 va 2 pa_a) (hb : Rd w (fun _ => True) 7 vb 1 pa_b) : Calls Tryz.prog 55 #[v] w (RetV w (.tuple #[.int .i64 0, .int .i64 0])) := by
 have Ha := hID ha
 have Hb := hID hb
 obtain ⟨b, o, c, rfl, hc⟩ := hv.cellsT (by decide)
 have GC : Hid (∀ W, Off Nob w W → W.cell? ⟨b, o, none⟩ = some va ∧ W.cell? ⟨b, o + 1, none⟩ = some vb) := hID (fun W ho => ⟨hc W ho 0 _ rfl, hc W ho 1 _ rfl⟩)
 clear hc hv ha hb
 go_enter Tryz.func55, Tryz.ntmps55
 have X0 : Hid (Off Nob w w) := hID oRf
 obtain ⟨c0, c1⟩ := GC.out _ X0.out
 go_wp2_with fail
 refine wp_loop_rounds 3 ?_
 rw [rounds_succ]
 go_wp2_with fail
 refine (qf3 _ _ Ha.out).mono ?_
 rintro e w1 ⟨rfl, o1⟩
 have X1 := hID (X0.out.also o1)
 clear o1 X0
 clear c0 c1
 obtain ⟨c0, c1⟩ := GC.out _ X1.out
 go_wp2_with fail
 rw [rounds_succ]
 go_wp2_with fail
 refine (qf5 _ _ (Hb.out.keepT X1.out)).mono ?_
 rintro e w2 ⟨rfl, o1⟩
 have X2 := hID (X1.out.also o1)
 clear o1 X1
 clear c0 c1
 obtain ⟨c0, c1⟩ := GC.out _ X2.out
 go_wp2_with fail
 rw [rounds_succ]
 go_wp2_with fail
 go_ret2
 exact ⟨rfl, X2.out⟩
end
section
open Go.RowKit
theorem Tryz.infoU64 : (Tryz.prog.info? 71).map (fun i => (i.zero, i.size, i.bytes)) = some (some (.int .u64 0), 1, 8) := by kernel_rfl
end
section
open Go.RowKit
theorem Tryz.infoLa : (Tryz.prog.info? 43).map (fun i => (i.zero, i.size, i.bytes)) = some (some (.agg #[.int .i64 0, .int .i64 0, .int .i64 0]), 3, 24) := by kernel_rfl
def ln_ab : List Value := [.int .i64 0, .int .i64 0, .int .i64 2, .int .i64 1, .int .i64 2, .int .i64 1]
theorem qv9 (w : World) : Calls Tryz.prog 91 #[.int .i64 3] w fun e w' => e = .returned (.int .i64 1) ∧ w = w' := by
 go_enter Tryz.func91, Tryz.ntmps91
 go_wp2_with fail
 go_ret
 exact ⟨rfl, rfl⟩
end
section
open Go.RowKit
end
section
open Go.RowKit
def Asc (xs : List Int) : Prop := ∀ j, j + 1 < xs.length → xs.getD j 0 < xs.getD (j + 1) 0
theorem qzj (xs : List Int) (hx : ∀ x ∈ xs, 1 ≤ x ∧ x ≤ 1000) (hn : xs.length ≤ 1024) (w : World) (v : Value) (hv : Rd w (fun _ => True) 1 v xs.length (xs.map (Value.int .i64))) : Calls Tryz.prog 74 #[v] w fun e w' => (∃ i m, e = .returned (.tuple #[.int .i64 i, .int .i64 m]) ∧ (Asc xs ∧ m = 0 ∨ ¬ Asc xs ∧ m = 6)) ∧ w = w' := by
 have HV := hID hv
 have HC : Hid (∀ k, k < xs.length → ∃ a, v = a ∧ True) := hID (fun _ _ => ⟨v, rfl, trivial⟩)
 clear HC
 have hform : ∃ A c, v = .slice A xs.length c := by
  obtain ⟨A, c, rfl, _⟩ := hv.form
  exact ⟨A, c, rfl⟩
 obtain ⟨A, c, rfl⟩ := hform
 have HC : Hid (∀ k, k < xs.length → ∃ b o, A = some ⟨b, o, none⟩ ∧ ∀ j, j < xs.length → w.cell? ⟨b, o + j, none⟩ = some (.int .i64 (xs.getD j 0))) := hID (fun k hk => by
  obtain ⟨b, o, c2, he, hc⟩ := hv.cellsT (by omega)
  injection he with h1 h2 h3
  exact ⟨b, o, h1, fun j hj => hc w oRf j _ (by simp [gDe, gEe hj])⟩)
 clear hv HV
 have HX : Hid (∀ k, k < xs.length → 1 ≤ xs.getD k 0 ∧ xs.getD k 0 ≤ 1000) := hID (fun k hk => by rw [gDe, gEe hk]; exact hx _ (List.getElem_mem hk))
 clear hx
 go_enter Tryz.func74, Tryz.ntmps74
 go_wp2_with fail
 go_loopw [8] (fun p wr => ∃ k : Nat, p = .int .i64 (k : Int) ∧ k ≤ xs.length ∧ (∀ j, j + 1 < k → xs.getD j 0 < xs.getD (j + 1) 0) ∧ wr = w) (fun p wr => xs.length - (intOf p).toNat)
 case atStart => exact ⟨0, rfl, Nat.zero_le _, fun j hj => by omega, rfl⟩
 case round =>
  obtain ⟨k, rfl, hk, hall, rfl⟩ := hrel
  have HA := hID hall
  clear hall
  by_cases hlt : k < xs.length
  ·have d1 : decide ((k : Int) < (xs.length : Int)) = true := dcT
   obtain ⟨b, o, rfl, hc⟩ := HC.out k hlt
   have ck := hc k hlt
   obtain ⟨y, hy⟩ : ∃ y, xs.getD k 0 = y := ⟨_, rfl⟩
   have hyb := HX.out k hlt
   have HY := hID hy
   rw [hy] at ck hyb
   have d2 : decide (y < 1) = false := dcF
   have d3 : decide (1000 < y) = false := dcF
   by_cases hk0 : k = 0
   ·subst hk0
    clear hy hyb hc
    rw [Nat.add_zero] at ck
    go_wp2_with fail
    go_roundw
    case rel => exact ⟨1, rfl, by omega, fun j hj => by omega, trivial⟩
    case measure => simp [intOf]; omega
   ·have d4 : decide ((0 : Int) < (k : Int)) = true := dcT
    have cp := hc (k - 1) (by omega)
    obtain ⟨z, hz⟩ : ∃ z, xs.getD (k - 1) 0 = z := ⟨_, rfl⟩
    have HZ := hID hz
    rw [hz] at cp
    have hkk : ((k - 1 : Nat) : Int) = (k : Int) - 1 := by omega
    have HKK := hID hkk
    by_cases hyz : y ≤ z
    ·have d5 : decide (y ≤ z) = true := dT hyz
     clear hy hyb hc hz
     go_wp2_with fail
     go_ret2
     refine ⟨⟨_, _, rfl, .inr ⟨fun h => ?_, rfl⟩⟩, rfl⟩
     have := h (k - 1) (by omega)
     rw [HZ.out, show k - 1 + 1 = k by omega, HY.out] at this
     omega
    ·have d5 : decide (y ≤ z) = false := dF hyz
     clear hy hyb hc hz
     go_wp2_with fail
     go_roundw
     case rel =>
      refine ⟨k + 1, by go_num, by omega, fun j hj => ?_, trivial⟩
      by_cases hj2 : j + 1 < k
      ·exact HA.out j hj2
      ·obtain rfl : j = k - 1 := by omega
       rw [HZ.out, show k - 1 + 1 = k by omega, HY.out]
       omega
     case measure => simp [intOf]; omega
  ·obtain rfl : k = xs.length := by omega
   have d1 : decide ((xs.length : Int) < (xs.length : Int)) = false := dcF
   go_wp2_with fail
   go_ret2
   exact ⟨⟨_, _, rfl, .inl ⟨HA.out, rfl⟩⟩, rfl⟩
end
section
open Go.RowKit
theorem qa1 {P : Program} {fn : Func} {p u u2 : Tmp} {ty : TypeId} (h : fn.results = #[.cell p ty, .tmp u, .tmp u2]) (tmps : Array Value) (w : World) (g : Nat) (t : TypeId) (cs : Array Value) (fr : Nat × Nat) (d : TypeDesc)
  (hp : tmps.getD p undef = .pointer (some ⟨g, 0, none⟩)) (hg : w.heap[g]? = some (.cells cs t fr)) (hu : P.underlying ty = some d) (hd : (match d with | .struct _ | .array _ _ => true | _ => false) = true) (hi : (P.info? ty).map (·.size) = some cs.size) :
  (results fn tmps).run P w = .ok (.tuple #[.agg cs, tmps.getD u undef, tmps.getD u2 undef]) w := by
 have hp' : tmps[p]?.getD undef = .pointer (some ⟨g, 0, none⟩) := by simpa using hp
 simp [results, h, hp', asAddr, run_loadVar_row w g t ty cs fr d hg hu hd hi, Sem.run_bind, Result.andThen]
theorem qam {w : World} {base : Nat} {e t : TypeId} {size n g c b : Nat} {xs : List Value} {cs : Array Value} (h : w.ownsRow base e size (.slice (some ⟨g, 0, none⟩) n c) n xs) (hb : Blk w b t cs) (ne : t ≠ e) : g ≠ b := by
 rcases h.2 with ⟨hx, _⟩ | ⟨g', cap, cur, hv, _, hh, _⟩
 ·cases hx
 ·injection hv with hv1
  injection hv1 with hv1
  injection hv1 with hv1
  subst hv1
  rintro rfl
  unfold Blk at hb
  rw [hb] at hh
  injection hh with hh
  injection hh with _ hh
  exact ne hh
theorem Tryz.infoLp : (Tryz.prog.info? 62).map (·.size) = some 2 := by kernel_rfl
theorem qpp (w : World) (v l0 l1 : Value) (A0 A1 : Option Addr) (k0 k1 : Nat) (hv : Rd w (fun _ => True) 1 v 2 [l0, l1]) (h0 : Rd w (fun _ => True) 1 l0 1 [.slice A0 2 k0]) (h1 : Rd w (fun _ => True) 1 l1 1 [.slice A1 1 k1]) :
  Calls Tryz.prog 57 #[v] w (fun e w' => ∃ u, e = .returned (.tuple #[.agg #[.int .i64 1, u], .int .i64 0, .int .i64 0]) ∧ Rd w' (fun _ => True) 3 u 2 ln_ab ∧ Off Nob w w') := by
 obtain ⟨i_lane, h_lane, z_lane, s_lane, b_lane⟩ := info_parts Tryz.infoLa
 obtain ⟨b, o, c, rfl, hc⟩ := hv.cellsT (by decide)
 obtain ⟨b0, o0, c0, rfl, hc0⟩ := h0.cellsT (by decide)
 obtain ⟨b1, o1, c1, rfl, hc1⟩ := h1.cellsT (by decide)
 have GL : Hid (∀ W, Off Nob w W → W.cell? ⟨b, o, none⟩ = some (.slice (some ⟨b0, o0, none⟩) 1 c0) ∧ W.cell? ⟨b, o + 1, none⟩ = some (.slice (some ⟨b1, o1, none⟩) 1 c1) ∧ W.cell? ⟨b0, o0, none⟩ = some (.slice A0 2 k0) ∧ W.cell? ⟨b1, o1, none⟩ = some (.slice A1 1 k1)) := hID (fun W ho => ⟨hc W ho 0 _ rfl, hc W ho 1 _ rfl, hc0 W ho 0 _ rfl, hc1 W ho 0 _ rfl⟩)
 clear hc hc0 hc1 hv h0 h1
 have FZ : Hid (True) := hID trivial
 go_enter Tryz.func57, Tryz.ntmps57
 go_wp2_with fail
 have X0 : Hid (Off Nob w (((w.alloc (.cells #[.int .i64 0, .slice none 0 0] 62)).alloc (.cells #[.int .i64 0, .slice none 0 0] 62)).alloc (.cells #[.int .i64 0, .slice none 0 0] 62))) := hID (oAl (oAl (oAl oRf _) _) _)
 have B0 : Hid (Blk (((w.alloc (.cells #[.int .i64 0, .slice none 0 0] 62)).alloc (.cells #[.int .i64 0, .slice none 0 0] 62)).alloc (.cells #[.int .i64 0, .slice none 0 0] 62)) (w.heap.size + 2) 62 #[.int .i64 0, .slice none 0 0]) := hID (by have := Blk.new ((w.alloc (.cells #[.int .i64 0, .slice none 0 0] 62)).alloc (.cells #[.int .i64 0, .slice none 0 0] 62)) 62 #[.int .i64 0, .slice none 0 0]; simpa using this)
 have BR0 : Hid (Blk (((w.alloc (.cells #[.int .i64 0, .slice none 0 0] 62)).alloc (.cells #[.int .i64 0, .slice none 0 0] 62)).alloc (.cells #[.int .i64 0, .slice none 0 0] 62)) w.heap.size 62 #[.int .i64 0, .slice none 0 0]) := hID (((Blk.new w 62 #[.int .i64 0, .slice none 0 0]).alloc _).alloc _)
 revert X0 B0 BR0
 generalize (((w.alloc (.cells #[.int .i64 0, .slice none 0 0] 62)).alloc (.cells #[.int .i64 0, .slice none 0 0] 62)).alloc (.cells #[.int .i64 0, .slice none 0 0] 62)) = w0
 intro X0 B0 BR0
 refine wp_loop_rounds 3 ?_
 rw [rounds_succ]
 obtain ⟨v0, v1, m0, m1⟩ := GL.out _ X0.out
 have p0 := B0.out.cell 0
 have p1 := B0.out.cell 1
 simp only [qG] at p0 p1
 go_wp2_with fail
 refine wp_loop_rounds 2 ?_
 rw [rounds_succ]
 go_wp2_with fail
 rw [rounds_succ]
 go_wp2_with fail
 refine wp_loop_rounds 2 ?_
 rw [rounds_succ]
 have f1 := FZ.out
 go_wp2_with (at_builtin; refine @wpList_append_lies _ _ _ _ _ _ _ rfl _ _ 39 rfl w.heap.size 43 i_lane (.agg #[.int .i64 0, .int .i64 0, .int .i64 0]) 3 24 Tryz.underlying39 h_lane z_lane s_lane b_lane rfl (by decide) (.slice none 0 0) (0) ([]) rfl ((OwnL.nilAt X0.out 43 3).1.alloc _) ⟨w0.heap.size, 0, none⟩ 1 1 [.int .i64 0, .int .i64 0, .int .i64 2] rfl rfl ?c1 (by decide) (by decide) (by decide) (by decide) (by have := X0.out.size; simp; omega) _ rfl ?_)
 case c1 => exact qai _ [.int .i64 0, .int .i64 0, .int .i64 2] _
 intro g1 cap1 w5 oW gW hat hlt
 have OA := hID ((OwnL.nilAt X0.out 43 3).grown (oAl (Off.refl Nob w0) (.cells #[.int .i64 0, .int .i64 0, .int .i64 2] 43)) oW gW)
 have BA : Hid (Blk w5 (w.heap.size + 2) 62 #[.int .i64 0, .slice none 0 0]) := hID (B0.out.to ((Off.grown (F := fun k => (.slice none 0 0 : Value).ownBlock = some k) (oAl oRf _) gW (fun k hk => .inl hk)).block _ B0.out.lt (fun h => by cases h)))
 have BR1 : Hid (Blk w5 w.heap.size 62 #[.int .i64 0, .slice none 0 0]) := hID (BR0.out.to ((Off.grown (F := fun k => (.slice none 0 0 : Value).ownBlock = some k) (oAl oRf _) gW (fun k hk => .inl hk)).block _ BR0.out.lt (fun h => by cases h)))
 have gne : g1 ≠ w.heap.size + 2 := qam OA.out.1 BA.out (by decide)
 have q0 := BA.out.cell 0
 have q1 := BA.out.cell 1
 simp only [qG] at q0 q1
 have fz0 := BA.out.frozen 0
 have fz1 := BA.out.frozen 1
 have XB : Hid (Off Nob w (w5.setCell ⟨w.heap.size + 2, 1, none⟩ (.slice (some ⟨g1, 0, none⟩) (0 + 1) cap1))) := hID (OA.out.2.put (.inr (Nat.le_add_right _ _)) _)
 have BB : Hid (Blk (w5.setCell ⟨w.heap.size + 2, 1, none⟩ (.slice (some ⟨g1, 0, none⟩) (0 + 1) cap1)) (w.heap.size + 2) 62 #[.int .i64 0, (.slice (some ⟨g1, 0, none⟩) (0 + 1) cap1)]) := hID (BA.out.put 1 _)
 have BC : Hid (Blk (w5.setCell ⟨w.heap.size + 2, 1, none⟩ (.slice (some ⟨g1, 0, none⟩) (0 + 1) cap1)) w.heap.size 62 #[.int .i64 0, .slice none 0 0]) := hID (BR1.out.far (p := ⟨w.heap.size + 2, 1, none⟩) (show w.heap.size ≠ w.heap.size + 2 by omega) _)
 have OB : Hid (OwnL w (w5.setCell ⟨w.heap.size + 2, 1, none⟩ (.slice (some ⟨g1, 0, none⟩) (0 + 1) cap1)) 43 3 (.slice (some ⟨g1, 0, none⟩) (0 + 1) cap1) (0 + 1) ([] ++ [.int .i64 0, .int .i64 0, .int .i64 2])) := hID ⟨qao OA.out.1 (fun x hx => by
  have e : g1 = x := by simpa [Value.ownBlock] using hx
  subst e
  rw [Below.heap_setCell _ ⟨w.heap.size + 2, 1, none⟩ _ _ gne]), XB.out⟩
 clear oW gW hat hlt v0 v1 m0 m1 p0 p1 f1 X0 B0 BR0 OA BA gne
 skip
 go_wp2_with fail
 revert XB BB BC OB
 generalize w5.setCell ⟨w.heap.size + 2, 1, none⟩ (.slice (some ⟨g1, 0, none⟩) (0 + 1) cap1) = w10
 intro X1 B1 BC1 OW1
 clear BR1 q0 q1 fz0 fz1
 have BR1 := BC1
 clear BC1
 obtain ⟨v0, v1, m0, m1⟩ := GL.out _ X1.out
 have p0 := B1.out.cell 0
 have p1 := B1.out.cell 1
 simp only [qG] at p0 p1
 rw [rounds_succ]
 go_wp2_with fail
 rw [rounds_succ]
 clear v0 v1 m0 m1 p0 p1
 obtain ⟨v0, v1, m0, m1⟩ := GL.out _ X1.out
 have p0 := B1.out.cell 0
 have p1 := B1.out.cell 1
 simp only [qG] at p0 p1
 go_wp2_with fail
 refine wp_loop_rounds 2 ?_
 rw [rounds_succ]
 go_wp2_with fail
 rw [rounds_succ]
 go_wp2_with fail
 refine wp_loop_rounds 2 ?_
 rw [rounds_succ]
 have f1 := FZ.out
 go_wp2_with (at_builtin; refine @wpList_append_lies _ _ _ _ _ _ _ rfl _ _ 39 rfl w.heap.size 43 i_lane (.agg #[.int .i64 0, .int .i64 0, .int .i64 0]) 3 24 Tryz.underlying39 h_lane z_lane s_lane b_lane rfl (by decide) ((.slice (some ⟨g1, 0, none⟩) (0 + 1) cap1)) ((0 + 1)) (([] ++ [.int .i64 0, .int .i64 0, .int .i64 2])) rfl (OW1.out.1.alloc _) ⟨w10.heap.size, 0, none⟩ 1 1 [.int .i64 1, .int .i64 2, .int .i64 1] rfl rfl ?c1 (by decide) (by decide) (by decide) (by decide) (by have := X1.out.size; simp; omega) _ rfl ?_)
 case c1 => exact qai _ [.int .i64 1, .int .i64 2, .int .i64 1] _
 intro g2 cap2 w15 oW gW hat hlt
 have OA := hID (OW1.out.grown (oAl (Off.refl Nob w10) (.cells #[.int .i64 1, .int .i64 2, .int .i64 1] 43)) oW gW)
 have BA : Hid (Blk w15 (w.heap.size + 2) 62 #[.int .i64 0, (.slice (some ⟨g1, 0, none⟩) (0 + 1) cap1)]) := hID (B1.out.to ((Off.grown (F := fun k => ((.slice (some ⟨g1, 0, none⟩) (0 + 1) cap1) : Value).ownBlock = some k) (oAl oRf _) gW (fun k hk => .inl hk)).block _ B1.out.lt (fun h => qam OW1.out.1 B1.out (by decide) (by injection h))))
 have BR2 : Hid (Blk w15 w.heap.size 62 #[.int .i64 0, .slice none 0 0]) := hID (BR1.out.to ((Off.grown (F := fun k => ((.slice (some ⟨g1, 0, none⟩) (0 + 1) cap1) : Value).ownBlock = some k) (oAl oRf _) gW (fun k hk => .inl hk)).block _ BR1.out.lt (fun h => qam OW1.out.1 BR1.out (by decide) (by injection h))))
 have gne : g2 ≠ w.heap.size + 2 := qam OA.out.1 BA.out (by decide)
 have q0 := BA.out.cell 0
 have q1 := BA.out.cell 1
 simp only [qG] at q0 q1
 have fz0 := BA.out.frozen 0
 have fz1 := BA.out.frozen 1
 have XB : Hid (Off Nob w (w15.setCell ⟨w.heap.size + 2, 1, none⟩ (.slice (some ⟨g2, 0, none⟩) ((0 + 1) + 1) cap2))) := hID (OA.out.2.put (.inr (Nat.le_add_right _ _)) _)
 have BB : Hid (Blk (w15.setCell ⟨w.heap.size + 2, 1, none⟩ (.slice (some ⟨g2, 0, none⟩) ((0 + 1) + 1) cap2)) (w.heap.size + 2) 62 #[.int .i64 0, (.slice (some ⟨g2, 0, none⟩) ((0 + 1) + 1) cap2)]) := hID (BA.out.put 1 _)
 have BC : Hid (Blk (w15.setCell ⟨w.heap.size + 2, 1, none⟩ (.slice (some ⟨g2, 0, none⟩) ((0 + 1) + 1) cap2)) w.heap.size 62 #[.int .i64 0, .slice none 0 0]) := hID (BR2.out.far (p := ⟨w.heap.size + 2, 1, none⟩) (show w.heap.size ≠ w.heap.size + 2 by omega) _)
 have OB : Hid (OwnL w (w15.setCell ⟨w.heap.size + 2, 1, none⟩ (.slice (some ⟨g2, 0, none⟩) ((0 + 1) + 1) cap2)) 43 3 (.slice (some ⟨g2, 0, none⟩) ((0 + 1) + 1) cap2) ((0 + 1) + 1) (([] ++ [.int .i64 0, .int .i64 0, .int .i64 2]) ++ [.int .i64 1, .int .i64 2, .int .i64 1])) := hID ⟨qao OA.out.1 (fun x hx => by
  have e : g2 = x := by simpa [Value.ownBlock] using hx
  subst e
  rw [Below.heap_setCell _ ⟨w.heap.size + 2, 1, none⟩ _ _ gne]), XB.out⟩
 clear oW gW hat hlt v0 v1 m0 m1 p0 p1 f1 X1 B1 BR1 OA BA gne
 clear OW1
 go_wp2_with fail
 revert XB BB BC OB
 generalize w15.setCell ⟨w.heap.size + 2, 1, none⟩ (.slice (some ⟨g2, 0, none⟩) ((0 + 1) + 1) cap2) = w20
 intro X2 B2 BC2 OW2
 clear BR2 q0 q1 fz0 fz1
 have BR2 := BC2
 clear BC2
 obtain ⟨v0, v1, m0, m1⟩ := GL.out _ X2.out
 have p0 := B2.out.cell 0
 have p1 := B2.out.cell 1
 simp only [qG] at p0 p1
 rw [rounds_succ]
 go_wp2_with fail
 rw [rounds_succ]
 clear v0 v1 m0 m1 p0 p1
 obtain ⟨v0, v1, m0, m1⟩ := GL.out _ X2.out
 have p0 := B2.out.cell 0
 have p1 := B2.out.cell 1
 simp only [qG] at p0 p1
 have fz0 := B2.out.frozen 0
 have fz1 := B2.out.frozen 1
 have r0 := BR2.out.cell 0
 have r1 := BR2.out.cell 1
 simp only [qG] at r0 r1
 have rz0 := BR2.out.frozen 0
 have rz1 := BR2.out.frozen 1
 go_wp2_with fail
 refine (qv9 _).mono ?_
 rintro e w' ⟨rfl, rfl⟩
 go_wp2_with fail
 have W9 := (((w20.setCell ⟨w.heap.size + 2, 0, none⟩ (.int .i64 1)).setCell ⟨w.heap.size, 0, none⟩ (.int .i64 1)).setCell ⟨w.heap.size, 1, none⟩ (.slice (some ⟨g2, 0, none⟩) (0 + 1 + 1) cap2))
 have e1 : g2 ≠ w.heap.size + 2 := qam OW2.out.1 B2.out (by decide)
 have e2 : g2 ≠ w.heap.size := qam OW2.out.1 BR2.out (by decide)
 have RR : Blk (((w20.setCell ⟨w.heap.size + 2, 0, none⟩ (.int .i64 1)).setCell ⟨w.heap.size, 0, none⟩ (.int .i64 1)).setCell ⟨w.heap.size, 1, none⟩ (.slice (some ⟨g2, 0, none⟩) (0 + 1 + 1) cap2)) w.heap.size 62 #[.int .i64 1, (.slice (some ⟨g2, 0, none⟩) (0 + 1 + 1) cap2)] := ((BR2.out.far (p := ⟨w.heap.size + 2, 0, none⟩) (show w.heap.size ≠ w.heap.size + 2 by omega) _).put 0 _).put 1 _
 have RO : Off Nob w (((w20.setCell ⟨w.heap.size + 2, 0, none⟩ (.int .i64 1)).setCell ⟨w.heap.size, 0, none⟩ (.int .i64 1)).setCell ⟨w.heap.size, 1, none⟩ (.slice (some ⟨g2, 0, none⟩) (0 + 1 + 1) cap2)) := ((X2.out.put (p := ⟨w.heap.size + 2, 0, none⟩) (.inr (Nat.le_add_right _ _)) _).put (p := ⟨w.heap.size, 0, none⟩) (.inr (Nat.le_refl _)) _).put (p := ⟨w.heap.size, 1, none⟩) (.inr (Nat.le_refl _)) _
 have RW := qao (w' := (((w20.setCell ⟨w.heap.size + 2, 0, none⟩ (.int .i64 1)).setCell ⟨w.heap.size, 0, none⟩ (.int .i64 1)).setCell ⟨w.heap.size, 1, none⟩ (.slice (some ⟨g2, 0, none⟩) (0 + 1 + 1) cap2))) OW2.out.1 (fun x hx => by
  have e : g2 = x := by simpa [Value.ownBlock] using hx
  subst e
  rw [Below.heap_setCell _ ⟨w.heap.size, 1, none⟩ _ _ e2, Below.heap_setCell _ ⟨w.heap.size, 0, none⟩ _ _ e2, Below.heap_setCell _ ⟨w.heap.size + 2, 0, none⟩ _ _ e1])
 exact bodyPost_ret (qa1 rfl _ _ _ _ _ (0, 0) _ rfl RR Tryz.underlying62 rfl Tryz.infoLp) rfl ⟨_, rfl, Rd.own RW (fun _ _ => trivial), RO⟩
end
end Go.Proofs.YtlgjaefcfnndhaaGreatDoor
