/-
 dragnetref13.choices, Alone and Check at the rules of the example.
-/
import Derived.Test.YtlgjaefcfnndhaaGreatDoorK20
set_option linter.unusedVariables false
set_option linter.unusedSimpArgs false
namespace Go.Proofs.YtlgjaefcfnndhaaGreatDoor
open Go.RowKit
set_option maxRecDepth 100000
set_option maxHeartbeats 2000000 in
theorem co_choices_a (w : World) (v : Value) (hv : Rd w (fun _ => True) 8 v 1 el_a) : Calls Tryz.prog 120 #[.agg #[.int .i64 5, v]] w (RetV w (.int .i64 1)) := by
 obtain ⟨b, o, c, rfl, hc⟩ := hv.cellsT (by decide)
 have HC := hID hc
 clear hc hv
 go_enter Tryz.func120, Tryz.ntmps120
 go_wp2_with fail
 have HB0 : Hid (Blk (w.alloc (.cells #[.int .i64 5, .slice (some ⟨b, o, none⟩) 1 c] 124)) w.heap.size 124 #[.int .i64 5, .slice (some ⟨b, o, none⟩) 1 c] ∧ Off Nob w (w.alloc (.cells #[.int .i64 5, .slice (some ⟨b, o, none⟩) 1 c] 124))) := hID ⟨Blk.new _ _ _, Off.alloc (Off.refl _ _) _⟩
 revert HB0
 generalize (w.alloc (.cells #[.int .i64 5, .slice (some ⟨b, o, none⟩) 1 c] 124)) = w0
 intro HB0
 have GC : Hid (∀ W, Off Nob w0 W → W.cell? ⟨w.heap.size, 0, none⟩ = some (.int .i64 5) ∧ W.cell? ⟨w.heap.size, 1, none⟩ = some (.slice (some ⟨b, o, none⟩) 1 c) ∧ W.cell? ⟨b, o, none⟩ = some (.int .i64 1) ∧ W.cell? ⟨b, o + 1, none⟩ = some (.string ⟨#[97, 98]⟩) ∧ W.cell? ⟨b, o + 2, none⟩ = some (.int .u64 0) ∧ W.cell? ⟨b, o + 3, none⟩ = some (.int .u64 0) ∧ W.cell? ⟨b, o + 4, none⟩ = some (.int .u64 0) ∧ W.cell? ⟨b, o + 5, none⟩ = some (.int .u64 0) ∧ W.cell? ⟨b, o + 6, none⟩ = some (.int .i64 0) ∧ W.cell? ⟨b, o + 7, none⟩ = some (.int .i64 0)) := hID (fun W ho => by
  have h := HB0.out.1.to (ho.block _ HB0.out.1.lt (fun h => h))
  have k := HC.out W (HB0.out.2.also ho)
  exact ⟨h.cell 0, h.cell 1, k 0 _ rfl, k 1 _ rfl, k 2 _ rfl, k 3 _ rfl, k 4 _ rfl, k 5 _ rfl, k 6 _ rfl, k 7 _ rfl⟩)
 have X0 : Hid (Off Nob w0 w0) := hID (Off.refl _ _)
 obtain ⟨t0, t1, c0, c1, c2, c3, c4, c5, c6, c7⟩ := GC.out _ X0.out
 go_wp2_with fail
 refine wp_loop_rounds 2 ?_
 rw [rounds_succ]
 clear t0 t1 c0 c1 c2 c3 c4 c5 c6 c7
 obtain ⟨t0, t1, c0, c1, c2, c3, c4, c5, c6, c7⟩ := GC.out _ X0.out
 go_wp2_with fail
 rw [rounds_succ]
 clear t0 t1 c0 c1 c2 c3 c4 c5 c6 c7
 obtain ⟨t0, t1, c0, c1, c2, c3, c4, c5, c6, c7⟩ := GC.out _ X0.out
 go_wp2_with fail
 go_ret
 exact ⟨rfl, HB0.out.2.also X0.out⟩
set_option maxHeartbeats 4000000 in
theorem co_alone_a (w : World) (v : Value) (hv : Rd w (fun _ => True) 8 v 1 el_a) : Calls Tryz.prog 98 #[.agg #[.int .i64 5, v]] w (RetV w (.tuple #[.int .i64 0, .int .i64 0])) := by
 have HV0 := hID hv
 obtain ⟨b, o, c, rfl, hc⟩ := hv.cellsT (by decide)
 have HV := HV0
 have HC := hID hc
 clear hc hv HV0
 go_enter Tryz.func98, Tryz.ntmps98
 go_wp2_with fail
 have HL : Hid (Rd ((w.alloc (.cells #[.int .i64 5, .slice (some ⟨b, o, none⟩) 1 c] 124)).alloc (.cells #[.int .i64 5, .slice (some ⟨b, o, none⟩) 1 c] 124)) (fun _ => True) 2 (.slice (some ⟨w.heap.size + 1, 0, none⟩) 1 1) 1 [.int .i64 5, .slice (some ⟨b, o, none⟩) 1 c]) := hID (by have := Rd.newT (w.alloc (.cells #[.int .i64 5, .slice (some ⟨b, o, none⟩) 1 c] 124)) 124 [.int .i64 5, .slice (some ⟨b, o, none⟩) 1 c] 2 1 rfl (by decide); simpa using this)
 have HB0 : Hid (Blk ((w.alloc (.cells #[.int .i64 5, .slice (some ⟨b, o, none⟩) 1 c] 124)).alloc (.cells #[.int .i64 5, .slice (some ⟨b, o, none⟩) 1 c] 124)) w.heap.size 124 #[.int .i64 5, .slice (some ⟨b, o, none⟩) 1 c] ∧ Off Nob w ((w.alloc (.cells #[.int .i64 5, .slice (some ⟨b, o, none⟩) 1 c] 124)).alloc (.cells #[.int .i64 5, .slice (some ⟨b, o, none⟩) 1 c] 124))) := hID ⟨(Blk.new _ _ _).alloc _, Off.alloc (Off.alloc (Off.refl _ _) _) _⟩
 revert HB0 HL
 generalize ((w.alloc (.cells #[.int .i64 5, .slice (some ⟨b, o, none⟩) 1 c] 124)).alloc (.cells #[.int .i64 5, .slice (some ⟨b, o, none⟩) 1 c] 124)) = w0
 intro HL HB0
 have GC : Hid (∀ W, Off Nob w0 W → W.cell? ⟨w.heap.size, 0, none⟩ = some (.int .i64 5) ∧ W.cell? ⟨w.heap.size, 1, none⟩ = some (.slice (some ⟨b, o, none⟩) 1 c) ∧ W.cell? ⟨b, o, none⟩ = some (.int .i64 1) ∧ W.cell? ⟨b, o + 1, none⟩ = some (.string ⟨#[97, 98]⟩) ∧ W.cell? ⟨b, o + 2, none⟩ = some (.int .u64 0) ∧ W.cell? ⟨b, o + 3, none⟩ = some (.int .u64 0) ∧ W.cell? ⟨b, o + 4, none⟩ = some (.int .u64 0) ∧ W.cell? ⟨b, o + 5, none⟩ = some (.int .u64 0) ∧ W.cell? ⟨b, o + 6, none⟩ = some (.int .i64 0) ∧ W.cell? ⟨b, o + 7, none⟩ = some (.int .i64 0)) := hID (fun W ho => by
  have h := HB0.out.1.to (ho.block _ HB0.out.1.lt (fun h => h))
  have k := HC.out W (HB0.out.2.also ho)
  exact ⟨h.cell 0, h.cell 1, k 0 _ rfl, k 1 _ rfl, k 2 _ rfl, k 3 _ rfl, k 4 _ rfl, k 5 _ rfl, k 6 _ rfl, k 7 _ rfl⟩)
 have X0 : Hid (Off Nob w0 w0) := hID (Off.refl _ _)
 obtain ⟨t0, t1, c0, c1, c2, c3, c4, c5, c6, c7⟩ := GC.out _ X0.out
 go_wp2_with fail
 refine (co_ck12_a _ _ _ HL.out (HV.out.keepT HB0.out.2)).mono ?_
 rintro e w1 ⟨rfl, o1⟩
 have X1 := hID (X0.out.also o1)
 clear HL
 clear o1 X0
 clear t0 t1 c0 c1 c2 c3 c4 c5 c6 c7
 obtain ⟨t0, t1, c0, c1, c2, c3, c4, c5, c6, c7⟩ := GC.out _ X1.out
 go_wp2_with fail
 refine wp_loop_rounds 2 ?_
 rw [rounds_succ]
 clear t0 t1 c0 c1 c2 c3 c4 c5 c6 c7
 obtain ⟨t0, t1, c0, c1, c2, c3, c4, c5, c6, c7⟩ := GC.out _ X1.out
 go_wp2_with fail
 refine (co_element_a _ _ (HV.out.keepT (HB0.out.2.also X1.out))).mono ?_
 rintro e w2 ⟨rfl, o1⟩
 have X2 := hID (X1.out.also o1)
 clear o1 X1
 clear t0 t1 c0 c1 c2 c3 c4 c5 c6 c7
 obtain ⟨t0, t1, c0, c1, c2, c3, c4, c5, c6, c7⟩ := GC.out _ X2.out
 go_wp2_with fail
 rw [rounds_succ]
 clear t0 t1 c0 c1 c2 c3 c4 c5 c6 c7
 obtain ⟨t0, t1, c0, c1, c2, c3, c4, c5, c6, c7⟩ := GC.out _ X2.out
 go_wp2_with fail
 refine (co_choices_a _ _ (HV.out.keepT (HB0.out.2.also X2.out))).mono ?_
 rintro e w3 ⟨rfl, o1⟩
 have X3 := hID (X2.out.also o1)
 clear o1 X2
 clear t0 t1 c0 c1 c2 c3 c4 c5 c6 c7
 obtain ⟨t0, t1, c0, c1, c2, c3, c4, c5, c6, c7⟩ := GC.out _ X3.out
 go_wp2_with fail
 refine (co_lengths_a _ _ (HV.out.keepT (HB0.out.2.also X3.out))).mono ?_
 rintro e w4 ⟨v1, rfl, hr, o1⟩
 have X4 := hID (X3.out.also o1)
 have HT := hID hr
 obtain ⟨AA, cc, rfl, _⟩ := hr.form
 clear hr
 clear o1 X3
 clear t0 t1 c0 c1 c2 c3 c4 c5 c6 c7
 obtain ⟨t0, t1, c0, c1, c2, c3, c4, c5, c6, c7⟩ := GC.out _ X4.out
 go_wp2_with fail
 refine Calls.mono (R := RetV _ (.int .i64 2)) (co_sum1 2 (by decide) _ _ HT.out) ?_
 rintro e w5 ⟨rfl, o1⟩
 have X5 := hID (X4.out.also o1)
 clear HT
 clear o1 X4
 clear t0 t1 c0 c1 c2 c3 c4 c5 c6 c7
 obtain ⟨t0, t1, c0, c1, c2, c3, c4, c5, c6, c7⟩ := GC.out _ X5.out
 go_wp2_with fail
 go_ret2
 exact ⟨rfl, HB0.out.2.also X5.out⟩
set_option maxHeartbeats 2000000 in
theorem co_choices_b (w : World) (v : Value) (hv : Rd w (fun _ => True) 8 v 1 el_b) : Calls Tryz.prog 120 #[.agg #[.int .i64 9, v]] w (RetV w (.int .i64 1)) := by
 obtain ⟨b, o, c, rfl, hc⟩ := hv.cellsT (by decide)
 have HC := hID hc
 clear hc hv
 go_enter Tryz.func120, Tryz.ntmps120
 go_wp2_with fail
 have HB0 : Hid (Blk (w.alloc (.cells #[.int .i64 9, .slice (some ⟨b, o, none⟩) 1 c] 124)) w.heap.size 124 #[.int .i64 9, .slice (some ⟨b, o, none⟩) 1 c] ∧ Off Nob w (w.alloc (.cells #[.int .i64 9, .slice (some ⟨b, o, none⟩) 1 c] 124))) := hID ⟨Blk.new _ _ _, Off.alloc (Off.refl _ _) _⟩
 revert HB0
 generalize (w.alloc (.cells #[.int .i64 9, .slice (some ⟨b, o, none⟩) 1 c] 124)) = w0
 intro HB0
 have GC : Hid (∀ W, Off Nob w0 W → W.cell? ⟨w.heap.size, 0, none⟩ = some (.int .i64 9) ∧ W.cell? ⟨w.heap.size, 1, none⟩ = some (.slice (some ⟨b, o, none⟩) 1 c) ∧ W.cell? ⟨b, o, none⟩ = some (.int .i64 3) ∧ W.cell? ⟨b, o + 1, none⟩ = some (.string ⟨#[]⟩) ∧ W.cell? ⟨b, o + 2, none⟩ = some (.int .u64 0) ∧ W.cell? ⟨b, o + 3, none⟩ = some (.int .u64 25769803776) ∧ W.cell? ⟨b, o + 4, none⟩ = some (.int .u64 0) ∧ W.cell? ⟨b, o + 5, none⟩ = some (.int .u64 0) ∧ W.cell? ⟨b, o + 6, none⟩ = some (.int .i64 0) ∧ W.cell? ⟨b, o + 7, none⟩ = some (.int .i64 0)) := hID (fun W ho => by
  have h := HB0.out.1.to (ho.block _ HB0.out.1.lt (fun h => h))
  have k := HC.out W (HB0.out.2.also ho)
  exact ⟨h.cell 0, h.cell 1, k 0 _ rfl, k 1 _ rfl, k 2 _ rfl, k 3 _ rfl, k 4 _ rfl, k 5 _ rfl, k 6 _ rfl, k 7 _ rfl⟩)
 have X0 : Hid (Off Nob w0 w0) := hID (Off.refl _ _)
 obtain ⟨t0, t1, c0, c1, c2, c3, c4, c5, c6, c7⟩ := GC.out _ X0.out
 go_wp2_with fail
 refine wp_loop_rounds 2 ?_
 rw [rounds_succ]
 clear t0 t1 c0 c1 c2 c3 c4 c5 c6 c7
 obtain ⟨t0, t1, c0, c1, c2, c3, c4, c5, c6, c7⟩ := GC.out _ X0.out
 go_wp2_with fail
 rw [rounds_succ]
 clear t0 t1 c0 c1 c2 c3 c4 c5 c6 c7
 obtain ⟨t0, t1, c0, c1, c2, c3, c4, c5, c6, c7⟩ := GC.out _ X0.out
 go_wp2_with fail
 go_ret
 exact ⟨rfl, HB0.out.2.also X0.out⟩
set_option maxHeartbeats 4000000 in
theorem co_alone_b (w : World) (v : Value) (hv : Rd w (fun _ => True) 8 v 1 el_b) : Calls Tryz.prog 98 #[.agg #[.int .i64 9, v]] w (RetV w (.tuple #[.int .i64 0, .int .i64 0])) := by
 have HV0 := hID hv
 obtain ⟨b, o, c, rfl, hc⟩ := hv.cellsT (by decide)
 have HV := HV0
 have HC := hID hc
 clear hc hv HV0
 go_enter Tryz.func98, Tryz.ntmps98
 go_wp2_with fail
 have HL : Hid (Rd ((w.alloc (.cells #[.int .i64 9, .slice (some ⟨b, o, none⟩) 1 c] 124)).alloc (.cells #[.int .i64 9, .slice (some ⟨b, o, none⟩) 1 c] 124)) (fun _ => True) 2 (.slice (some ⟨w.heap.size + 1, 0, none⟩) 1 1) 1 [.int .i64 9, .slice (some ⟨b, o, none⟩) 1 c]) := hID (by have := Rd.newT (w.alloc (.cells #[.int .i64 9, .slice (some ⟨b, o, none⟩) 1 c] 124)) 124 [.int .i64 9, .slice (some ⟨b, o, none⟩) 1 c] 2 1 rfl (by decide); simpa using this)
 have HB0 : Hid (Blk ((w.alloc (.cells #[.int .i64 9, .slice (some ⟨b, o, none⟩) 1 c] 124)).alloc (.cells #[.int .i64 9, .slice (some ⟨b, o, none⟩) 1 c] 124)) w.heap.size 124 #[.int .i64 9, .slice (some ⟨b, o, none⟩) 1 c] ∧ Off Nob w ((w.alloc (.cells #[.int .i64 9, .slice (some ⟨b, o, none⟩) 1 c] 124)).alloc (.cells #[.int .i64 9, .slice (some ⟨b, o, none⟩) 1 c] 124))) := hID ⟨(Blk.new _ _ _).alloc _, Off.alloc (Off.alloc (Off.refl _ _) _) _⟩
 revert HB0 HL
 generalize ((w.alloc (.cells #[.int .i64 9, .slice (some ⟨b, o, none⟩) 1 c] 124)).alloc (.cells #[.int .i64 9, .slice (some ⟨b, o, none⟩) 1 c] 124)) = w0
 intro HL HB0
 have GC : Hid (∀ W, Off Nob w0 W → W.cell? ⟨w.heap.size, 0, none⟩ = some (.int .i64 9) ∧ W.cell? ⟨w.heap.size, 1, none⟩ = some (.slice (some ⟨b, o, none⟩) 1 c) ∧ W.cell? ⟨b, o, none⟩ = some (.int .i64 3) ∧ W.cell? ⟨b, o + 1, none⟩ = some (.string ⟨#[]⟩) ∧ W.cell? ⟨b, o + 2, none⟩ = some (.int .u64 0) ∧ W.cell? ⟨b, o + 3, none⟩ = some (.int .u64 25769803776) ∧ W.cell? ⟨b, o + 4, none⟩ = some (.int .u64 0) ∧ W.cell? ⟨b, o + 5, none⟩ = some (.int .u64 0) ∧ W.cell? ⟨b, o + 6, none⟩ = some (.int .i64 0) ∧ W.cell? ⟨b, o + 7, none⟩ = some (.int .i64 0)) := hID (fun W ho => by
  have h := HB0.out.1.to (ho.block _ HB0.out.1.lt (fun h => h))
  have k := HC.out W (HB0.out.2.also ho)
  exact ⟨h.cell 0, h.cell 1, k 0 _ rfl, k 1 _ rfl, k 2 _ rfl, k 3 _ rfl, k 4 _ rfl, k 5 _ rfl, k 6 _ rfl, k 7 _ rfl⟩)
 have X0 : Hid (Off Nob w0 w0) := hID (Off.refl _ _)
 obtain ⟨t0, t1, c0, c1, c2, c3, c4, c5, c6, c7⟩ := GC.out _ X0.out
 go_wp2_with fail
 refine (co_ck12_b _ _ _ HL.out (HV.out.keepT HB0.out.2)).mono ?_
 rintro e w1 ⟨rfl, o1⟩
 have X1 := hID (X0.out.also o1)
 clear HL
 clear o1 X0
 clear t0 t1 c0 c1 c2 c3 c4 c5 c6 c7
 obtain ⟨t0, t1, c0, c1, c2, c3, c4, c5, c6, c7⟩ := GC.out _ X1.out
 go_wp2_with fail
 refine wp_loop_rounds 2 ?_
 rw [rounds_succ]
 clear t0 t1 c0 c1 c2 c3 c4 c5 c6 c7
 obtain ⟨t0, t1, c0, c1, c2, c3, c4, c5, c6, c7⟩ := GC.out _ X1.out
 go_wp2_with fail
 refine (co_element_b _ _ (HV.out.keepT (HB0.out.2.also X1.out))).mono ?_
 rintro e w2 ⟨rfl, o1⟩
 have X2 := hID (X1.out.also o1)
 clear o1 X1
 clear t0 t1 c0 c1 c2 c3 c4 c5 c6 c7
 obtain ⟨t0, t1, c0, c1, c2, c3, c4, c5, c6, c7⟩ := GC.out _ X2.out
 go_wp2_with fail
 rw [rounds_succ]
 clear t0 t1 c0 c1 c2 c3 c4 c5 c6 c7
 obtain ⟨t0, t1, c0, c1, c2, c3, c4, c5, c6, c7⟩ := GC.out _ X2.out
 go_wp2_with fail
 refine (co_choices_b _ _ (HV.out.keepT (HB0.out.2.also X2.out))).mono ?_
 rintro e w3 ⟨rfl, o1⟩
 have X3 := hID (X2.out.also o1)
 clear o1 X2
 clear t0 t1 c0 c1 c2 c3 c4 c5 c6 c7
 obtain ⟨t0, t1, c0, c1, c2, c3, c4, c5, c6, c7⟩ := GC.out _ X3.out
 go_wp2_with fail
 refine (co_lengths_b _ _ (HV.out.keepT (HB0.out.2.also X3.out))).mono ?_
 rintro e w4 ⟨v1, rfl, hr, o1⟩
 have X4 := hID (X3.out.also o1)
 have HT := hID hr
 obtain ⟨AA, cc, rfl, _⟩ := hr.form
 clear hr
 clear o1 X3
 clear t0 t1 c0 c1 c2 c3 c4 c5 c6 c7
 obtain ⟨t0, t1, c0, c1, c2, c3, c4, c5, c6, c7⟩ := GC.out _ X4.out
 go_wp2_with fail
 refine Calls.mono (R := RetV _ (.int .i64 1)) (co_sum1 1 (by decide) _ _ HT.out) ?_
 rintro e w5 ⟨rfl, o1⟩
 have X5 := hID (X4.out.also o1)
 clear HT
 clear o1 X4
 clear t0 t1 c0 c1 c2 c3 c4 c5 c6 c7
 obtain ⟨t0, t1, c0, c1, c2, c3, c4, c5, c6, c7⟩ := GC.out _ X5.out
 go_wp2_with fail
 go_ret2
 exact ⟨rfl, HB0.out.2.also X5.out⟩
set_option maxHeartbeats 8000000 in
theorem co_ck13_ab (w : World) (v va vb : Value) (hv : Rd w (fun _ => True) 2 v 2 [.int .i64 5, va, .int .i64 9, vb]) (ha : Rd w (fun _ => True) 8 va 1 el_a) (hb : Rd w (fun _ => True) 8 vb 1 el_b) : Calls Tryz.prog 68 #[v] w (RetV w (.tuple #[.int .i64 0, .int .i64 0, .int .i64 0])) := by
 have HV := hID hv
 have Ha := hID ha
 have Hb := hID hb
 obtain ⟨b, o, c, rfl, hc⟩ := hv.cellsT (by decide)
 have HC := hID hc
 clear hc hv ha hb
 go_enter Tryz.func68, Tryz.ntmps68
 have GC : Hid (∀ W, Off Nob w W → W.cell? ⟨b, o, none⟩ = some (.int .i64 5) ∧ W.cell? ⟨b, o + 1, none⟩ = some (va) ∧ W.cell? ⟨b, o + 2, none⟩ = some (.int .i64 9) ∧ W.cell? ⟨b, o + 3, none⟩ = some (vb)) := hID (fun W ho => ⟨HC.out W ho 0 _ rfl, HC.out W ho 1 _ rfl, HC.out W ho 2 _ rfl, HC.out W ho 3 _ rfl⟩)
 have X0 : Hid (Off Nob w w) := hID (Off.refl _ _)
 obtain ⟨c0, c1, c2, c3⟩ := GC.out _ X0.out
 go_wp2_with fail
 refine (co_ck12_ab _ _ _ _ HV.out Ha.out Hb.out).mono ?_
 rintro e w1 ⟨rfl, o1⟩
 have X1 := hID (X0.out.also o1)
 clear o1 X0
 clear c0 c1 c2 c3
 obtain ⟨c0, c1, c2, c3⟩ := GC.out _ X1.out
 go_wp2_with fail
 refine wp_loop_rounds 3 ?_
 rw [rounds_succ]
 clear c0 c1 c2 c3
 obtain ⟨c0, c1, c2, c3⟩ := GC.out _ X1.out
 go_wp2_with fail
 refine (co_alone_a _ _ (Ha.out.keepT X1.out)).mono ?_
 rintro e w2 ⟨rfl, o1⟩
 have X2 := hID (X1.out.also o1)
 clear o1 X1
 clear c0 c1 c2 c3
 obtain ⟨c0, c1, c2, c3⟩ := GC.out _ X2.out
 go_wp2_with fail
 refine wp_loop_rounds 1 ?_
 rw [rounds_succ]
 clear c0 c1 c2 c3
 obtain ⟨c0, c1, c2, c3⟩ := GC.out _ X2.out
 go_wp2_with fail
 go_quiet (fail)
 have X3 := hID (X2.out.drewN nq)
 clear X2
 clear c0 c1 c2 c3
 generalize w2.drewN nq = w3 at *
 obtain ⟨c0, c1, c2, c3⟩ := GC.out _ X3.out
 go_wp2_with fail
 refine (co_lengths_a _ _ (Ha.out.keepT X3.out)).mono ?_
 rintro e w4 ⟨v1, rfl, hr, o1⟩
 have X4 := hID (X3.out.also o1)
 have HT := hID hr
 obtain ⟨AA, cc, rfl, _⟩ := hr.form
 clear hr
 clear o1 X3
 clear c0 c1 c2 c3
 obtain ⟨c0, c1, c2, c3⟩ := GC.out _ X4.out
 go_wp2_with fail
 refine Calls.mono (R := RetV _ (.int .i64 2)) (co_sum1 2 (by decide) _ _ HT.out) ?_
 rintro e w5 ⟨rfl, o1⟩
 have X5 := hID (X4.out.also o1)
 clear HT
 clear o1 X4
 clear c0 c1 c2 c3
 obtain ⟨c0, c1, c2, c3⟩ := GC.out _ X5.out
 go_wp2_with fail
 rw [rounds_succ]
 clear c0 c1 c2 c3
 obtain ⟨c0, c1, c2, c3⟩ := GC.out _ X5.out
 go_wp2_with fail
 refine (co_alone_b _ _ (Hb.out.keepT X5.out)).mono ?_
 rintro e w6 ⟨rfl, o1⟩
 have X6 := hID (X5.out.also o1)
 clear o1 X5
 clear c0 c1 c2 c3
 obtain ⟨c0, c1, c2, c3⟩ := GC.out _ X6.out
 go_wp2_with fail
 refine wp_loop_rounds 2 ?_
 rw [rounds_succ]
 clear c0 c1 c2 c3
 obtain ⟨c0, c1, c2, c3⟩ := GC.out _ X6.out
 go_wp2_with fail
 go_quiet (fail)
 have X7 := hID (X6.out.drewN nq)
 clear X6
 clear c0 c1 c2 c3
 generalize w6.drewN nq = w7 at *
 obtain ⟨c0, c1, c2, c3⟩ := GC.out _ X7.out
 go_wp2_with fail
 rw [rounds_succ]
 clear c0 c1 c2 c3
 obtain ⟨c0, c1, c2, c3⟩ := GC.out _ X7.out
 go_wp2_with fail
 go_quiet (fail)
 have X8 := hID (X7.out.drewN nq)
 clear X7
 clear c0 c1 c2 c3
 generalize w7.drewN nq = w8 at *
 obtain ⟨c0, c1, c2, c3⟩ := GC.out _ X8.out
 go_wp2_with fail
 refine (co_lengths_b _ _ (Hb.out.keepT X8.out)).mono ?_
 rintro e w9 ⟨v1, rfl, hr, o1⟩
 have X9 := hID (X8.out.also o1)
 have HT := hID hr
 obtain ⟨AA, cc, rfl, _⟩ := hr.form
 clear hr
 clear o1 X8
 clear c0 c1 c2 c3
 obtain ⟨c0, c1, c2, c3⟩ := GC.out _ X9.out
 go_wp2_with fail
 refine Calls.mono (R := RetV _ (.int .i64 1)) (co_sum1 1 (by decide) _ _ HT.out) ?_
 rintro e w10 ⟨rfl, o1⟩
 have X10 := hID (X9.out.also o1)
 clear HT
 clear o1 X9
 clear c0 c1 c2 c3
 obtain ⟨c0, c1, c2, c3⟩ := GC.out _ X10.out
 go_wp2_with fail
 rw [rounds_succ]
 clear c0 c1 c2 c3
 obtain ⟨c0, c1, c2, c3⟩ := GC.out _ X10.out
 go_wp2_with fail
 go_ret3
 exact ⟨rfl, X10.out⟩
end Go.Proofs.YtlgjaefcfnndhaaGreatDoor

namespace Go.Proofs.YtlgjaefcfnndhaaGreatDoor
open Go.RowKit
set_option maxRecDepth 100000
def pa_a : List Value := [.bool false, .int .u64 0, .int .u64 8589934592, .int .u64 0, .int .u64 0, .int .i64 0, .int .i64 0, .bool false, .int .u64 0, .int .u64 17179869184, .int .u64 0, .int .u64 0, .int .i64 0, .int .i64 0]
set_option maxHeartbeats 2000000 in
theorem co_pcheck_a (w : World) (v : Value) (hv : Rd w (fun _ => True) 7 v 2 pa_a) : Calls Tryz.prog 102 #[v] w (RetV w (.tuple #[.int .i64 0, .int .i64 0])) := by
 obtain ⟨b, o, c, rfl, hc⟩ := hv.cellsT (by decide)
 have GC : Hid (∀ W, Off Nob w W → W.cell? ⟨b, o, none⟩ = some (.bool false) ∧ W.cell? ⟨b, o + 1, none⟩ = some (.int .u64 0) ∧ W.cell? ⟨b, o + 2, none⟩ = some (.int .u64 8589934592) ∧ W.cell? ⟨b, o + 3, none⟩ = some (.int .u64 0) ∧ W.cell? ⟨b, o + 4, none⟩ = some (.int .u64 0) ∧ W.cell? ⟨b, o + 5, none⟩ = some (.int .i64 0) ∧ W.cell? ⟨b, o + 6, none⟩ = some (.int .i64 0) ∧ W.cell? ⟨b, o + 7, none⟩ = some (.bool false) ∧ W.cell? ⟨b, o + 8, none⟩ = some (.int .u64 0) ∧ W.cell? ⟨b, o + 9, none⟩ = some (.int .u64 17179869184) ∧ W.cell? ⟨b, o + 10, none⟩ = some (.int .u64 0) ∧ W.cell? ⟨b, o + 11, none⟩ = some (.int .u64 0) ∧ W.cell? ⟨b, o + 12, none⟩ = some (.int .i64 0) ∧ W.cell? ⟨b, o + 13, none⟩ = some (.int .i64 0)) := hID (fun W ho => ⟨hc W ho 0 _ rfl, hc W ho 1 _ rfl, hc W ho 2 _ rfl, hc W ho 3 _ rfl, hc W ho 4 _ rfl, hc W ho 5 _ rfl, hc W ho 6 _ rfl, hc W ho 7 _ rfl, hc W ho 8 _ rfl, hc W ho 9 _ rfl, hc W ho 10 _ rfl, hc W ho 11 _ rfl, hc W ho 12 _ rfl, hc W ho 13 _ rfl⟩)
 clear hc hv
 go_enter Tryz.func102, Tryz.ntmps102
 have X0 : Hid (Off Nob w w) := hID (Off.refl _ _)
 obtain ⟨c0, c1, c2, c3, c4, c5, c6, c7, c8, c9, c10, c11, c12, c13⟩ := GC.out _ X0.out
 go_wp2_with fail
 refine wp_loop_rounds 3 ?_
 rw [rounds_succ]
 clear c0 c1 c2 c3 c4 c5 c6 c7 c8 c9 c10 c11 c12 c13
 obtain ⟨c0, c1, c2, c3, c4, c5, c6, c7, c8, c9, c10, c11, c12, c13⟩ := GC.out _ X0.out
 go_wp2_with fail
 have X1 := hID (X0.out.alloc (.cells #[.bool false, .int .u64 0, .int .u64 8589934592, .int .u64 0, .int .u64 0, .int .i64 0, .int .i64 0] 160))
 clear X0
 clear c0 c1 c2 c3 c4 c5 c6 c7 c8 c9 c10 c11 c12 c13
 generalize w.alloc (.cells #[.bool false, .int .u64 0, .int .u64 8589934592, .int .u64 0, .int .u64 0, .int .i64 0, .int .i64 0] 160) = w1 at *
 rw [rounds_succ]
 obtain ⟨c0, c1, c2, c3, c4, c5, c6, c7, c8, c9, c10, c11, c12, c13⟩ := GC.out _ X1.out
 go_wp2_with fail
 have X2 := hID (X1.out.alloc (.cells #[.bool false, .int .u64 0, .int .u64 17179869184, .int .u64 0, .int .u64 0, .int .i64 0, .int .i64 0] 160))
 clear X1
 clear c0 c1 c2 c3 c4 c5 c6 c7 c8 c9 c10 c11 c12 c13
 generalize w1.alloc (.cells #[.bool false, .int .u64 0, .int .u64 17179869184, .int .u64 0, .int .u64 0, .int .i64 0, .int .i64 0] 160) = w2 at *
 rw [rounds_succ]
 obtain ⟨c0, c1, c2, c3, c4, c5, c6, c7, c8, c9, c10, c11, c12, c13⟩ := GC.out _ X2.out
 go_wp2_with fail
 go_ret2
 exact ⟨rfl, X2.out⟩
def pa_b : List Value := [.bool false, .int .u64 0, .int .u64 25769803776, .int .u64 0, .int .u64 0, .int .i64 0, .int .i64 0]
set_option maxHeartbeats 2000000 in
theorem co_pcheck_b (w : World) (v : Value) (hv : Rd w (fun _ => True) 7 v 1 pa_b) : Calls Tryz.prog 102 #[v] w (RetV w (.tuple #[.int .i64 0, .int .i64 0])) := by
 obtain ⟨b, o, c, rfl, hc⟩ := hv.cellsT (by decide)
 have GC : Hid (∀ W, Off Nob w W → W.cell? ⟨b, o, none⟩ = some (.bool false) ∧ W.cell? ⟨b, o + 1, none⟩ = some (.int .u64 0) ∧ W.cell? ⟨b, o + 2, none⟩ = some (.int .u64 25769803776) ∧ W.cell? ⟨b, o + 3, none⟩ = some (.int .u64 0) ∧ W.cell? ⟨b, o + 4, none⟩ = some (.int .u64 0) ∧ W.cell? ⟨b, o + 5, none⟩ = some (.int .i64 0) ∧ W.cell? ⟨b, o + 6, none⟩ = some (.int .i64 0)) := hID (fun W ho => ⟨hc W ho 0 _ rfl, hc W ho 1 _ rfl, hc W ho 2 _ rfl, hc W ho 3 _ rfl, hc W ho 4 _ rfl, hc W ho 5 _ rfl, hc W ho 6 _ rfl⟩)
 clear hc hv
 go_enter Tryz.func102, Tryz.ntmps102
 have X0 : Hid (Off Nob w w) := hID (Off.refl _ _)
 obtain ⟨c0, c1, c2, c3, c4, c5, c6⟩ := GC.out _ X0.out
 go_wp2_with fail
 refine wp_loop_rounds 2 ?_
 rw [rounds_succ]
 clear c0 c1 c2 c3 c4 c5 c6
 obtain ⟨c0, c1, c2, c3, c4, c5, c6⟩ := GC.out _ X0.out
 go_wp2_with fail
 have X1 := hID (X0.out.alloc (.cells #[.bool false, .int .u64 0, .int .u64 25769803776, .int .u64 0, .int .u64 0, .int .i64 0, .int .i64 0] 160))
 clear X0
 clear c0 c1 c2 c3 c4 c5 c6
 generalize w.alloc (.cells #[.bool false, .int .u64 0, .int .u64 25769803776, .int .u64 0, .int .u64 0, .int .i64 0, .int .i64 0] 160) = w1 at *
 rw [rounds_succ]
 obtain ⟨c0, c1, c2, c3, c4, c5, c6⟩ := GC.out _ X1.out
 go_wp2_with fail
 go_ret2
 exact ⟨rfl, X1.out⟩
theorem Tryz.infoPa : (Tryz.prog.info? 160).map (fun i => (i.zero, i.size, i.bytes)) = some (some (.agg #[.bool false, .int .u64 0, .int .u64 0, .int .u64 0, .int .u64 0, .int .i64 0, .int .i64 0]), 7, 56) := by kernel_rfl
set_option maxHeartbeats 8000000 in
theorem co_pof_a (w : World) (v : Value) (hv : Rd w (fun _ => True) 8 v 1 el_a) : Calls Tryz.prog 69 #[.agg #[.int .i64 5, v]] w (fun e w' => ∃ u, e = .returned (.tuple #[u, .int .i64 0]) ∧ Rd w' (fun k => w.heap.size ≤ k) 7 u 2 pa_a ∧ Off Nob w w') := by
 obtain ⟨i0, hi, hz0, hz1, hz2⟩ := info_parts Tryz.infoPa
 have hx0 : (⟨#[97, 98]⟩ : ByteArray)[0]'(by decide) = 97 := rfl
 have hx1 : (⟨#[97, 98]⟩ : ByteArray)[1]'(by decide) = 98 := rfl
 obtain ⟨b, o, c, rfl, hc⟩ := hv.cellsT (by decide)
 have HC := hID hc
 clear hc hv
 go_enter Tryz.func69, Tryz.ntmps69
 go_wp2_with fail
 have HB0 : Hid (Blk (w.alloc (.cells #[.int .i64 5, .slice (some ⟨b, o, none⟩) 1 c] 124)) w.heap.size 124 #[.int .i64 5, .slice (some ⟨b, o, none⟩) 1 c] ∧ Off Nob w (w.alloc (.cells #[.int .i64 5, .slice (some ⟨b, o, none⟩) 1 c] 124))) := hID ⟨Blk.new _ _ _, Off.alloc (Off.refl _ _) _⟩
 revert HB0
 generalize (w.alloc (.cells #[.int .i64 5, .slice (some ⟨b, o, none⟩) 1 c] 124)) = w0
 intro HB0
 refine wp_loop_rounds 2 ?_
 rw [rounds_succ]
 have t0 := HB0.out.1.cell 0
 have t1 := HB0.out.1.cell 1
 simp only [List.getElem?_toArray, List.getElem?_cons_succ, List.getElem?_cons_zero] at t0 t1
 have c0 := HC.out _ HB0.out.2 0 _ rfl
 have c1 := HC.out _ HB0.out.2 1 _ rfl
 have c2 := HC.out _ HB0.out.2 2 _ rfl
 have c3 := HC.out _ HB0.out.2 3 _ rfl
 have c4 := HC.out _ HB0.out.2 4 _ rfl
 have c5 := HC.out _ HB0.out.2 5 _ rfl
 have c6 := HC.out _ HB0.out.2 6 _ rfl
 have c7 := HC.out _ HB0.out.2 7 _ rfl
 simp only [Nat.add_zero] at c0
 go_wp2_with fail
 have GC : Hid (∀ W, Off Nob (w0.alloc (.cells #[.int .i64 1, .string ⟨#[97, 98]⟩, .int .u64 0, .int .u64 0, .int .u64 0, .int .u64 0, .int .i64 0, .int .i64 0] 126)) W → W.cell? ⟨w.heap.size, 0, none⟩ = some (.int .i64 5) ∧ W.cell? ⟨w.heap.size, 1, none⟩ = some (.slice (some ⟨b, o, none⟩) 1 c) ∧ W.cell? ⟨w0.heap.size, 0, none⟩ = some (.int .i64 1) ∧ W.cell? ⟨w0.heap.size, 1, none⟩ = some (.string ⟨#[97, 98]⟩)) := hID (fun W ho => by
  have h := (HB0.out.1.alloc (.cells #[.int .i64 1, .string ⟨#[97, 98]⟩, .int .u64 0, .int .u64 0, .int .u64 0, .int .u64 0, .int .i64 0, .int .i64 0] 126)).to (ho.block _ (HB0.out.1.alloc _).lt (fun h => h))
  have k := Blk.to (Blk.new w0 126 #[.int .i64 1, .string ⟨#[97, 98]⟩, .int .u64 0, .int .u64 0, .int .u64 0, .int .u64 0, .int .i64 0, .int .i64 0]) (ho.block _ (Blk.new w0 126 #[.int .i64 1, .string ⟨#[97, 98]⟩, .int .u64 0, .int .u64 0, .int .u64 0, .int .u64 0, .int .i64 0, .int .i64 0]).lt (fun h => h))
  exact ⟨h.cell 0, h.cell 1, k.cell 0, k.cell 1⟩)
 have Y1 : Hid (Off Nob w (w0.alloc (.cells #[.int .i64 1, .string ⟨#[97, 98]⟩, .int .u64 0, .int .u64 0, .int .u64 0, .int .u64 0, .int .i64 0, .int .i64 0] 126))) := hID (HB0.out.2.alloc _)
 clear t0 t1 c0 c1 c2 c3 c4 c5 c6 c7
 revert GC Y1
 generalize (w0.alloc (.cells #[.int .i64 1, .string ⟨#[97, 98]⟩, .int .u64 0, .int .u64 0, .int .u64 0, .int .u64 0, .int .i64 0, .int .i64 0] 126)) = w1
 intro GC Y1
 have X1 : Hid (Off Nob w1 w1) := hID (Off.refl _ _)
 refine wp_loop_rounds 3 ?_
 rw [rounds_succ]
 obtain ⟨t0, t1, x0, x1⟩ := GC.out _ X1.out
 go_wp2_with fail
 refine (co_of_a _ _ (Rd.newT w1 5 [.int .u8 97] 1 1 rfl (by decide))).mono ?_
 rintro e w2 ⟨rfl, o1⟩
 have X2 := hID ((X1.out.alloc (.cells #[.int .u8 97] 5)).also o1)
 have OW2 := hID (OwnL.nilAt (Y1.out.also X2.out) 160 7)
 clear o1 X1 t0 t1 x0 x1
 obtain ⟨t0, t1, x0, x1⟩ := GC.out _ (X2.out.alloc (.cells #[.int .u64 0, .int .u64 8589934592, .int .u64 0, .int .u64 0] 73))
 go_wp2_with (at_builtin; refine @wpList_append_lies _ _ _ _ _ _ _ rfl _ _ 54 rfl w.heap.size 160 i0 (.agg #[.bool false, .int .u64 0, .int .u64 0, .int .u64 0, .int .u64 0, .int .i64 0, .int .i64 0]) 7 56 Tryz.underlying54 hi hz0 hz1 hz2 rfl (by decide) (.slice none 0 0) 0 [] rfl ((OW2.out.off (Off.alloc (Off.refl Nob w2) (.cells #[.int .u64 0, .int .u64 8589934592, .int .u64 0, .int .u64 0] 73))).1.alloc _) ⟨w2.heap.size + 1, 0, none⟩ 1 1 [.bool false, .int .u64 0, .int .u64 8589934592, .int .u64 0, .int .u64 0, .int .i64 0, .int .i64 0] rfl rfl ?c1 (by decide) (by decide) (by decide) (by decide) (by have := OW2.out.2.size; simp; omega) _ rfl ?_)
 case c1 =>
  intro j u hj
  have := cell_lit (w2.alloc (.cells #[.int .u64 0, .int .u64 8589934592, .int .u64 0, .int .u64 0] 73)) [.bool false, .int .u64 0, .int .u64 8589934592, .int .u64 0, .int .u64 0, .int .i64 0, .int .i64 0] 160 j u hj
  simpa using this
 intro g1 cap1 w3 hown hgrow hat hlt
 have OW3 := hID ((OW2.out.off (Off.alloc (Off.refl Nob w2) (.cells #[.int .u64 0, .int .u64 8589934592, .int .u64 0, .int .u64 0] 73))).grown (Off.alloc (Off.refl _ _) (.cells #[.bool false, .int .u64 0, .int .u64 8589934592, .int .u64 0, .int .u64 0, .int .i64 0, .int .i64 0] 160)) hown hgrow)
 have X3 : Hid (Off Nob w1 w3) := hID ((X2.out.alloc (.cells #[.int .u64 0, .int .u64 8589934592, .int .u64 0, .int .u64 0] 73)).alloc (.cells #[.bool false, .int .u64 0, .int .u64 8589934592, .int .u64 0, .int .u64 0, .int .i64 0, .int .i64 0] 160) |>.grown hgrow (fun k hk => by cases hk))
 have KG : Hid (w1.heap.size ≤ g1) := hID (by
  rcases hat with h | h
  ·cases h
  ·have := X2.out.size
   rw [h]; simp; omega)
 clear hown hgrow hat hlt X2 OW2 t0 t1 x0 x1
 obtain ⟨t0, t1, x0, x1⟩ := GC.out _ X3.out
 go_wp2_with fail
 rw [rounds_succ]
 go_wp2_with fail
 refine (co_of_b _ _ (Rd.newT w3 5 [.int .u8 98] 1 1 rfl (by decide))).mono ?_
 rintro e w4 ⟨rfl, o1⟩
 have X4 := hID ((X3.out.alloc (.cells #[.int .u8 98] 5)).also o1)
 have OW4 := hID ((OW3.out.off (Off.alloc (Off.refl Nob w3) (.cells #[.int .u8 98] 5))).off o1)
 clear o1 X3 OW3 t0 t1 x0 x1
 obtain ⟨t0, t1, x0, x1⟩ := GC.out _ (X4.out.alloc (.cells #[.int .u64 0, .int .u64 17179869184, .int .u64 0, .int .u64 0] 73))
 go_wp2_with (at_builtin; refine @wpList_append_lies _ _ _ _ _ _ _ rfl _ _ 54 rfl w.heap.size 160 i0 (.agg #[.bool false, .int .u64 0, .int .u64 0, .int .u64 0, .int .u64 0, .int .i64 0, .int .i64 0]) 7 56 Tryz.underlying54 hi hz0 hz1 hz2 rfl (by decide) (.slice (some ⟨g1, 0, none⟩) (0 + 1) cap1) (0 + 1) ([] ++ [.bool false, .int .u64 0, .int .u64 8589934592, .int .u64 0, .int .u64 0, .int .i64 0, .int .i64 0]) rfl ((OW4.out.off (Off.alloc (Off.refl Nob w4) (.cells #[.int .u64 0, .int .u64 17179869184, .int .u64 0, .int .u64 0] 73))).1.alloc _) ⟨w4.heap.size + 1, 0, none⟩ 1 1 [.bool false, .int .u64 0, .int .u64 17179869184, .int .u64 0, .int .u64 0, .int .i64 0, .int .i64 0] rfl rfl ?c1 (by decide) (by decide) (by decide) (by decide) (by have := OW4.out.2.size; simp; omega) _ rfl ?_)
 case c1 =>
  intro j u hj
  have := cell_lit (w4.alloc (.cells #[.int .u64 0, .int .u64 17179869184, .int .u64 0, .int .u64 0] 73)) [.bool false, .int .u64 0, .int .u64 17179869184, .int .u64 0, .int .u64 0, .int .i64 0, .int .i64 0] 160 j u hj
  simpa using this
 intro g2 cap2 w5 hown hgrow hat hlt
 have OW5 := hID ((OW4.out.off (Off.alloc (Off.refl Nob w4) (.cells #[.int .u64 0, .int .u64 17179869184, .int .u64 0, .int .u64 0] 73))).grown (Off.alloc (Off.refl _ _) (.cells #[.bool false, .int .u64 0, .int .u64 17179869184, .int .u64 0, .int .u64 0, .int .i64 0, .int .i64 0] 160)) hown hgrow)
 have X5 : Hid (Off Nob w1 w5) := hID ((X4.out.alloc (.cells #[.int .u64 0, .int .u64 17179869184, .int .u64 0, .int .u64 0] 73)).alloc (.cells #[.bool false, .int .u64 0, .int .u64 17179869184, .int .u64 0, .int .u64 0, .int .i64 0, .int .i64 0] 160) |>.grown hgrow (fun k hk => .inr (by injection hk with hk; rw [← hk]; exact KG.out)))
 clear hown hgrow hat hlt X4 OW4 t0 t1 x0 x1
 obtain ⟨t0, t1, x0, x1⟩ := GC.out _ X5.out
 go_wp2_with fail
 rw [rounds_succ]
 go_wp2_with fail
 rw [rounds_succ]
 go_wp2_with fail
 refine (co_pcheck_a _ _ (show Rd w5 (fun _ => True) 7 _ 2 pa_a from OW5.out.rd)).mono ?_
 rintro e w6 ⟨rfl, o1⟩
 have OW6 := hID (OW5.out.off o1)
 clear o1
 go_wp2_with fail
 go_ret2
 exact ⟨_, rfl, Rd.own OW6.out.1 (fun k hk => (OW6.out.1.lt k hk).1), OW6.out.2⟩
set_option maxHeartbeats 8000000 in
theorem co_pof_b (w : World) (v : Value) (hv : Rd w (fun _ => True) 8 v 1 el_b) : Calls Tryz.prog 69 #[.agg #[.int .i64 9, v]] w (fun e w' => ∃ u, e = .returned (.tuple #[u, .int .i64 0]) ∧ Rd w' (fun k => w.heap.size ≤ k) 7 u 1 pa_b ∧ Off Nob w w') := by
 obtain ⟨i0, hi, hz0, hz1, hz2⟩ := info_parts Tryz.infoPa
 have hx0 : (⟨#[97, 98]⟩ : ByteArray)[0]'(by decide) = 97 := rfl
 have hx1 : (⟨#[97, 98]⟩ : ByteArray)[1]'(by decide) = 98 := rfl
 obtain ⟨b, o, c, rfl, hc⟩ := hv.cellsT (by decide)
 have HC := hID hc
 clear hc hv
 go_enter Tryz.func69, Tryz.ntmps69
 go_wp2_with fail
 have HB0 : Hid (Blk (w.alloc (.cells #[.int .i64 9, .slice (some ⟨b, o, none⟩) 1 c] 124)) w.heap.size 124 #[.int .i64 9, .slice (some ⟨b, o, none⟩) 1 c] ∧ Off Nob w (w.alloc (.cells #[.int .i64 9, .slice (some ⟨b, o, none⟩) 1 c] 124))) := hID ⟨Blk.new _ _ _, Off.alloc (Off.refl _ _) _⟩
 revert HB0
 generalize (w.alloc (.cells #[.int .i64 9, .slice (some ⟨b, o, none⟩) 1 c] 124)) = w0
 intro HB0
 refine wp_loop_rounds 2 ?_
 rw [rounds_succ]
 have t0 := HB0.out.1.cell 0
 have t1 := HB0.out.1.cell 1
 simp only [List.getElem?_toArray, List.getElem?_cons_succ, List.getElem?_cons_zero] at t0 t1
 have c0 := HC.out _ HB0.out.2 0 _ rfl
 have c1 := HC.out _ HB0.out.2 1 _ rfl
 have c2 := HC.out _ HB0.out.2 2 _ rfl
 have c3 := HC.out _ HB0.out.2 3 _ rfl
 have c4 := HC.out _ HB0.out.2 4 _ rfl
 have c5 := HC.out _ HB0.out.2 5 _ rfl
 have c6 := HC.out _ HB0.out.2 6 _ rfl
 have c7 := HC.out _ HB0.out.2 7 _ rfl
 simp only [Nat.add_zero] at c0
 go_wp2_with (at_builtin; refine @wpList_append_lies _ _ _ _ _ _ _ rfl _ _ 54 rfl w.heap.size 160 i0 (.agg #[.bool false, .int .u64 0, .int .u64 0, .int .u64 0, .int .u64 0, .int .i64 0, .int .i64 0]) 7 56 Tryz.underlying54 hi hz0 hz1 hz2 rfl (by decide) (.slice none 0 0) 0 [] rfl (((OwnL.nilAt HB0.out.2 160 7).off (Off.alloc (Off.refl Nob w0) (.cells #[.int .i64 3, .string ⟨#[]⟩, .int .u64 0, .int .u64 25769803776, .int .u64 0, .int .u64 0, .int .i64 0, .int .i64 0] 126))).1.alloc _) ⟨w0.heap.size + 1, 0, none⟩ 1 1 [.bool false, .int .u64 0, .int .u64 25769803776, .int .u64 0, .int .u64 0, .int .i64 0, .int .i64 0] rfl rfl ?c1 (by decide) (by decide) (by decide) (by decide) (by have := (OwnL.nilAt HB0.out.2 160 7).2.size; simp; omega) _ rfl ?_)
 case c1 =>
  intro j u hj
  have := cell_lit (w0.alloc (.cells #[.int .i64 3, .string ⟨#[]⟩, .int .u64 0, .int .u64 25769803776, .int .u64 0, .int .u64 0, .int .i64 0, .int .i64 0] 126)) [.bool false, .int .u64 0, .int .u64 25769803776, .int .u64 0, .int .u64 0, .int .i64 0, .int .i64 0] 160 j u hj
  simpa using this
 intro g1 cap1 w3 hown hgrow hat hlt
 have OW3 := hID (((OwnL.nilAt HB0.out.2 160 7).off (Off.alloc (Off.refl Nob w0) (.cells #[.int .i64 3, .string ⟨#[]⟩, .int .u64 0, .int .u64 25769803776, .int .u64 0, .int .u64 0, .int .i64 0, .int .i64 0] 126))).grown (Off.alloc (Off.refl _ _) (.cells #[.bool false, .int .u64 0, .int .u64 25769803776, .int .u64 0, .int .u64 0, .int .i64 0, .int .i64 0] 160)) hown hgrow)
 have X3 : Hid (Off Nob w0 w3) := hID (Off.grown (Off.alloc (Off.alloc (Off.refl _ _) _) _) hgrow (fun k hk => by cases hk))
 have HB3 := hID (HB0.out.1.to (X3.out.block _ HB0.out.1.lt (fun h => h)))
 clear hown hgrow hat hlt t0 t1 c0 c1 c2 c3 c4 c5 c6 c7
 have t0 := HB3.out.cell 0
 have t1 := HB3.out.cell 1
 simp only [List.getElem?_toArray, List.getElem?_cons_succ, List.getElem?_cons_zero] at t0 t1
 go_wp2_with fail
 rw [rounds_succ]
 go_wp2_with fail
 refine (co_pcheck_b _ _ (show Rd w3 (fun _ => True) 7 _ 1 pa_b from OW3.out.rd)).mono ?_
 rintro e w6 ⟨rfl, o1⟩
 have OW6 := hID (OW3.out.off o1)
 clear o1
 go_wp2_with fail
 go_ret2
 exact ⟨_, rfl, Rd.own OW6.out.1 (fun k hk => (OW6.out.1.lt k hk).1), OW6.out.2⟩
end Go.Proofs.YtlgjaefcfnndhaaGreatDoor

namespace Go.Proofs.YtlgjaefcfnndhaaGreatDoor
open Go.RowKit
set_option maxRecDepth 100000
theorem Tryz.infoIs : (Tryz.prog.info? 22).map (fun i => (i.zero, i.size, i.bytes)) = some (some (.slice none 0 0), 1, 24) := by kernel_rfl
theorem Tryz.infoCl4 : (Tryz.prog.info? 73).map (fun i => (i.zero, i.size, i.bytes)) = some (some (.agg #[.int .u64 0, .int .u64 0, .int .u64 0, .int .u64 0]), 4, 32) := by kernel_rfl
theorem Tryz.infoLn : (Tryz.prog.info? 65).map (fun i => (i.zero, i.size, i.bytes)) = some (some (.slice none 0 0), 1, 24) := by kernel_rfl
def se_a : List Value := [.int .u64 0, .int .u64 8589934592, .int .u64 0, .int .u64 0, .int .u64 0, .int .u64 17179869184, .int .u64 0, .int .u64 0]
def se_b : List Value := [.int .u64 0, .int .u64 25769803776, .int .u64 0, .int .u64 0]
theorem co_sum0 (w : World) (A : Option Addr) (c : Nat) : Calls Tryz.prog 115 #[.slice A 0 c] w (RetV w (.int .i64 0)) := by
 go_enter Tryz.func115, Tryz.ntmps115
 go_wp2_with fail
 refine wp_loop_rounds 1 ?_
 rw [rounds_succ]
 go_wp2_with fail
 go_ret
 exact ⟨rfl, Off.refl _ _⟩
set_option maxHeartbeats 4000000 in
theorem co_gaps_a (w : World) (v : Value) (hv : Rd w (fun _ => True) 7 v 2 pa_a) : Calls Tryz.prog 113 #[v] w (RetV w (.slice none 0 0)) := by
 have HV0 := hID hv
 obtain ⟨b, o, c, rfl, hc⟩ := hv.cellsT (by decide)
 have HV := HV0
 have GC : Hid (∀ W, Off Nob w W → W.cell? ⟨b, o, none⟩ = some (.bool false) ∧ W.cell? ⟨b, o + 1, none⟩ = some (.int .u64 0) ∧ W.cell? ⟨b, o + 2, none⟩ = some (.int .u64 8589934592) ∧ W.cell? ⟨b, o + 3, none⟩ = some (.int .u64 0) ∧ W.cell? ⟨b, o + 4, none⟩ = some (.int .u64 0) ∧ W.cell? ⟨b, o + 5, none⟩ = some (.int .i64 0) ∧ W.cell? ⟨b, o + 6, none⟩ = some (.int .i64 0) ∧ W.cell? ⟨b, o + 7, none⟩ = some (.bool false) ∧ W.cell? ⟨b, o + 8, none⟩ = some (.int .u64 0) ∧ W.cell? ⟨b, o + 9, none⟩ = some (.int .u64 17179869184) ∧ W.cell? ⟨b, o + 10, none⟩ = some (.int .u64 0) ∧ W.cell? ⟨b, o + 11, none⟩ = some (.int .u64 0) ∧ W.cell? ⟨b, o + 12, none⟩ = some (.int .i64 0) ∧ W.cell? ⟨b, o + 13, none⟩ = some (.int .i64 0)) := hID (fun W ho => ⟨hc W ho 0 _ rfl, hc W ho 1 _ rfl, hc W ho 2 _ rfl, hc W ho 3 _ rfl, hc W ho 4 _ rfl, hc W ho 5 _ rfl, hc W ho 6 _ rfl, hc W ho 7 _ rfl, hc W ho 8 _ rfl, hc W ho 9 _ rfl, hc W ho 10 _ rfl, hc W ho 11 _ rfl, hc W ho 12 _ rfl, hc W ho 13 _ rfl⟩)
 clear hc hv HV0
 go_enter Tryz.func113, Tryz.ntmps113
 have X0 : Hid (Off Nob w w) := hID (Off.refl _ _)
 obtain ⟨c0, c1, c2, c3, c4, c5, c6, c7, c8, c9, c10, c11, c12, c13⟩ := GC.out _ X0.out
 go_wp2_with fail
 refine wp_loop_rounds 3 ?_
 rw [rounds_succ]
 clear c0 c1 c2 c3 c4 c5 c6 c7 c8 c9 c10 c11 c12 c13
 obtain ⟨c0, c1, c2, c3, c4, c5, c6, c7, c8, c9, c10, c11, c12, c13⟩ := GC.out _ X0.out
 go_wp2_with fail
 rw [rounds_succ]
 clear c0 c1 c2 c3 c4 c5 c6 c7 c8 c9 c10 c11 c12 c13
 obtain ⟨c0, c1, c2, c3, c4, c5, c6, c7, c8, c9, c10, c11, c12, c13⟩ := GC.out _ X0.out
 go_wp2_with fail
 rw [rounds_succ]
 clear c0 c1 c2 c3 c4 c5 c6 c7 c8 c9 c10 c11 c12 c13
 obtain ⟨c0, c1, c2, c3, c4, c5, c6, c7, c8, c9, c10, c11, c12, c13⟩ := GC.out _ X0.out
 go_wp2_with fail
 go_ret
 exact ⟨rfl, X0.out⟩
set_option maxHeartbeats 4000000 in
theorem co_count15_a (w : World) (v : Value) (hv : Rd w (fun _ => True) 7 v 2 pa_a) : Calls Tryz.prog 112 #[v] w (RetV w (.tuple #[.int .i64 1, .int .i64 0])) := by
 have HV0 := hID hv
 obtain ⟨b, o, c, rfl, hc⟩ := hv.cellsT (by decide)
 have HV := HV0
 have GC : Hid (∀ W, Off Nob w W → W.cell? ⟨b, o, none⟩ = some (.bool false) ∧ W.cell? ⟨b, o + 1, none⟩ = some (.int .u64 0) ∧ W.cell? ⟨b, o + 2, none⟩ = some (.int .u64 8589934592) ∧ W.cell? ⟨b, o + 3, none⟩ = some (.int .u64 0) ∧ W.cell? ⟨b, o + 4, none⟩ = some (.int .u64 0) ∧ W.cell? ⟨b, o + 5, none⟩ = some (.int .i64 0) ∧ W.cell? ⟨b, o + 6, none⟩ = some (.int .i64 0) ∧ W.cell? ⟨b, o + 7, none⟩ = some (.bool false) ∧ W.cell? ⟨b, o + 8, none⟩ = some (.int .u64 0) ∧ W.cell? ⟨b, o + 9, none⟩ = some (.int .u64 17179869184) ∧ W.cell? ⟨b, o + 10, none⟩ = some (.int .u64 0) ∧ W.cell? ⟨b, o + 11, none⟩ = some (.int .u64 0) ∧ W.cell? ⟨b, o + 12, none⟩ = some (.int .i64 0) ∧ W.cell? ⟨b, o + 13, none⟩ = some (.int .i64 0)) := hID (fun W ho => ⟨hc W ho 0 _ rfl, hc W ho 1 _ rfl, hc W ho 2 _ rfl, hc W ho 3 _ rfl, hc W ho 4 _ rfl, hc W ho 5 _ rfl, hc W ho 6 _ rfl, hc W ho 7 _ rfl, hc W ho 8 _ rfl, hc W ho 9 _ rfl, hc W ho 10 _ rfl, hc W ho 11 _ rfl, hc W ho 12 _ rfl, hc W ho 13 _ rfl⟩)
 clear hc hv HV0
 go_enter Tryz.func112, Tryz.ntmps112
 have X0 : Hid (Off Nob w w) := hID (Off.refl _ _)
 obtain ⟨c0, c1, c2, c3, c4, c5, c6, c7, c8, c9, c10, c11, c12, c13⟩ := GC.out _ X0.out
 go_wp2_with fail
 refine (co_pcheck_a _ _ HV.out).mono ?_
 rintro e w1 ⟨rfl, o1⟩
 have X1 := hID (X0.out.also o1)
 clear o1 X0
 clear c0 c1 c2 c3 c4 c5 c6 c7 c8 c9 c10 c11 c12 c13
 obtain ⟨c0, c1, c2, c3, c4, c5, c6, c7, c8, c9, c10, c11, c12, c13⟩ := GC.out _ X1.out
 go_wp2_with fail
 refine (co_gaps_a _ _ (HV.out.keepT X1.out)).mono ?_
 rintro e w2 ⟨rfl, o1⟩
 have X2 := hID (X1.out.also o1)
 clear o1 X1
 clear c0 c1 c2 c3 c4 c5 c6 c7 c8 c9 c10 c11 c12 c13
 obtain ⟨c0, c1, c2, c3, c4, c5, c6, c7, c8, c9, c10, c11, c12, c13⟩ := GC.out _ X2.out
 go_wp2_with fail
 refine wp_loop_rounds 1 ?_
 rw [rounds_succ]
 clear c0 c1 c2 c3 c4 c5 c6 c7 c8 c9 c10 c11 c12 c13
 obtain ⟨c0, c1, c2, c3, c4, c5, c6, c7, c8, c9, c10, c11, c12, c13⟩ := GC.out _ X2.out
 go_wp2_with fail
 go_ret2
 exact ⟨rfl, X2.out⟩
set_option maxHeartbeats 4000000 in
theorem co_choices15_a (w : World) (v : Value) (hv : Rd w (fun _ => True) 7 v 2 pa_a) : Calls Tryz.prog 114 #[v] w (fun e w' => ∃ u A c, e = .returned u ∧ Rd w' (fun _ => True) 1 u 1 [.slice A 0 c] ∧ Off Nob w w') := by
 have HV0 := hID hv
 obtain ⟨b, o, c, rfl, hc⟩ := hv.cellsT (by decide)
 have HV := HV0
 have GC : Hid (∀ W, Off Nob w W → W.cell? ⟨b, o, none⟩ = some (.bool false) ∧ W.cell? ⟨b, o + 1, none⟩ = some (.int .u64 0) ∧ W.cell? ⟨b, o + 2, none⟩ = some (.int .u64 8589934592) ∧ W.cell? ⟨b, o + 3, none⟩ = some (.int .u64 0) ∧ W.cell? ⟨b, o + 4, none⟩ = some (.int .u64 0) ∧ W.cell? ⟨b, o + 5, none⟩ = some (.int .i64 0) ∧ W.cell? ⟨b, o + 6, none⟩ = some (.int .i64 0) ∧ W.cell? ⟨b, o + 7, none⟩ = some (.bool false) ∧ W.cell? ⟨b, o + 8, none⟩ = some (.int .u64 0) ∧ W.cell? ⟨b, o + 9, none⟩ = some (.int .u64 17179869184) ∧ W.cell? ⟨b, o + 10, none⟩ = some (.int .u64 0) ∧ W.cell? ⟨b, o + 11, none⟩ = some (.int .u64 0) ∧ W.cell? ⟨b, o + 12, none⟩ = some (.int .i64 0) ∧ W.cell? ⟨b, o + 13, none⟩ = some (.int .i64 0)) := hID (fun W ho => ⟨hc W ho 0 _ rfl, hc W ho 1 _ rfl, hc W ho 2 _ rfl, hc W ho 3 _ rfl, hc W ho 4 _ rfl, hc W ho 5 _ rfl, hc W ho 6 _ rfl, hc W ho 7 _ rfl, hc W ho 8 _ rfl, hc W ho 9 _ rfl, hc W ho 10 _ rfl, hc W ho 11 _ rfl, hc W ho 12 _ rfl, hc W ho 13 _ rfl⟩)
 clear hc hv HV0
 obtain ⟨i_ints, h_ints, z_ints, s_ints, b_ints⟩ := info_parts Tryz.infoIs
 go_enter Tryz.func114, Tryz.ntmps114
 have X0 : Hid (Off Nob w w) := hID (Off.refl _ _)
 obtain ⟨c0, c1, c2, c3, c4, c5, c6, c7, c8, c9, c10, c11, c12, c13⟩ := GC.out _ X0.out
 go_wp2_with fail
 have X1 : Hid (Off Nob w ((w.alloc (.cells #[] 3)).alloc (.cells #[.slice (some ⟨w.heap.size, 0, none⟩) 0 0] 22))) := hID (Off.alloc (Off.alloc (Off.refl _ _) _) _)
 have B1 : Hid (Blk ((w.alloc (.cells #[] 3)).alloc (.cells #[.slice (some ⟨w.heap.size, 0, none⟩) 0 0] 22)) (w.heap.size + 1) 22 #[.slice (some ⟨w.heap.size, 0, none⟩) 0 0]) := hID (blk_second _ _ _ _)
 clear X0
 revert X1 B1
 generalize ((w.alloc (.cells #[] 3)).alloc (.cells #[.slice (some ⟨w.heap.size, 0, none⟩) 0 0] 22)) = w1
 intro X1 B1
 have GA : Hid (∀ W, Off Nob w1 W → W.cell? ⟨w.heap.size + 1, 0, none⟩ = some (.slice (some ⟨w.heap.size, 0, none⟩) 0 0)) := hID (fun W ho => (B1.out.to (ho.block _ B1.out.lt (fun h => h))).cell 0)
 have Y1 : Hid (Off Nob w1 w1) := hID (Off.refl _ _)
 clear c0 c1 c2 c3 c4 c5 c6 c7 c8 c9 c10 c11 c12 c13
 obtain ⟨c0, c1, c2, c3, c4, c5, c6, c7, c8, c9, c10, c11, c12, c13⟩ := GC.out _ X1.out
 go_wp2_with fail
 refine (co_gaps_a _ _ (HV.out.keepT X1.out)).mono ?_
 rintro e w2 ⟨rfl, o1⟩
 have X2 := hID (X1.out.also o1)
 have Y2 := hID (Y1.out.also o1)
 clear Y1
 clear o1 X1
 clear c0 c1 c2 c3 c4 c5 c6 c7 c8 c9 c10 c11 c12 c13
 have d0 := GA.out _ Y2.out
 go_wp2_with fail
 refine wp_loop_rounds 1 ?_
 rw [rounds_succ]
 go_wp2_with fail
 refine wp_loop_rounds 2 ?_
 rw [rounds_succ]
 go_wp2_with fail
 refine wp_loop_rounds 2 ?_
 rw [rounds_succ]
 go_wp2_with fail
 go_quiet (fail)
 have X3 := hID (X2.out.drewN nq)
 have Y3 := hID (Y2.out.drewN nq)
 clear X2 Y2 d0
 generalize w2.drewN nq = w3 at *
 have d0 := GA.out _ Y3.out
 go_wp2_with fail
 go_quiet (fail)
 have X4 := hID (X3.out.drewN nq)
 have Y4 := hID (Y3.out.drewN nq)
 clear X3 Y3 d0
 generalize w3.drewN nq = w4 at *
 have d0 := GA.out _ Y4.out
 go_wp2_with fail
 rw [rounds_succ]
 go_wp2_with (at_builtin; refine @wpList_append_lies _ _ _ _ _ _ _ rfl _ _ 148 rfl w.heap.size 22 i_ints (.slice none 0 0) 1 24 Tryz.underlying148 h_ints z_ints s_ints b_ints rfl (by decide) (.slice none 0 0) (0) ([]) rfl ((OwnL.nilAt X4.out 22 1).1.alloc _) ⟨w4.heap.size, 0, none⟩ 1 1 [.slice (some ⟨w.heap.size, 0, none⟩) 0 0] rfl rfl ?c1 (by intro u hu; simp at hu; subst hu; rfl) (by decide) (by decide) (by decide) (by have := (OwnL.nilAt X4.out 22 1).2.size; simp; omega) _ rfl ?_)
 case c1 => exact cell_lit _ [.slice (some ⟨w.heap.size, 0, none⟩) 0 0] _
 intro g5 cap5 w5 hown hgrow hat hlt
 have OW5 := hID ((OwnL.nilAt X4.out 22 1).grown (Off.alloc (Off.refl Nob w4) (.cells #[.slice (some ⟨w.heap.size, 0, none⟩) 0 0] 22)) hown hgrow)
 have X5 := hID OW5.out.2
 clear hown hgrow hat hlt X4
 clear d0 Y4
 go_wp2_with fail
 rw [rounds_succ]
 go_wp2_with fail
 go_ret
 exact ⟨_, _, _, rfl, OW5.out.rd, OW5.out.2⟩
set_option maxHeartbeats 4000000 in
theorem co_positions_a (w : World) (v : Value) (hv : Rd w (fun _ => True) 7 v 2 pa_a) : Calls Tryz.prog 88 #[v] w (RetV w (.tuple #[.int .i64 2, .int .i64 0])) := by
 have HV0 := hID hv
 obtain ⟨b, o, c, rfl, hc⟩ := hv.cellsT (by decide)
 have HV := HV0
 have GC : Hid (∀ W, Off Nob w W → W.cell? ⟨b, o, none⟩ = some (.bool false) ∧ W.cell? ⟨b, o + 1, none⟩ = some (.int .u64 0) ∧ W.cell? ⟨b, o + 2, none⟩ = some (.int .u64 8589934592) ∧ W.cell? ⟨b, o + 3, none⟩ = some (.int .u64 0) ∧ W.cell? ⟨b, o + 4, none⟩ = some (.int .u64 0) ∧ W.cell? ⟨b, o + 5, none⟩ = some (.int .i64 0) ∧ W.cell? ⟨b, o + 6, none⟩ = some (.int .i64 0) ∧ W.cell? ⟨b, o + 7, none⟩ = some (.bool false) ∧ W.cell? ⟨b, o + 8, none⟩ = some (.int .u64 0) ∧ W.cell? ⟨b, o + 9, none⟩ = some (.int .u64 17179869184) ∧ W.cell? ⟨b, o + 10, none⟩ = some (.int .u64 0) ∧ W.cell? ⟨b, o + 11, none⟩ = some (.int .u64 0) ∧ W.cell? ⟨b, o + 12, none⟩ = some (.int .i64 0) ∧ W.cell? ⟨b, o + 13, none⟩ = some (.int .i64 0)) := hID (fun W ho => ⟨hc W ho 0 _ rfl, hc W ho 1 _ rfl, hc W ho 2 _ rfl, hc W ho 3 _ rfl, hc W ho 4 _ rfl, hc W ho 5 _ rfl, hc W ho 6 _ rfl, hc W ho 7 _ rfl, hc W ho 8 _ rfl, hc W ho 9 _ rfl, hc W ho 10 _ rfl, hc W ho 11 _ rfl, hc W ho 12 _ rfl, hc W ho 13 _ rfl⟩)
 clear hc hv HV0
 go_enter Tryz.func88, Tryz.ntmps88
 have X0 : Hid (Off Nob w w) := hID (Off.refl _ _)
 obtain ⟨c0, c1, c2, c3, c4, c5, c6, c7, c8, c9, c10, c11, c12, c13⟩ := GC.out _ X0.out
 go_wp2_with fail
 refine (co_count15_a _ _ HV.out).mono ?_
 rintro e w1 ⟨rfl, o1⟩
 have X1 := hID (X0.out.also o1)
 clear o1 X0
 clear c0 c1 c2 c3 c4 c5 c6 c7 c8 c9 c10 c11 c12 c13
 obtain ⟨c0, c1, c2, c3, c4, c5, c6, c7, c8, c9, c10, c11, c12, c13⟩ := GC.out _ X1.out
 go_wp2_with fail
 refine (co_gaps_a _ _ (HV.out.keepT X1.out)).mono ?_
 rintro e w2 ⟨rfl, o1⟩
 have X2 := hID (X1.out.also o1)
 clear o1 X1
 clear c0 c1 c2 c3 c4 c5 c6 c7 c8 c9 c10 c11 c12 c13
 obtain ⟨c0, c1, c2, c3, c4, c5, c6, c7, c8, c9, c10, c11, c12, c13⟩ := GC.out _ X2.out
 go_wp2_with fail
 refine (co_choices15_a _ _ (HV.out.keepT X2.out)).mono ?_
 rintro e w3 ⟨u1, A1, k1, rfl, hr, o1⟩
 have X3 := hID (X2.out.also o1)
 obtain ⟨hr, o1⟩ := id (And.intro hr o1)
 obtain ⟨b1, p1, cc, rfl, hd⟩ := hr.cellsT (by decide)
 have HD := hID hd
 clear hr hd
 clear o1 X2
 clear c0 c1 c2 c3 c4 c5 c6 c7 c8 c9 c10 c11 c12 c13
 have d0 := HD.out _ (Off.refl _ _) 0 _ rfl
 simp only [Nat.add_zero] at d0
 obtain ⟨c0, c1, c2, c3, c4, c5, c6, c7, c8, c9, c10, c11, c12, c13⟩ := GC.out _ X3.out
 go_wp2_with fail
 refine wp_loop_rounds 2 ?_
 rw [rounds_succ]
 clear c0 c1 c2 c3 c4 c5 c6 c7 c8 c9 c10 c11 c12 c13
 obtain ⟨c0, c1, c2, c3, c4, c5, c6, c7, c8, c9, c10, c11, c12, c13⟩ := GC.out _ X3.out
 go_wp2_with fail
 refine (co_sum0 _ _ _).mono ?_
 rintro e w4 ⟨rfl, o1⟩
 have X4 := hID (X3.out.also o1)
 clear o1 X3
 clear c0 c1 c2 c3 c4 c5 c6 c7 c8 c9 c10 c11 c12 c13
 clear d0
 obtain ⟨c0, c1, c2, c3, c4, c5, c6, c7, c8, c9, c10, c11, c12, c13⟩ := GC.out _ X4.out
 go_wp2_with fail
 rw [rounds_succ]
 clear c0 c1 c2 c3 c4 c5 c6 c7 c8 c9 c10 c11 c12 c13
 obtain ⟨c0, c1, c2, c3, c4, c5, c6, c7, c8, c9, c10, c11, c12, c13⟩ := GC.out _ X4.out
 go_wp2_with fail
 go_ret2
 exact ⟨rfl, X4.out⟩
set_option maxHeartbeats 4000000 in
theorem co_Choices_a (w : World) (v : Value) (hv : Rd w (fun _ => True) 7 v 2 pa_a) : Calls Tryz.prog 89 #[v] w (fun e w' => ∃ u A c, e = .returned (.tuple #[u, .int .i64 0]) ∧ Rd w' (fun _ => True) 1 u 1 [.slice A 0 c] ∧ Off Nob w w') := by
 have HV0 := hID hv
 obtain ⟨b, o, c, rfl, hc⟩ := hv.cellsT (by decide)
 have HV := HV0
 have GC : Hid (∀ W, Off Nob w W → W.cell? ⟨b, o, none⟩ = some (.bool false) ∧ W.cell? ⟨b, o + 1, none⟩ = some (.int .u64 0) ∧ W.cell? ⟨b, o + 2, none⟩ = some (.int .u64 8589934592) ∧ W.cell? ⟨b, o + 3, none⟩ = some (.int .u64 0) ∧ W.cell? ⟨b, o + 4, none⟩ = some (.int .u64 0) ∧ W.cell? ⟨b, o + 5, none⟩ = some (.int .i64 0) ∧ W.cell? ⟨b, o + 6, none⟩ = some (.int .i64 0) ∧ W.cell? ⟨b, o + 7, none⟩ = some (.bool false) ∧ W.cell? ⟨b, o + 8, none⟩ = some (.int .u64 0) ∧ W.cell? ⟨b, o + 9, none⟩ = some (.int .u64 17179869184) ∧ W.cell? ⟨b, o + 10, none⟩ = some (.int .u64 0) ∧ W.cell? ⟨b, o + 11, none⟩ = some (.int .u64 0) ∧ W.cell? ⟨b, o + 12, none⟩ = some (.int .i64 0) ∧ W.cell? ⟨b, o + 13, none⟩ = some (.int .i64 0)) := hID (fun W ho => ⟨hc W ho 0 _ rfl, hc W ho 1 _ rfl, hc W ho 2 _ rfl, hc W ho 3 _ rfl, hc W ho 4 _ rfl, hc W ho 5 _ rfl, hc W ho 6 _ rfl, hc W ho 7 _ rfl, hc W ho 8 _ rfl, hc W ho 9 _ rfl, hc W ho 10 _ rfl, hc W ho 11 _ rfl, hc W ho 12 _ rfl, hc W ho 13 _ rfl⟩)
 clear hc hv HV0
 go_enter Tryz.func89, Tryz.ntmps89
 have X0 : Hid (Off Nob w w) := hID (Off.refl _ _)
 obtain ⟨c0, c1, c2, c3, c4, c5, c6, c7, c8, c9, c10, c11, c12, c13⟩ := GC.out _ X0.out
 go_wp2_with fail
 refine (co_positions_a _ _ HV.out).mono ?_
 rintro e w1 ⟨rfl, o1⟩
 have X1 := hID (X0.out.also o1)
 clear o1 X0
 clear c0 c1 c2 c3 c4 c5 c6 c7 c8 c9 c10 c11 c12 c13
 obtain ⟨c0, c1, c2, c3, c4, c5, c6, c7, c8, c9, c10, c11, c12, c13⟩ := GC.out _ X1.out
 go_wp2_with fail
 refine (co_choices15_a _ _ (HV.out.keepT X1.out)).mono ?_
 rintro e w2 ⟨u1, A1, k1, rfl, hr, o1⟩
 have X2 := hID (X1.out.also o1)
 obtain ⟨hr, o1⟩ := id (And.intro hr o1)
 have HD := hID hr
 clear hr
 clear o1 X1
 clear c0 c1 c2 c3 c4 c5 c6 c7 c8 c9 c10 c11 c12 c13
 obtain ⟨c0, c1, c2, c3, c4, c5, c6, c7, c8, c9, c10, c11, c12, c13⟩ := GC.out _ X2.out
 go_wp2_with fail
 go_ret2
 exact ⟨_, _, _, rfl, HD.out, X2.out⟩
set_option maxHeartbeats 4000000 in
theorem co_line_a (w : World) (v : Value) (hv : Rd w (fun _ => True) 7 v 2 pa_a) (AA : Option Addr) (ac : Nat) : Calls Tryz.prog 90 #[v, .slice AA 0 ac] w (fun e w' => ∃ u, e = .returned (.tuple #[u, .int .i64 0]) ∧ Rd w' (fun k => w.heap.size ≤ k) 4 u 2 se_a ∧ Off Nob w w') := by
 have HV0 := hID hv
 obtain ⟨b, o, c, rfl, hc⟩ := hv.cellsT (by decide)
 have HV := HV0
 have GC : Hid (∀ W, Off Nob w W → W.cell? ⟨b, o, none⟩ = some (.bool false) ∧ W.cell? ⟨b, o + 1, none⟩ = some (.int .u64 0) ∧ W.cell? ⟨b, o + 2, none⟩ = some (.int .u64 8589934592) ∧ W.cell? ⟨b, o + 3, none⟩ = some (.int .u64 0) ∧ W.cell? ⟨b, o + 4, none⟩ = some (.int .u64 0) ∧ W.cell? ⟨b, o + 5, none⟩ = some (.int .i64 0) ∧ W.cell? ⟨b, o + 6, none⟩ = some (.int .i64 0) ∧ W.cell? ⟨b, o + 7, none⟩ = some (.bool false) ∧ W.cell? ⟨b, o + 8, none⟩ = some (.int .u64 0) ∧ W.cell? ⟨b, o + 9, none⟩ = some (.int .u64 17179869184) ∧ W.cell? ⟨b, o + 10, none⟩ = some (.int .u64 0) ∧ W.cell? ⟨b, o + 11, none⟩ = some (.int .u64 0) ∧ W.cell? ⟨b, o + 12, none⟩ = some (.int .i64 0) ∧ W.cell? ⟨b, o + 13, none⟩ = some (.int .i64 0)) := hID (fun W ho => ⟨hc W ho 0 _ rfl, hc W ho 1 _ rfl, hc W ho 2 _ rfl, hc W ho 3 _ rfl, hc W ho 4 _ rfl, hc W ho 5 _ rfl, hc W ho 6 _ rfl, hc W ho 7 _ rfl, hc W ho 8 _ rfl, hc W ho 9 _ rfl, hc W ho 10 _ rfl, hc W ho 11 _ rfl, hc W ho 12 _ rfl, hc W ho 13 _ rfl⟩)
 clear hc hv HV0
 obtain ⟨i_cl, h_cl, z_cl, s_cl, b_cl⟩ := info_parts Tryz.infoCl4
 go_enter Tryz.func90, Tryz.ntmps90
 have X0 : Hid (Off Nob w w) := hID (Off.refl _ _)
 obtain ⟨c0, c1, c2, c3, c4, c5, c6, c7, c8, c9, c10, c11, c12, c13⟩ := GC.out _ X0.out
 go_wp2_with fail
 refine (co_pcheck_a _ _ HV.out).mono ?_
 rintro e w1 ⟨rfl, o1⟩
 have X1 := hID (X0.out.also o1)
 clear o1 X0
 clear c0 c1 c2 c3 c4 c5 c6 c7 c8 c9 c10 c11 c12 c13
 obtain ⟨c0, c1, c2, c3, c4, c5, c6, c7, c8, c9, c10, c11, c12, c13⟩ := GC.out _ X1.out
 go_wp2_with fail
 refine (co_gaps_a _ _ (HV.out.keepT X1.out)).mono ?_
 rintro e w2 ⟨rfl, o1⟩
 have X2 := hID (X1.out.also o1)
 clear o1 X1
 clear c0 c1 c2 c3 c4 c5 c6 c7 c8 c9 c10 c11 c12 c13
 obtain ⟨c0, c1, c2, c3, c4, c5, c6, c7, c8, c9, c10, c11, c12, c13⟩ := GC.out _ X2.out
 go_wp2_with fail
 refine wp_loop_rounds 1 ?_
 rw [rounds_succ]
 clear c0 c1 c2 c3 c4 c5 c6 c7 c8 c9 c10 c11 c12 c13
 obtain ⟨c0, c1, c2, c3, c4, c5, c6, c7, c8, c9, c10, c11, c12, c13⟩ := GC.out _ X2.out
 go_wp2_with fail
 refine wp_loop_rounds 3 ?_
 rw [rounds_succ]
 clear c0 c1 c2 c3 c4 c5 c6 c7 c8 c9 c10 c11 c12 c13
 obtain ⟨c0, c1, c2, c3, c4, c5, c6, c7, c8, c9, c10, c11, c12, c13⟩ := GC.out _ X2.out
 go_wp2_with (at_builtin; refine @wpList_append_lies _ _ _ _ _ _ _ rfl _ _ 65 rfl w.heap.size 73 i_cl (.agg #[.int .u64 0, .int .u64 0, .int .u64 0, .int .u64 0]) 4 32 Tryz.underlying65 h_cl z_cl s_cl b_cl rfl (by decide) (.slice none 0 0) (0) ([]) rfl ((OwnL.nilAt X2.out 73 4).1.alloc _) ⟨w2.heap.size, 0, none⟩ 1 1 [.int .u64 0, .int .u64 8589934592, .int .u64 0, .int .u64 0] rfl rfl ?c1 (by decide) (by decide) (by decide) (by decide) (by have := (OwnL.nilAt X2.out 73 4).2.size; simp; omega) _ rfl ?_)
 case c1 => exact cell_lit _ [.int .u64 0, .int .u64 8589934592, .int .u64 0, .int .u64 0] _
 intro g3 cap3 w3 hown hgrow hat hlt
 have OW3 := hID ((OwnL.nilAt X2.out 73 4).grown (Off.alloc (Off.refl Nob w2) (.cells #[.int .u64 0, .int .u64 8589934592, .int .u64 0, .int .u64 0] 73)) hown hgrow)
 have X3 := hID OW3.out.2
 clear hown hgrow hat hlt X2
 clear c0 c1 c2 c3 c4 c5 c6 c7 c8 c9 c10 c11 c12 c13
 obtain ⟨c0, c1, c2, c3, c4, c5, c6, c7, c8, c9, c10, c11, c12, c13⟩ := GC.out _ X3.out
 go_wp2_with fail
 rw [rounds_succ]
 clear c0 c1 c2 c3 c4 c5 c6 c7 c8 c9 c10 c11 c12 c13
 obtain ⟨c0, c1, c2, c3, c4, c5, c6, c7, c8, c9, c10, c11, c12, c13⟩ := GC.out _ X3.out
 go_wp2_with (at_builtin; refine @wpList_append_lies _ _ _ _ _ _ _ rfl _ _ 65 rfl w.heap.size 73 i_cl (.agg #[.int .u64 0, .int .u64 0, .int .u64 0, .int .u64 0]) 4 32 Tryz.underlying65 h_cl z_cl s_cl b_cl rfl (by decide) (.slice (some ⟨g3, 0, none⟩) (0 + 1) cap3) (0 + 1) ([] ++ [.int .u64 0, .int .u64 8589934592, .int .u64 0, .int .u64 0]) rfl (OW3.out.1.alloc _) ⟨w3.heap.size, 0, none⟩ 1 1 [.int .u64 0, .int .u64 17179869184, .int .u64 0, .int .u64 0] rfl rfl ?c1 (by decide) (by decide) (by decide) (by decide) (by have := OW3.out.2.size; simp; omega) _ rfl ?_)
 case c1 => exact cell_lit _ [.int .u64 0, .int .u64 17179869184, .int .u64 0, .int .u64 0] _
 intro g4 cap4 w4 hown hgrow hat hlt
 have OW4 := hID (OW3.out.grown (Off.alloc (Off.refl Nob w3) (.cells #[.int .u64 0, .int .u64 17179869184, .int .u64 0, .int .u64 0] 73)) hown hgrow)
 have X4 := hID OW4.out.2
 clear hown hgrow hat hlt X3 OW3
 clear c0 c1 c2 c3 c4 c5 c6 c7 c8 c9 c10 c11 c12 c13
 obtain ⟨c0, c1, c2, c3, c4, c5, c6, c7, c8, c9, c10, c11, c12, c13⟩ := GC.out _ X4.out
 go_wp2_with fail
 rw [rounds_succ]
 clear c0 c1 c2 c3 c4 c5 c6 c7 c8 c9 c10 c11 c12 c13
 obtain ⟨c0, c1, c2, c3, c4, c5, c6, c7, c8, c9, c10, c11, c12, c13⟩ := GC.out _ X4.out
 go_wp2_with fail
 go_ret2
 exact ⟨_, rfl, Rd.own OW4.out.1 (fun k hk => (OW4.out.1.lt k hk).1), OW4.out.2⟩
set_option maxHeartbeats 4000000 in
theorem co_lines_a (w : World) (v : Value) (hv : Rd w (fun _ => True) 7 v 2 pa_a) : Calls Tryz.prog 56 #[v] w (fun e w' => ∃ u v, e = .returned (.tuple #[u, .int .i64 0]) ∧ Rd w' (fun k => w.heap.size ≤ k) 1 u 1 [v] ∧ (∃ A c, v = .slice A 2 c) ∧ Rd w' (fun k => w.heap.size ≤ k) 4 v 2 se_a ∧ Off Nob w w') := by
 have HV0 := hID hv
 obtain ⟨b, o, c, rfl, hc⟩ := hv.cellsT (by decide)
 have HV := HV0
 have GC : Hid (∀ W, Off Nob w W → W.cell? ⟨b, o, none⟩ = some (.bool false) ∧ W.cell? ⟨b, o + 1, none⟩ = some (.int .u64 0) ∧ W.cell? ⟨b, o + 2, none⟩ = some (.int .u64 8589934592) ∧ W.cell? ⟨b, o + 3, none⟩ = some (.int .u64 0) ∧ W.cell? ⟨b, o + 4, none⟩ = some (.int .u64 0) ∧ W.cell? ⟨b, o + 5, none⟩ = some (.int .i64 0) ∧ W.cell? ⟨b, o + 6, none⟩ = some (.int .i64 0) ∧ W.cell? ⟨b, o + 7, none⟩ = some (.bool false) ∧ W.cell? ⟨b, o + 8, none⟩ = some (.int .u64 0) ∧ W.cell? ⟨b, o + 9, none⟩ = some (.int .u64 17179869184) ∧ W.cell? ⟨b, o + 10, none⟩ = some (.int .u64 0) ∧ W.cell? ⟨b, o + 11, none⟩ = some (.int .u64 0) ∧ W.cell? ⟨b, o + 12, none⟩ = some (.int .i64 0) ∧ W.cell? ⟨b, o + 13, none⟩ = some (.int .i64 0)) := hID (fun W ho => ⟨hc W ho 0 _ rfl, hc W ho 1 _ rfl, hc W ho 2 _ rfl, hc W ho 3 _ rfl, hc W ho 4 _ rfl, hc W ho 5 _ rfl, hc W ho 6 _ rfl, hc W ho 7 _ rfl, hc W ho 8 _ rfl, hc W ho 9 _ rfl, hc W ho 10 _ rfl, hc W ho 11 _ rfl, hc W ho 12 _ rfl, hc W ho 13 _ rfl⟩)
 clear hc hv HV0
 obtain ⟨i_line, h_line, z_line, s_line, b_line⟩ := info_parts Tryz.infoLn
 go_enter Tryz.func56, Tryz.ntmps56
 have X0 : Hid (Off Nob w w) := hID (Off.refl _ _)
 obtain ⟨c0, c1, c2, c3, c4, c5, c6, c7, c8, c9, c10, c11, c12, c13⟩ := GC.out _ X0.out
 go_wp2_with fail
 refine (co_Choices_a _ _ HV.out).mono ?_
 rintro e w1 ⟨u1, A1, k1, rfl, hr, o1⟩
 have X1 := hID (X0.out.also o1)
 obtain ⟨hr, o1⟩ := id (And.intro hr o1)
 obtain ⟨b1, p1, cc, rfl, hd⟩ := hr.cellsT (by decide)
 have HD := hID hd
 clear hr hd
 clear o1 X0
 clear c0 c1 c2 c3 c4 c5 c6 c7 c8 c9 c10 c11 c12 c13
 have d0 := HD.out _ (Off.refl _ _) 0 _ rfl
 simp only [Nat.add_zero] at d0
 obtain ⟨c0, c1, c2, c3, c4, c5, c6, c7, c8, c9, c10, c11, c12, c13⟩ := GC.out _ X1.out
 go_wp2_with fail
 refine wp_loop_rounds 2 ?_
 rw [rounds_succ]
 clear c0 c1 c2 c3 c4 c5 c6 c7 c8 c9 c10 c11 c12 c13
 obtain ⟨c0, c1, c2, c3, c4, c5, c6, c7, c8, c9, c10, c11, c12, c13⟩ := GC.out _ X1.out
 go_wp2_with fail
 refine (co_line_a _ _ (HV.out.keepT X1.out) _ _).mono ?_
 rintro e w2 ⟨u2, rfl, hr, o1⟩
 have X2 := hID (X1.out.also o1)
 obtain ⟨hr, o1⟩ := id (And.intro hr o1)
 obtain ⟨A2, k2, rfl, _⟩ := hr.form
 have HS := hID (Rd.mono hr (G := fun k => w.heap.size ≤ k) (fun k hk => Nat.le_trans X1.out.size hk))
 clear hr d0
 clear o1 X1
 clear c0 c1 c2 c3 c4 c5 c6 c7 c8 c9 c10 c11 c12 c13
 obtain ⟨c0, c1, c2, c3, c4, c5, c6, c7, c8, c9, c10, c11, c12, c13⟩ := GC.out _ X2.out
 go_wp2_with (at_builtin; refine @wpList_append_lies _ _ _ _ _ _ _ rfl _ _ 100 rfl w.heap.size 65 i_line (.slice none 0 0) 1 24 Tryz.underlying100 h_line z_line s_line b_line rfl (by decide) (.slice none 0 0) (0) ([]) rfl ((OwnL.nilAt X2.out 65 1).1.alloc _) ⟨w2.heap.size, 0, none⟩ 1 1 [.slice A2 2 k2] rfl rfl ?c1 (by intro u hu; simp at hu; subst hu; rfl) (by decide) (by decide) (by decide) (by have := (OwnL.nilAt X2.out 65 1).2.size; simp; omega) _ rfl ?_)
 case c1 => exact cell_lit _ [.slice A2 2 k2] _
 intro g3 cap3 w3 hown hgrow hat hlt
 have HS' := hID (HS.out.keep (Off.grown (Off.alloc (Off.refl Nob w2) _) hgrow (fun k hk => by cases hk)) (fun _ _ h => h))
 have OW3 := hID ((OwnL.nilAt X2.out 65 1).grown (Off.alloc (Off.refl Nob w2) (.cells #[.slice A2 2 k2] 65)) hown hgrow)
 have X3 := hID OW3.out.2
 clear hown hgrow hat hlt X2
 clear c0 c1 c2 c3 c4 c5 c6 c7 c8 c9 c10 c11 c12 c13
 obtain ⟨c0, c1, c2, c3, c4, c5, c6, c7, c8, c9, c10, c11, c12, c13⟩ := GC.out _ X3.out
 go_wp2_with fail
 rw [rounds_succ]
 clear c0 c1 c2 c3 c4 c5 c6 c7 c8 c9 c10 c11 c12 c13
 obtain ⟨c0, c1, c2, c3, c4, c5, c6, c7, c8, c9, c10, c11, c12, c13⟩ := GC.out _ X3.out
 go_wp2_with fail
 go_ret2
 exact ⟨_, _, rfl, Rd.own OW3.out.1 (fun k hk => (OW3.out.1.lt k hk).1), ⟨_, _, rfl⟩, HS'.out, OW3.out.2⟩
set_option maxHeartbeats 4000000 in
theorem co_gaps_b (w : World) (v : Value) (hv : Rd w (fun _ => True) 7 v 1 pa_b) : Calls Tryz.prog 113 #[v] w (RetV w (.slice none 0 0)) := by
 have HV0 := hID hv
 obtain ⟨b, o, c, rfl, hc⟩ := hv.cellsT (by decide)
 have HV := HV0
 have GC : Hid (∀ W, Off Nob w W → W.cell? ⟨b, o, none⟩ = some (.bool false) ∧ W.cell? ⟨b, o + 1, none⟩ = some (.int .u64 0) ∧ W.cell? ⟨b, o + 2, none⟩ = some (.int .u64 25769803776) ∧ W.cell? ⟨b, o + 3, none⟩ = some (.int .u64 0) ∧ W.cell? ⟨b, o + 4, none⟩ = some (.int .u64 0) ∧ W.cell? ⟨b, o + 5, none⟩ = some (.int .i64 0) ∧ W.cell? ⟨b, o + 6, none⟩ = some (.int .i64 0)) := hID (fun W ho => ⟨hc W ho 0 _ rfl, hc W ho 1 _ rfl, hc W ho 2 _ rfl, hc W ho 3 _ rfl, hc W ho 4 _ rfl, hc W ho 5 _ rfl, hc W ho 6 _ rfl⟩)
 clear hc hv HV0
 go_enter Tryz.func113, Tryz.ntmps113
 have X0 : Hid (Off Nob w w) := hID (Off.refl _ _)
 obtain ⟨c0, c1, c2, c3, c4, c5, c6⟩ := GC.out _ X0.out
 go_wp2_with fail
 refine wp_loop_rounds 2 ?_
 rw [rounds_succ]
 clear c0 c1 c2 c3 c4 c5 c6
 obtain ⟨c0, c1, c2, c3, c4, c5, c6⟩ := GC.out _ X0.out
 go_wp2_with fail
 rw [rounds_succ]
 clear c0 c1 c2 c3 c4 c5 c6
 obtain ⟨c0, c1, c2, c3, c4, c5, c6⟩ := GC.out _ X0.out
 go_wp2_with fail
 go_ret
 exact ⟨rfl, X0.out⟩
set_option maxHeartbeats 4000000 in
theorem co_count15_b (w : World) (v : Value) (hv : Rd w (fun _ => True) 7 v 1 pa_b) : Calls Tryz.prog 112 #[v] w (RetV w (.tuple #[.int .i64 1, .int .i64 0])) := by
 have HV0 := hID hv
 obtain ⟨b, o, c, rfl, hc⟩ := hv.cellsT (by decide)
 have HV := HV0
 have GC : Hid (∀ W, Off Nob w W → W.cell? ⟨b, o, none⟩ = some (.bool false) ∧ W.cell? ⟨b, o + 1, none⟩ = some (.int .u64 0) ∧ W.cell? ⟨b, o + 2, none⟩ = some (.int .u64 25769803776) ∧ W.cell? ⟨b, o + 3, none⟩ = some (.int .u64 0) ∧ W.cell? ⟨b, o + 4, none⟩ = some (.int .u64 0) ∧ W.cell? ⟨b, o + 5, none⟩ = some (.int .i64 0) ∧ W.cell? ⟨b, o + 6, none⟩ = some (.int .i64 0)) := hID (fun W ho => ⟨hc W ho 0 _ rfl, hc W ho 1 _ rfl, hc W ho 2 _ rfl, hc W ho 3 _ rfl, hc W ho 4 _ rfl, hc W ho 5 _ rfl, hc W ho 6 _ rfl⟩)
 clear hc hv HV0
 go_enter Tryz.func112, Tryz.ntmps112
 have X0 : Hid (Off Nob w w) := hID (Off.refl _ _)
 obtain ⟨c0, c1, c2, c3, c4, c5, c6⟩ := GC.out _ X0.out
 go_wp2_with fail
 refine (co_pcheck_b _ _ HV.out).mono ?_
 rintro e w1 ⟨rfl, o1⟩
 have X1 := hID (X0.out.also o1)
 clear o1 X0
 clear c0 c1 c2 c3 c4 c5 c6
 obtain ⟨c0, c1, c2, c3, c4, c5, c6⟩ := GC.out _ X1.out
 go_wp2_with fail
 refine (co_gaps_b _ _ (HV.out.keepT X1.out)).mono ?_
 rintro e w2 ⟨rfl, o1⟩
 have X2 := hID (X1.out.also o1)
 clear o1 X1
 clear c0 c1 c2 c3 c4 c5 c6
 obtain ⟨c0, c1, c2, c3, c4, c5, c6⟩ := GC.out _ X2.out
 go_wp2_with fail
 refine wp_loop_rounds 1 ?_
 rw [rounds_succ]
 clear c0 c1 c2 c3 c4 c5 c6
 obtain ⟨c0, c1, c2, c3, c4, c5, c6⟩ := GC.out _ X2.out
 go_wp2_with fail
 go_ret2
 exact ⟨rfl, X2.out⟩
set_option maxHeartbeats 4000000 in
theorem co_choices15_b (w : World) (v : Value) (hv : Rd w (fun _ => True) 7 v 1 pa_b) : Calls Tryz.prog 114 #[v] w (fun e w' => ∃ u A c, e = .returned u ∧ Rd w' (fun _ => True) 1 u 1 [.slice A 0 c] ∧ Off Nob w w') := by
 have HV0 := hID hv
 obtain ⟨b, o, c, rfl, hc⟩ := hv.cellsT (by decide)
 have HV := HV0
 have GC : Hid (∀ W, Off Nob w W → W.cell? ⟨b, o, none⟩ = some (.bool false) ∧ W.cell? ⟨b, o + 1, none⟩ = some (.int .u64 0) ∧ W.cell? ⟨b, o + 2, none⟩ = some (.int .u64 25769803776) ∧ W.cell? ⟨b, o + 3, none⟩ = some (.int .u64 0) ∧ W.cell? ⟨b, o + 4, none⟩ = some (.int .u64 0) ∧ W.cell? ⟨b, o + 5, none⟩ = some (.int .i64 0) ∧ W.cell? ⟨b, o + 6, none⟩ = some (.int .i64 0)) := hID (fun W ho => ⟨hc W ho 0 _ rfl, hc W ho 1 _ rfl, hc W ho 2 _ rfl, hc W ho 3 _ rfl, hc W ho 4 _ rfl, hc W ho 5 _ rfl, hc W ho 6 _ rfl⟩)
 clear hc hv HV0
 obtain ⟨i_ints, h_ints, z_ints, s_ints, b_ints⟩ := info_parts Tryz.infoIs
 go_enter Tryz.func114, Tryz.ntmps114
 have X0 : Hid (Off Nob w w) := hID (Off.refl _ _)
 obtain ⟨c0, c1, c2, c3, c4, c5, c6⟩ := GC.out _ X0.out
 go_wp2_with fail
 have X1 : Hid (Off Nob w ((w.alloc (.cells #[] 3)).alloc (.cells #[.slice (some ⟨w.heap.size, 0, none⟩) 0 0] 22))) := hID (Off.alloc (Off.alloc (Off.refl _ _) _) _)
 have B1 : Hid (Blk ((w.alloc (.cells #[] 3)).alloc (.cells #[.slice (some ⟨w.heap.size, 0, none⟩) 0 0] 22)) (w.heap.size + 1) 22 #[.slice (some ⟨w.heap.size, 0, none⟩) 0 0]) := hID (blk_second _ _ _ _)
 clear X0
 revert X1 B1
 generalize ((w.alloc (.cells #[] 3)).alloc (.cells #[.slice (some ⟨w.heap.size, 0, none⟩) 0 0] 22)) = w1
 intro X1 B1
 have GA : Hid (∀ W, Off Nob w1 W → W.cell? ⟨w.heap.size + 1, 0, none⟩ = some (.slice (some ⟨w.heap.size, 0, none⟩) 0 0)) := hID (fun W ho => (B1.out.to (ho.block _ B1.out.lt (fun h => h))).cell 0)
 have Y1 : Hid (Off Nob w1 w1) := hID (Off.refl _ _)
 clear c0 c1 c2 c3 c4 c5 c6
 obtain ⟨c0, c1, c2, c3, c4, c5, c6⟩ := GC.out _ X1.out
 go_wp2_with fail
 refine (co_gaps_b _ _ (HV.out.keepT X1.out)).mono ?_
 rintro e w2 ⟨rfl, o1⟩
 have X2 := hID (X1.out.also o1)
 have Y2 := hID (Y1.out.also o1)
 clear Y1
 clear o1 X1
 clear c0 c1 c2 c3 c4 c5 c6
 have d0 := GA.out _ Y2.out
 go_wp2_with fail
 refine wp_loop_rounds 1 ?_
 rw [rounds_succ]
 go_wp2_with fail
 refine wp_loop_rounds 2 ?_
 rw [rounds_succ]
 go_wp2_with fail
 refine wp_loop_rounds 2 ?_
 rw [rounds_succ]
 go_wp2_with fail
 go_quiet (fail)
 have X3 := hID (X2.out.drewN nq)
 have Y3 := hID (Y2.out.drewN nq)
 clear X2 Y2 d0
 generalize w2.drewN nq = w3 at *
 have d0 := GA.out _ Y3.out
 go_wp2_with fail
 go_quiet (fail)
 have X4 := hID (X3.out.drewN nq)
 have Y4 := hID (Y3.out.drewN nq)
 clear X3 Y3 d0
 generalize w3.drewN nq = w4 at *
 have d0 := GA.out _ Y4.out
 go_wp2_with fail
 rw [rounds_succ]
 go_wp2_with (at_builtin; refine @wpList_append_lies _ _ _ _ _ _ _ rfl _ _ 148 rfl w.heap.size 22 i_ints (.slice none 0 0) 1 24 Tryz.underlying148 h_ints z_ints s_ints b_ints rfl (by decide) (.slice none 0 0) (0) ([]) rfl ((OwnL.nilAt X4.out 22 1).1.alloc _) ⟨w4.heap.size, 0, none⟩ 1 1 [.slice (some ⟨w.heap.size, 0, none⟩) 0 0] rfl rfl ?c1 (by intro u hu; simp at hu; subst hu; rfl) (by decide) (by decide) (by decide) (by have := (OwnL.nilAt X4.out 22 1).2.size; simp; omega) _ rfl ?_)
 case c1 => exact cell_lit _ [.slice (some ⟨w.heap.size, 0, none⟩) 0 0] _
 intro g5 cap5 w5 hown hgrow hat hlt
 have OW5 := hID ((OwnL.nilAt X4.out 22 1).grown (Off.alloc (Off.refl Nob w4) (.cells #[.slice (some ⟨w.heap.size, 0, none⟩) 0 0] 22)) hown hgrow)
 have X5 := hID OW5.out.2
 clear hown hgrow hat hlt X4
 clear d0 Y4
 go_wp2_with fail
 rw [rounds_succ]
 go_wp2_with fail
 go_ret
 exact ⟨_, _, _, rfl, OW5.out.rd, OW5.out.2⟩
set_option maxHeartbeats 4000000 in
theorem co_positions_b (w : World) (v : Value) (hv : Rd w (fun _ => True) 7 v 1 pa_b) : Calls Tryz.prog 88 #[v] w (RetV w (.tuple #[.int .i64 1, .int .i64 0])) := by
 have HV0 := hID hv
 obtain ⟨b, o, c, rfl, hc⟩ := hv.cellsT (by decide)
 have HV := HV0
 have GC : Hid (∀ W, Off Nob w W → W.cell? ⟨b, o, none⟩ = some (.bool false) ∧ W.cell? ⟨b, o + 1, none⟩ = some (.int .u64 0) ∧ W.cell? ⟨b, o + 2, none⟩ = some (.int .u64 25769803776) ∧ W.cell? ⟨b, o + 3, none⟩ = some (.int .u64 0) ∧ W.cell? ⟨b, o + 4, none⟩ = some (.int .u64 0) ∧ W.cell? ⟨b, o + 5, none⟩ = some (.int .i64 0) ∧ W.cell? ⟨b, o + 6, none⟩ = some (.int .i64 0)) := hID (fun W ho => ⟨hc W ho 0 _ rfl, hc W ho 1 _ rfl, hc W ho 2 _ rfl, hc W ho 3 _ rfl, hc W ho 4 _ rfl, hc W ho 5 _ rfl, hc W ho 6 _ rfl⟩)
 clear hc hv HV0
 go_enter Tryz.func88, Tryz.ntmps88
 have X0 : Hid (Off Nob w w) := hID (Off.refl _ _)
 obtain ⟨c0, c1, c2, c3, c4, c5, c6⟩ := GC.out _ X0.out
 go_wp2_with fail
 refine (co_count15_b _ _ HV.out).mono ?_
 rintro e w1 ⟨rfl, o1⟩
 have X1 := hID (X0.out.also o1)
 clear o1 X0
 clear c0 c1 c2 c3 c4 c5 c6
 obtain ⟨c0, c1, c2, c3, c4, c5, c6⟩ := GC.out _ X1.out
 go_wp2_with fail
 refine (co_gaps_b _ _ (HV.out.keepT X1.out)).mono ?_
 rintro e w2 ⟨rfl, o1⟩
 have X2 := hID (X1.out.also o1)
 clear o1 X1
 clear c0 c1 c2 c3 c4 c5 c6
 obtain ⟨c0, c1, c2, c3, c4, c5, c6⟩ := GC.out _ X2.out
 go_wp2_with fail
 refine (co_choices15_b _ _ (HV.out.keepT X2.out)).mono ?_
 rintro e w3 ⟨u1, A1, k1, rfl, hr, o1⟩
 have X3 := hID (X2.out.also o1)
 obtain ⟨hr, o1⟩ := id (And.intro hr o1)
 obtain ⟨b1, p1, cc, rfl, hd⟩ := hr.cellsT (by decide)
 have HD := hID hd
 clear hr hd
 clear o1 X2
 clear c0 c1 c2 c3 c4 c5 c6
 have d0 := HD.out _ (Off.refl _ _) 0 _ rfl
 simp only [Nat.add_zero] at d0
 obtain ⟨c0, c1, c2, c3, c4, c5, c6⟩ := GC.out _ X3.out
 go_wp2_with fail
 refine wp_loop_rounds 2 ?_
 rw [rounds_succ]
 clear c0 c1 c2 c3 c4 c5 c6
 obtain ⟨c0, c1, c2, c3, c4, c5, c6⟩ := GC.out _ X3.out
 go_wp2_with fail
 refine (co_sum0 _ _ _).mono ?_
 rintro e w4 ⟨rfl, o1⟩
 have X4 := hID (X3.out.also o1)
 clear o1 X3
 clear c0 c1 c2 c3 c4 c5 c6
 clear d0
 obtain ⟨c0, c1, c2, c3, c4, c5, c6⟩ := GC.out _ X4.out
 go_wp2_with fail
 rw [rounds_succ]
 clear c0 c1 c2 c3 c4 c5 c6
 obtain ⟨c0, c1, c2, c3, c4, c5, c6⟩ := GC.out _ X4.out
 go_wp2_with fail
 go_ret2
 exact ⟨rfl, X4.out⟩
set_option maxHeartbeats 4000000 in
theorem co_Choices_b (w : World) (v : Value) (hv : Rd w (fun _ => True) 7 v 1 pa_b) : Calls Tryz.prog 89 #[v] w (fun e w' => ∃ u A c, e = .returned (.tuple #[u, .int .i64 0]) ∧ Rd w' (fun _ => True) 1 u 1 [.slice A 0 c] ∧ Off Nob w w') := by
 have HV0 := hID hv
 obtain ⟨b, o, c, rfl, hc⟩ := hv.cellsT (by decide)
 have HV := HV0
 have GC : Hid (∀ W, Off Nob w W → W.cell? ⟨b, o, none⟩ = some (.bool false) ∧ W.cell? ⟨b, o + 1, none⟩ = some (.int .u64 0) ∧ W.cell? ⟨b, o + 2, none⟩ = some (.int .u64 25769803776) ∧ W.cell? ⟨b, o + 3, none⟩ = some (.int .u64 0) ∧ W.cell? ⟨b, o + 4, none⟩ = some (.int .u64 0) ∧ W.cell? ⟨b, o + 5, none⟩ = some (.int .i64 0) ∧ W.cell? ⟨b, o + 6, none⟩ = some (.int .i64 0)) := hID (fun W ho => ⟨hc W ho 0 _ rfl, hc W ho 1 _ rfl, hc W ho 2 _ rfl, hc W ho 3 _ rfl, hc W ho 4 _ rfl, hc W ho 5 _ rfl, hc W ho 6 _ rfl⟩)
 clear hc hv HV0
 go_enter Tryz.func89, Tryz.ntmps89
 have X0 : Hid (Off Nob w w) := hID (Off.refl _ _)
 obtain ⟨c0, c1, c2, c3, c4, c5, c6⟩ := GC.out _ X0.out
 go_wp2_with fail
 refine (co_positions_b _ _ HV.out).mono ?_
 rintro e w1 ⟨rfl, o1⟩
 have X1 := hID (X0.out.also o1)
 clear o1 X0
 clear c0 c1 c2 c3 c4 c5 c6
 obtain ⟨c0, c1, c2, c3, c4, c5, c6⟩ := GC.out _ X1.out
 go_wp2_with fail
 refine (co_choices15_b _ _ (HV.out.keepT X1.out)).mono ?_
 rintro e w2 ⟨u1, A1, k1, rfl, hr, o1⟩
 have X2 := hID (X1.out.also o1)
 obtain ⟨hr, o1⟩ := id (And.intro hr o1)
 have HD := hID hr
 clear hr
 clear o1 X1
 clear c0 c1 c2 c3 c4 c5 c6
 obtain ⟨c0, c1, c2, c3, c4, c5, c6⟩ := GC.out _ X2.out
 go_wp2_with fail
 go_ret2
 exact ⟨_, _, _, rfl, HD.out, X2.out⟩
set_option maxHeartbeats 4000000 in
theorem co_line_b (w : World) (v : Value) (hv : Rd w (fun _ => True) 7 v 1 pa_b) (AA : Option Addr) (ac : Nat) : Calls Tryz.prog 90 #[v, .slice AA 0 ac] w (fun e w' => ∃ u, e = .returned (.tuple #[u, .int .i64 0]) ∧ Rd w' (fun k => w.heap.size ≤ k) 4 u 1 se_b ∧ Off Nob w w') := by
 have HV0 := hID hv
 obtain ⟨b, o, c, rfl, hc⟩ := hv.cellsT (by decide)
 have HV := HV0
 have GC : Hid (∀ W, Off Nob w W → W.cell? ⟨b, o, none⟩ = some (.bool false) ∧ W.cell? ⟨b, o + 1, none⟩ = some (.int .u64 0) ∧ W.cell? ⟨b, o + 2, none⟩ = some (.int .u64 25769803776) ∧ W.cell? ⟨b, o + 3, none⟩ = some (.int .u64 0) ∧ W.cell? ⟨b, o + 4, none⟩ = some (.int .u64 0) ∧ W.cell? ⟨b, o + 5, none⟩ = some (.int .i64 0) ∧ W.cell? ⟨b, o + 6, none⟩ = some (.int .i64 0)) := hID (fun W ho => ⟨hc W ho 0 _ rfl, hc W ho 1 _ rfl, hc W ho 2 _ rfl, hc W ho 3 _ rfl, hc W ho 4 _ rfl, hc W ho 5 _ rfl, hc W ho 6 _ rfl⟩)
 clear hc hv HV0
 obtain ⟨i_cl, h_cl, z_cl, s_cl, b_cl⟩ := info_parts Tryz.infoCl4
 go_enter Tryz.func90, Tryz.ntmps90
 have X0 : Hid (Off Nob w w) := hID (Off.refl _ _)
 obtain ⟨c0, c1, c2, c3, c4, c5, c6⟩ := GC.out _ X0.out
 go_wp2_with fail
 refine (co_pcheck_b _ _ HV.out).mono ?_
 rintro e w1 ⟨rfl, o1⟩
 have X1 := hID (X0.out.also o1)
 clear o1 X0
 clear c0 c1 c2 c3 c4 c5 c6
 obtain ⟨c0, c1, c2, c3, c4, c5, c6⟩ := GC.out _ X1.out
 go_wp2_with fail
 refine (co_gaps_b _ _ (HV.out.keepT X1.out)).mono ?_
 rintro e w2 ⟨rfl, o1⟩
 have X2 := hID (X1.out.also o1)
 clear o1 X1
 clear c0 c1 c2 c3 c4 c5 c6
 obtain ⟨c0, c1, c2, c3, c4, c5, c6⟩ := GC.out _ X2.out
 go_wp2_with fail
 refine wp_loop_rounds 1 ?_
 rw [rounds_succ]
 clear c0 c1 c2 c3 c4 c5 c6
 obtain ⟨c0, c1, c2, c3, c4, c5, c6⟩ := GC.out _ X2.out
 go_wp2_with fail
 refine wp_loop_rounds 2 ?_
 rw [rounds_succ]
 clear c0 c1 c2 c3 c4 c5 c6
 obtain ⟨c0, c1, c2, c3, c4, c5, c6⟩ := GC.out _ X2.out
 go_wp2_with (at_builtin; refine @wpList_append_lies _ _ _ _ _ _ _ rfl _ _ 65 rfl w.heap.size 73 i_cl (.agg #[.int .u64 0, .int .u64 0, .int .u64 0, .int .u64 0]) 4 32 Tryz.underlying65 h_cl z_cl s_cl b_cl rfl (by decide) (.slice none 0 0) (0) ([]) rfl ((OwnL.nilAt X2.out 73 4).1.alloc _) ⟨w2.heap.size, 0, none⟩ 1 1 [.int .u64 0, .int .u64 25769803776, .int .u64 0, .int .u64 0] rfl rfl ?c1 (by decide) (by decide) (by decide) (by decide) (by have := (OwnL.nilAt X2.out 73 4).2.size; simp; omega) _ rfl ?_)
 case c1 => exact cell_lit _ [.int .u64 0, .int .u64 25769803776, .int .u64 0, .int .u64 0] _
 intro g3 cap3 w3 hown hgrow hat hlt
 have OW3 := hID ((OwnL.nilAt X2.out 73 4).grown (Off.alloc (Off.refl Nob w2) (.cells #[.int .u64 0, .int .u64 25769803776, .int .u64 0, .int .u64 0] 73)) hown hgrow)
 have X3 := hID OW3.out.2
 clear hown hgrow hat hlt X2
 clear c0 c1 c2 c3 c4 c5 c6
 obtain ⟨c0, c1, c2, c3, c4, c5, c6⟩ := GC.out _ X3.out
 go_wp2_with fail
 rw [rounds_succ]
 clear c0 c1 c2 c3 c4 c5 c6
 obtain ⟨c0, c1, c2, c3, c4, c5, c6⟩ := GC.out _ X3.out
 go_wp2_with fail
 go_ret2
 exact ⟨_, rfl, Rd.own OW3.out.1 (fun k hk => (OW3.out.1.lt k hk).1), OW3.out.2⟩
set_option maxHeartbeats 4000000 in
theorem co_lines_b (w : World) (v : Value) (hv : Rd w (fun _ => True) 7 v 1 pa_b) : Calls Tryz.prog 56 #[v] w (fun e w' => ∃ u v, e = .returned (.tuple #[u, .int .i64 0]) ∧ Rd w' (fun k => w.heap.size ≤ k) 1 u 1 [v] ∧ (∃ A c, v = .slice A 1 c) ∧ Rd w' (fun k => w.heap.size ≤ k) 4 v 1 se_b ∧ Off Nob w w') := by
 have HV0 := hID hv
 obtain ⟨b, o, c, rfl, hc⟩ := hv.cellsT (by decide)
 have HV := HV0
 have GC : Hid (∀ W, Off Nob w W → W.cell? ⟨b, o, none⟩ = some (.bool false) ∧ W.cell? ⟨b, o + 1, none⟩ = some (.int .u64 0) ∧ W.cell? ⟨b, o + 2, none⟩ = some (.int .u64 25769803776) ∧ W.cell? ⟨b, o + 3, none⟩ = some (.int .u64 0) ∧ W.cell? ⟨b, o + 4, none⟩ = some (.int .u64 0) ∧ W.cell? ⟨b, o + 5, none⟩ = some (.int .i64 0) ∧ W.cell? ⟨b, o + 6, none⟩ = some (.int .i64 0)) := hID (fun W ho => ⟨hc W ho 0 _ rfl, hc W ho 1 _ rfl, hc W ho 2 _ rfl, hc W ho 3 _ rfl, hc W ho 4 _ rfl, hc W ho 5 _ rfl, hc W ho 6 _ rfl⟩)
 clear hc hv HV0
 obtain ⟨i_line, h_line, z_line, s_line, b_line⟩ := info_parts Tryz.infoLn
 go_enter Tryz.func56, Tryz.ntmps56
 have X0 : Hid (Off Nob w w) := hID (Off.refl _ _)
 obtain ⟨c0, c1, c2, c3, c4, c5, c6⟩ := GC.out _ X0.out
 go_wp2_with fail
 refine (co_Choices_b _ _ HV.out).mono ?_
 rintro e w1 ⟨u1, A1, k1, rfl, hr, o1⟩
 have X1 := hID (X0.out.also o1)
 obtain ⟨hr, o1⟩ := id (And.intro hr o1)
 obtain ⟨b1, p1, cc, rfl, hd⟩ := hr.cellsT (by decide)
 have HD := hID hd
 clear hr hd
 clear o1 X0
 clear c0 c1 c2 c3 c4 c5 c6
 have d0 := HD.out _ (Off.refl _ _) 0 _ rfl
 simp only [Nat.add_zero] at d0
 obtain ⟨c0, c1, c2, c3, c4, c5, c6⟩ := GC.out _ X1.out
 go_wp2_with fail
 refine wp_loop_rounds 2 ?_
 rw [rounds_succ]
 clear c0 c1 c2 c3 c4 c5 c6
 obtain ⟨c0, c1, c2, c3, c4, c5, c6⟩ := GC.out _ X1.out
 go_wp2_with fail
 refine (co_line_b _ _ (HV.out.keepT X1.out) _ _).mono ?_
 rintro e w2 ⟨u2, rfl, hr, o1⟩
 have X2 := hID (X1.out.also o1)
 obtain ⟨hr, o1⟩ := id (And.intro hr o1)
 obtain ⟨A2, k2, rfl, _⟩ := hr.form
 have HS := hID (Rd.mono hr (G := fun k => w.heap.size ≤ k) (fun k hk => Nat.le_trans X1.out.size hk))
 clear hr d0
 clear o1 X1
 clear c0 c1 c2 c3 c4 c5 c6
 obtain ⟨c0, c1, c2, c3, c4, c5, c6⟩ := GC.out _ X2.out
 go_wp2_with (at_builtin; refine @wpList_append_lies _ _ _ _ _ _ _ rfl _ _ 100 rfl w.heap.size 65 i_line (.slice none 0 0) 1 24 Tryz.underlying100 h_line z_line s_line b_line rfl (by decide) (.slice none 0 0) (0) ([]) rfl ((OwnL.nilAt X2.out 65 1).1.alloc _) ⟨w2.heap.size, 0, none⟩ 1 1 [.slice A2 1 k2] rfl rfl ?c1 (by intro u hu; simp at hu; subst hu; rfl) (by decide) (by decide) (by decide) (by have := (OwnL.nilAt X2.out 65 1).2.size; simp; omega) _ rfl ?_)
 case c1 => exact cell_lit _ [.slice A2 1 k2] _
 intro g3 cap3 w3 hown hgrow hat hlt
 have HS' := hID (HS.out.keep (Off.grown (Off.alloc (Off.refl Nob w2) _) hgrow (fun k hk => by cases hk)) (fun _ _ h => h))
 have OW3 := hID ((OwnL.nilAt X2.out 65 1).grown (Off.alloc (Off.refl Nob w2) (.cells #[.slice A2 1 k2] 65)) hown hgrow)
 have X3 := hID OW3.out.2
 clear hown hgrow hat hlt X2
 clear c0 c1 c2 c3 c4 c5 c6
 obtain ⟨c0, c1, c2, c3, c4, c5, c6⟩ := GC.out _ X3.out
 go_wp2_with fail
 rw [rounds_succ]
 clear c0 c1 c2 c3 c4 c5 c6
 obtain ⟨c0, c1, c2, c3, c4, c5, c6⟩ := GC.out _ X3.out
 go_wp2_with fail
 go_ret2
 exact ⟨_, _, rfl, Rd.own OW3.out.1 (fun k hk => (OW3.out.1.lt k hk).1), ⟨_, _, rfl⟩, HS'.out, OW3.out.2⟩
set_option maxHeartbeats 4000000 in
theorem co_fit (w : World) (v va vb : Value) (hv : Rd w (fun _ => True) 1 v 2 [va, vb]) (ha : Rd w (fun _ => True) 7 va 2 pa_a) (hb : Rd w (fun _ => True) 7 vb 1 pa_b) : Calls Tryz.prog 55 #[v] w (RetV w (.tuple #[.int .i64 0, .int .i64 0])) := by
 have Ha := hID ha
 have Hb := hID hb
 obtain ⟨b, o, c, rfl, hc⟩ := hv.cellsT (by decide)
 have GC : Hid (∀ W, Off Nob w W → W.cell? ⟨b, o, none⟩ = some va ∧ W.cell? ⟨b, o + 1, none⟩ = some vb) := hID (fun W ho => ⟨hc W ho 0 _ rfl, hc W ho 1 _ rfl⟩)
 clear hc hv ha hb
 go_enter Tryz.func55, Tryz.ntmps55
 have X0 : Hid (Off Nob w w) := hID (Off.refl _ _)
 obtain ⟨c0, c1⟩ := GC.out _ X0.out
 go_wp2_with fail
 refine wp_loop_rounds 3 ?_
 rw [rounds_succ]
 clear c0 c1
 obtain ⟨c0, c1⟩ := GC.out _ X0.out
 go_wp2_with fail
 refine (co_positions_a _ _ Ha.out).mono ?_
 rintro e w1 ⟨rfl, o1⟩
 have X1 := hID (X0.out.also o1)
 clear o1 X0
 clear c0 c1
 obtain ⟨c0, c1⟩ := GC.out _ X1.out
 go_wp2_with fail
 rw [rounds_succ]
 clear c0 c1
 obtain ⟨c0, c1⟩ := GC.out _ X1.out
 go_wp2_with fail
 refine (co_positions_b _ _ (Hb.out.keepT X1.out)).mono ?_
 rintro e w2 ⟨rfl, o1⟩
 have X2 := hID (X1.out.also o1)
 clear o1 X1
 clear c0 c1
 obtain ⟨c0, c1⟩ := GC.out _ X2.out
 go_wp2_with fail
 rw [rounds_succ]
 clear c0 c1
 obtain ⟨c0, c1⟩ := GC.out _ X2.out
 go_wp2_with fail
 go_ret2
 exact ⟨rfl, X2.out⟩
end Go.Proofs.YtlgjaefcfnndhaaGreatDoor

namespace Go.Proofs.YtlgjaefcfnndhaaGreatDoor
open Go.RowKit
set_option maxRecDepth 100000
theorem Tryz.infoSp : (Tryz.prog.info? 165).map (·.size) = some 2 := by kernel_rfl
def spotV (n : Nat) : Value := .agg #[.int .i64 ((n / 64 : Nat) : Int), .int .u64 ((2 ^ (n % 64) : Nat) : Int)]
theorem pow64 (n : Nat) : (2 ^ (n % 64) : Nat) < 18446744073709551616 := (Nat.pow_lt_pow_iff_right (a := 2) (n := n % 64) (m := 64) (by decide)).2 (Nat.mod_lt _ (by decide))
theorem tat (n : Nat) (hn : n < 4096) (w : World) : Calls Tryz.prog 105 #[.int .i64 n] w fun e w' => e = .returned (spotV n) ∧ Off Nob w w' := by
 have hp := pow64 n
 go_enter Tryz.func105, Tryz.ntmps105
 have hpc : ((2 : Int) ^ (n % 64)) = ((2 ^ (n % 64) : Nat) : Int) := by push_cast; rfl
 have hw : IntKind.u64.wrap (2 ^ (n % 64)) = ((2 ^ (n % 64) : Nat) : Int) := by rw [IntKind.wrap_u64, hpc]; exact Int.emod_eq_of_lt (Int.natCast_nonneg _) (Int.ofNat_lt.2 hp)
 have hd : ((n : Int) / 64) = ((n / 64 : Nat) : Int) := by omega
 have HD := hID (And.intro hpc hd)
 clear hpc hd hp
 go_wp2_with fail
 exact bodyPost_ret (results_cell_row rfl _ _ w.heap.size 165 _ (0, 0) _ rfl (Blk.new w 165 _) Tryz.underlying165 rfl Tryz.infoSp) rfl ⟨by unfold spotV; rw [← HD.out.2, ← HD.out.1], Off.alloc (Off.refl _ _) _⟩
theorem smin (xs : List Int) (hx : ∀ x ∈ xs, -9223372036854775808 ≤ x ∧ x ≤ 9223372036854775807) (h1 : 1 ≤ xs.length) (hn : xs.length ≤ 1024) (w : World) (v : Value) (hv : Rd w (fun _ => True) 1 v xs.length (xs.map (Value.int .i64))) : Calls Tryz.prog 72 #[v] w fun e w' => (∃ m, e = .returned (.int .i64 m) ∧ m ∈ xs ∧ ∀ x ∈ xs, m ≤ x) ∧ w = w' := by
 obtain ⟨b, o, c, rfl, hc⟩ := hv.cellsT (by omega)
 have HC : Hid (∀ k, k < xs.length → w.cell? ⟨b, o + k, none⟩ = some (.int .i64 (xs.getD k 0))) := hID (fun k hk => hc w (Off.refl _ _) k _ (by simp [List.getD_eq_getElem?_getD, List.getElem?_eq_getElem hk]))
 clear hc hv
 have c0 := HC.out 0 (by omega)
 have d0 : decide ((xs.length : Int) < 1) = false := decide_eq_false (by omega)
 obtain ⟨x0, h0⟩ : ∃ x0, xs.getD 0 0 = x0 := ⟨_, rfl⟩
 have H0 := hID h0
 rw [h0, Nat.add_zero] at c0
 clear h0
 go_enter Tryz.func72, Tryz.ntmps72
 go_wp2_with fail
 clear c0
 go_loopw [3, 4] (fun p q wr => ∃ (k : Nat) (m : Int), q = .int .i64 (k : Int) ∧ p = .int .i64 m ∧ 1 ≤ k ∧ k ≤ xs.length ∧ m ∈ xs.take k ∧ (∀ x ∈ xs.take k, m ≤ x) ∧ wr = w) (fun p q wr => xs.length - (intOf q).toNat)
 case atStart => exact ⟨1, x0, rfl, rfl, Nat.le_refl _, h1, by cases xs with | nil => simp at h1 | cons y ys => have := H0.out; simp at this; simp [this], by cases xs with | nil => simp at h1 | cons y ys => have := H0.out; simp at this; simp [this], rfl⟩
 case round =>
  obtain ⟨k, m, rfl, rfl, hk1, hk, hm, hall, rfl⟩ := hrel
  by_cases hlt : k < xs.length
  ·have d1 : decide ((k : Int) < (xs.length : Int)) = true := decide_eq_true (by omega)
   have ck := HC.out k hlt
   obtain ⟨y, hy⟩ : ∃ y, xs.getD k 0 = y := ⟨_, rfl⟩
   have HY : Hid (xs.take (k + 1) = xs.take k ++ [y]) := hID (by rw [← hy, List.getD_eq_getElem?_getD, List.getElem?_eq_getElem hlt]; simp)
   have HM := hID hm
   have HA := hID hall
   have HX := hID hx
   rw [hy] at ck
   clear hy hm hall hx
   go_wp2_with fail
   go_roundw
   case rel =>
    refine ⟨k + 1, min m y, by go_num, rfl, by omega, by omega, ?_, ?_, trivial⟩
    ·rw [HY.out]
     rcases (by omega : min m y = m ∨ min m y = y) with h | h
     ·rw [h]; exact List.mem_append_left _ HM.out
     ·rw [h]; simp
    ·intro x hx
     rw [HY.out] at hx
     rcases List.mem_append.1 hx with h | h
     ·have := HA.out x h; omega
     ·simp at h; omega
   case measure => simp [intOf]; omega
  ·obtain rfl : k = xs.length := by omega
   have d1 : decide ((xs.length : Int) < (xs.length : Int)) = false := decide_eq_false (by omega)
   rw [List.take_length] at hm hall
   have HM := hID hm
   have HA := hID hall
   clear hm hall hx
   go_wp2_with fail
   go_ret
   exact ⟨⟨m, rfl, HM.out, HA.out⟩, rfl⟩
theorem smax (xs : List Int) (hx : ∀ x ∈ xs, -9223372036854775808 ≤ x ∧ x ≤ 9223372036854775807) (h1 : 1 ≤ xs.length) (hn : xs.length ≤ 1024) (w : World) (v : Value) (hv : Rd w (fun _ => True) 1 v xs.length (xs.map (Value.int .i64))) : Calls Tryz.prog 73 #[v] w fun e w' => (∃ m, e = .returned (.int .i64 m) ∧ m ∈ xs ∧ ∀ x ∈ xs, x ≤ m) ∧ w = w' := by
 obtain ⟨b, o, c, rfl, hc⟩ := hv.cellsT (by omega)
 have HC : Hid (∀ k, k < xs.length → w.cell? ⟨b, o + k, none⟩ = some (.int .i64 (xs.getD k 0))) := hID (fun k hk => hc w (Off.refl _ _) k _ (by simp [List.getD_eq_getElem?_getD, List.getElem?_eq_getElem hk]))
 clear hc hv
 have c0 := HC.out 0 (by omega)
 have d0 : decide ((xs.length : Int) < 1) = false := decide_eq_false (by omega)
 obtain ⟨x0, h0⟩ : ∃ x0, xs.getD 0 0 = x0 := ⟨_, rfl⟩
 have H0 := hID h0
 rw [h0, Nat.add_zero] at c0
 clear h0
 go_enter Tryz.func73, Tryz.ntmps73
 go_wp2_with fail
 clear c0
 go_loopw [3, 4] (fun p q wr => ∃ (k : Nat) (m : Int), q = .int .i64 (k : Int) ∧ p = .int .i64 m ∧ 1 ≤ k ∧ k ≤ xs.length ∧ m ∈ xs.take k ∧ (∀ x ∈ xs.take k, x ≤ m) ∧ wr = w) (fun p q wr => xs.length - (intOf q).toNat)
 case atStart => exact ⟨1, x0, rfl, rfl, Nat.le_refl _, h1, by cases xs with | nil => simp at h1 | cons y ys => have := H0.out; simp at this; simp [this], by cases xs with | nil => simp at h1 | cons y ys => have := H0.out; simp at this; simp [this], rfl⟩
 case round =>
  obtain ⟨k, m, rfl, rfl, hk1, hk, hm, hall, rfl⟩ := hrel
  by_cases hlt : k < xs.length
  ·have d1 : decide ((k : Int) < (xs.length : Int)) = true := decide_eq_true (by omega)
   have ck := HC.out k hlt
   obtain ⟨y, hy⟩ : ∃ y, xs.getD k 0 = y := ⟨_, rfl⟩
   have HY : Hid (xs.take (k + 1) = xs.take k ++ [y]) := hID (by rw [← hy, List.getD_eq_getElem?_getD, List.getElem?_eq_getElem hlt]; simp)
   have HM := hID hm
   have HA := hID hall
   have HX := hID hx
   rw [hy] at ck
   clear hy hm hall hx
   go_wp2_with fail
   go_roundw
   case rel =>
    refine ⟨k + 1, max m y, by go_num, rfl, by omega, by omega, ?_, ?_, trivial⟩
    ·rw [HY.out]
     rcases (by omega : max m y = m ∨ max m y = y) with h | h
     ·rw [h]; exact List.mem_append_left _ HM.out
     ·rw [h]; simp
    ·intro x hx
     rw [HY.out] at hx
     rcases List.mem_append.1 hx with h | h
     ·have := HA.out x h; omega
     ·simp at h; omega
   case measure => simp [intOf]; omega
  ·obtain rfl : k = xs.length := by omega
   have d1 : decide ((xs.length : Int) < (xs.length : Int)) = false := decide_eq_false (by omega)
   rw [List.take_length] at hm hall
   have HM := hID hm
   have HA := hID hall
   clear hm hall hx
   go_wp2_with fail
   go_ret
   exact ⟨⟨m, rfl, HM.out, HA.out⟩, rfl⟩
end Go.Proofs.YtlgjaefcfnndhaaGreatDoor
