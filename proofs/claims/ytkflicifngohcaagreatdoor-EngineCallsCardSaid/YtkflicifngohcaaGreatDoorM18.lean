/-
 dragnetref17.words, Check, Rules, Starts and Ends at the plan of the example.
-/
import Derived.Test.YtkflicifngohcaaGreatDoorM17
set_option linter.unusedVariables false
set_option linter.unusedSimpArgs false
namespace Go.Proofs.YtkflicifngohcaaGreatDoor
open Go.RowKit
set_option maxRecDepth 100000
theorem Tryz.infoLa : (Tryz.prog.info? 188).map (fun i => (i.zero, i.size, i.bytes)) = some (some (.agg #[.int .i64 0, .int .i64 0, .int .i64 0]), 3, 24) := by kernel_rfl
def ln_ab : List Value := [.int .i64 0, .int .i64 0, .int .i64 2, .int .i64 1, .int .i64 2, .int .i64 1]
theorem co_words (w : World) : Calls Tryz.prog 150 #[.int .i64 3] w fun e w' => e = .returned (.int .i64 1) ∧ w = w' := by
 go_enter Tryz.func150, Tryz.ntmps150
 go_wp2_with fail
 go_ret
 exact ⟨rfl, rfl⟩
set_option maxHeartbeats 4000000 in
theorem co_lcheck (w : World) (v : Value) (hv : Rd w (fun _ => True) 3 v 2 ln_ab) : Calls Tryz.prog 137 #[.agg #[.int .i64 1, v]] w (RetV w (.tuple #[.int .i64 0, .int .i64 0])) := by
 have HV0 := hID hv
 obtain ⟨b, o, c, rfl, hc⟩ := hv.cellsT (by decide)
 have HV := HV0
 have HC := hID hc
 clear hc hv HV0
 go_enter Tryz.func137, Tryz.ntmps137
 go_wp2_with fail
 have HB0 : Hid (Blk (w.alloc (.cells #[.int .i64 1, .slice (some ⟨b, o, none⟩) 2 c] 97)) w.heap.size 97 #[.int .i64 1, .slice (some ⟨b, o, none⟩) 2 c] ∧ Off Nob w (w.alloc (.cells #[.int .i64 1, .slice (some ⟨b, o, none⟩) 2 c] 97))) := hID ⟨Blk.new _ _ _, Off.alloc (Off.refl _ _) _⟩
 revert HB0
 generalize (w.alloc (.cells #[.int .i64 1, .slice (some ⟨b, o, none⟩) 2 c] 97)) = w0
 intro HB0
 have GC : Hid (∀ W, Off Nob w0 W → W.cell? ⟨w.heap.size, 0, none⟩ = some (.int .i64 1) ∧ W.cell? ⟨w.heap.size, 1, none⟩ = some (.slice (some ⟨b, o, none⟩) 2 c) ∧ W.cell? ⟨b, o, none⟩ = some (.int .i64 0) ∧ W.cell? ⟨b, o + 1, none⟩ = some (.int .i64 0) ∧ W.cell? ⟨b, o + 2, none⟩ = some (.int .i64 2) ∧ W.cell? ⟨b, o + 3, none⟩ = some (.int .i64 1) ∧ W.cell? ⟨b, o + 4, none⟩ = some (.int .i64 2) ∧ W.cell? ⟨b, o + 5, none⟩ = some (.int .i64 1)) := hID (fun W ho => by
  have h := HB0.out.1.to (ho.block _ HB0.out.1.lt (fun h => h))
  have k := HC.out W (HB0.out.2.also ho)
  exact ⟨h.cell 0, h.cell 1, k 0 _ rfl, k 1 _ rfl, k 2 _ rfl, k 3 _ rfl, k 4 _ rfl, k 5 _ rfl⟩)
 have X0 : Hid (Off Nob w0 w0) := hID (Off.refl _ _)
 obtain ⟨t0, t1, c0, c1, c2, c3, c4, c5⟩ := GC.out _ X0.out
 go_wp2_with fail
 refine wp_loop_rounds 3 ?_
 rw [rounds_succ]
 clear t0 t1 c0 c1 c2 c3 c4 c5
 obtain ⟨t0, t1, c0, c1, c2, c3, c4, c5⟩ := GC.out _ X0.out
 go_wp2_with fail
 have BL := hID (Blk.new w0 188 #[.int .i64 0, .int .i64 0, .int .i64 2])
 have X1 := hID (X0.out.alloc (.cells #[.int .i64 0, .int .i64 0, .int .i64 2] 188))
 clear X0
 clear t0 t1 c0 c1 c2 c3 c4 c5
 revert BL X1
 generalize w0.alloc (.cells #[.int .i64 0, .int .i64 0, .int .i64 2] 188) = w10
 intro BL X1
 have y0 := BL.out.cell 0
 have y1 := BL.out.cell 1
 have y2 := BL.out.cell 2
 simp only [List.getElem?_toArray, List.getElem?_cons_succ, List.getElem?_cons_zero] at y0 y1 y2
 go_quiet (fail)
 have X2 := hID (X1.out.drewN nq)
 clear X1 BL y0 y1 y2
 generalize w10.drewN nq = w11 at *
 obtain ⟨t0, t1, c0, c1, c2, c3, c4, c5⟩ := GC.out _ X2.out
 go_wp2_with fail
 rw [rounds_succ]
 clear t0 t1 c0 c1 c2 c3 c4 c5
 obtain ⟨t0, t1, c0, c1, c2, c3, c4, c5⟩ := GC.out _ X2.out
 go_wp2_with fail
 have BL := hID (Blk.new w11 188 #[.int .i64 1, .int .i64 2, .int .i64 1])
 have X3 := hID (X2.out.alloc (.cells #[.int .i64 1, .int .i64 2, .int .i64 1] 188))
 clear X2
 clear t0 t1 c0 c1 c2 c3 c4 c5
 revert BL X3
 generalize w11.alloc (.cells #[.int .i64 1, .int .i64 2, .int .i64 1] 188) = w21
 intro BL X3
 have y0 := BL.out.cell 0
 have y1 := BL.out.cell 1
 have y2 := BL.out.cell 2
 simp only [List.getElem?_toArray, List.getElem?_cons_succ, List.getElem?_cons_zero] at y0 y1 y2
 go_quiet (fail)
 have X4 := hID (X3.out.drewN nq)
 clear X3 BL y0 y1 y2
 generalize w21.drewN nq = w22 at *
 obtain ⟨t0, t1, c0, c1, c2, c3, c4, c5⟩ := GC.out _ X4.out
 go_wp2_with fail
 rw [rounds_succ]
 clear t0 t1 c0 c1 c2 c3 c4 c5
 obtain ⟨t0, t1, c0, c1, c2, c3, c4, c5⟩ := GC.out _ X4.out
 go_wp2_with fail
 go_region_held3 (fun W => W.cell? ⟨w.heap.size, 0, none⟩ = some (.int .i64 1))
  (first | with_reducible assumption | go_keep)
  (first
   | (go_at_call 150; refine (co_words _).mono ?_; rintro e w' ⟨rfl, rfl⟩))
 go_wp2_with fail
 go_ret2
 exact ⟨rfl, HB0.out.2.also X4.out.drew⟩
set_option maxHeartbeats 4000000 in
theorem co_lrules (w : World) (v : Value) (hv : Rd w (fun _ => True) 3 v 2 ln_ab) : Calls Tryz.prog 115 #[.agg #[.int .i64 1, v]] w (RetV w (.tuple #[.int .i64 2, .int .i64 0])) := by
 have HV0 := hID hv
 obtain ⟨b, o, c, rfl, hc⟩ := hv.cellsT (by decide)
 have HV := HV0
 have HC := hID hc
 clear hc hv HV0
 go_enter Tryz.func115, Tryz.ntmps115
 go_wp2_with fail
 have HB0 : Hid (Blk (w.alloc (.cells #[.int .i64 1, .slice (some ⟨b, o, none⟩) 2 c] 97)) w.heap.size 97 #[.int .i64 1, .slice (some ⟨b, o, none⟩) 2 c] ∧ Off Nob w (w.alloc (.cells #[.int .i64 1, .slice (some ⟨b, o, none⟩) 2 c] 97))) := hID ⟨Blk.new _ _ _, Off.alloc (Off.refl _ _) _⟩
 revert HB0
 generalize (w.alloc (.cells #[.int .i64 1, .slice (some ⟨b, o, none⟩) 2 c] 97)) = w0
 intro HB0
 have GC : Hid (∀ W, Off Nob w0 W → W.cell? ⟨w.heap.size, 0, none⟩ = some (.int .i64 1) ∧ W.cell? ⟨w.heap.size, 1, none⟩ = some (.slice (some ⟨b, o, none⟩) 2 c) ∧ W.cell? ⟨b, o, none⟩ = some (.int .i64 0) ∧ W.cell? ⟨b, o + 1, none⟩ = some (.int .i64 0) ∧ W.cell? ⟨b, o + 2, none⟩ = some (.int .i64 2) ∧ W.cell? ⟨b, o + 3, none⟩ = some (.int .i64 1) ∧ W.cell? ⟨b, o + 4, none⟩ = some (.int .i64 2) ∧ W.cell? ⟨b, o + 5, none⟩ = some (.int .i64 1)) := hID (fun W ho => by
  have h := HB0.out.1.to (ho.block _ HB0.out.1.lt (fun h => h))
  have k := HC.out W (HB0.out.2.also ho)
  exact ⟨h.cell 0, h.cell 1, k 0 _ rfl, k 1 _ rfl, k 2 _ rfl, k 3 _ rfl, k 4 _ rfl, k 5 _ rfl⟩)
 have X0 : Hid (Off Nob w0 w0) := hID (Off.refl _ _)
 obtain ⟨t0, t1, c0, c1, c2, c3, c4, c5⟩ := GC.out _ X0.out
 go_wp2_with fail
 refine (co_lcheck _ _ (HV.out.keepT HB0.out.2)).mono ?_
 rintro e w1 ⟨rfl, o1⟩
 have X1 := hID (X0.out.also o1)
 clear o1 X0
 clear t0 t1 c0 c1 c2 c3 c4 c5
 obtain ⟨t0, t1, c0, c1, c2, c3, c4, c5⟩ := GC.out _ X1.out
 go_wp2_with fail
 go_ret2
 exact ⟨rfl, HB0.out.2.also X1.out⟩
set_option maxHeartbeats 4000000 in
theorem co_lstarts (w : World) (v : Value) (hv : Rd w (fun _ => True) 3 v 2 ln_ab) : Calls Tryz.prog 116 #[.agg #[.int .i64 1, v]] w (fun e w' => ∃ u, e = .returned (.tuple #[u, .int .i64 0]) ∧ Rd w' (fun k => w.heap.size ≤ k) 1 u 1 [.int .u64 5] ∧ Off Nob w w') := by
 have HV0 := hID hv
 obtain ⟨b, o, c, rfl, hc⟩ := hv.cellsT (by decide)
 have HV := HV0
 have HC := hID hc
 clear hc hv HV0
 obtain ⟨i_int, h_int, z_int, s_int, b_int⟩ := info_parts Tryz.infoI'
 go_enter Tryz.func116, Tryz.ntmps116
 go_wp2_with fail
 have HB0 : Hid (Blk (w.alloc (.cells #[.int .i64 1, .slice (some ⟨b, o, none⟩) 2 c] 97)) w.heap.size 97 #[.int .i64 1, .slice (some ⟨b, o, none⟩) 2 c] ∧ Off Nob w (w.alloc (.cells #[.int .i64 1, .slice (some ⟨b, o, none⟩) 2 c] 97))) := hID ⟨Blk.new _ _ _, Off.alloc (Off.refl _ _) _⟩
 revert HB0
 generalize (w.alloc (.cells #[.int .i64 1, .slice (some ⟨b, o, none⟩) 2 c] 97)) = w0
 intro HB0
 have GC : Hid (∀ W, Off Nob w0 W → W.cell? ⟨w.heap.size, 0, none⟩ = some (.int .i64 1) ∧ W.cell? ⟨w.heap.size, 1, none⟩ = some (.slice (some ⟨b, o, none⟩) 2 c) ∧ W.cell? ⟨b, o, none⟩ = some (.int .i64 0) ∧ W.cell? ⟨b, o + 1, none⟩ = some (.int .i64 0) ∧ W.cell? ⟨b, o + 2, none⟩ = some (.int .i64 2) ∧ W.cell? ⟨b, o + 3, none⟩ = some (.int .i64 1) ∧ W.cell? ⟨b, o + 4, none⟩ = some (.int .i64 2) ∧ W.cell? ⟨b, o + 5, none⟩ = some (.int .i64 1)) := hID (fun W ho => by
  have h := HB0.out.1.to (ho.block _ HB0.out.1.lt (fun h => h))
  have k := HC.out W (HB0.out.2.also ho)
  exact ⟨h.cell 0, h.cell 1, k 0 _ rfl, k 1 _ rfl, k 2 _ rfl, k 3 _ rfl, k 4 _ rfl, k 5 _ rfl⟩)
 have X0 : Hid (Off Nob w0 w0) := hID (Off.refl _ _)
 obtain ⟨t0, t1, c0, c1, c2, c3, c4, c5⟩ := GC.out _ X0.out
 go_wp2_with fail
 refine (co_lcheck _ _ (HV.out.keepT HB0.out.2)).mono ?_
 rintro e w1 ⟨rfl, o1⟩
 have X1 := hID (X0.out.also o1)
 clear o1 X0
 clear t0 t1 c0 c1 c2 c3 c4 c5
 obtain ⟨t0, t1, c0, c1, c2, c3, c4, c5⟩ := GC.out _ X1.out
 go_wp2_with fail
 refine wp_loop_rounds 3 ?_
 rw [rounds_succ]
 clear t0 t1 c0 c1 c2 c3 c4 c5
 obtain ⟨t0, t1, c0, c1, c2, c3, c4, c5⟩ := GC.out _ X1.out
 go_wp2_with (at_builtin; refine @wpList_append_lies _ _ _ _ _ _ _ rfl _ _ 22 rfl w0.heap.size 3 i_int (.int .i64 0) 1 8 Tryz.underlying22 h_int z_int s_int b_int rfl (by decide) (.slice none 0 0) (0) ([]) rfl ((OwnL.nilAt X1.out 3 1).1.alloc _) ⟨w1.heap.size, 0, none⟩ 1 1 [.int .i64 0] rfl rfl ?c1 (by decide) (by decide) (by decide) (by decide) (by have := (OwnL.nilAt X1.out 3 1).2.size; simp; omega) _ rfl ?_)
 case c1 => exact cell_lit _ [.int .i64 0] _
 intro g2 cap2 w2 hown hgrow hat hlt
 have OW2 := hID ((OwnL.nilAt X1.out 3 1).grown (Off.alloc (Off.refl Nob w1) (.cells #[.int .i64 0] 3)) hown hgrow)
 have X2 := hID OW2.out.2
 clear hown hgrow hat hlt X1
 clear t0 t1 c0 c1 c2 c3 c4 c5
 obtain ⟨t0, t1, c0, c1, c2, c3, c4, c5⟩ := GC.out _ X2.out
 go_wp2_with fail
 rw [rounds_succ]
 clear t0 t1 c0 c1 c2 c3 c4 c5
 obtain ⟨t0, t1, c0, c1, c2, c3, c4, c5⟩ := GC.out _ X2.out
 go_wp2_with (at_builtin; refine @wpList_append_lies _ _ _ _ _ _ _ rfl _ _ 22 rfl w0.heap.size 3 i_int (.int .i64 0) 1 8 Tryz.underlying22 h_int z_int s_int b_int rfl (by decide) (.slice (some ⟨g2, 0, none⟩) (0 + 1) cap2) (0 + 1) ([] ++ [.int .i64 0]) rfl (OW2.out.1.alloc _) ⟨w2.heap.size, 0, none⟩ 1 1 [.int .i64 2] rfl rfl ?c1 (by decide) (by decide) (by decide) (by decide) (by have := OW2.out.2.size; simp; omega) _ rfl ?_)
 case c1 => exact cell_lit _ [.int .i64 2] _
 intro g3 cap3 w3 hown hgrow hat hlt
 have OW3 := hID (OW2.out.grown (Off.alloc (Off.refl Nob w2) (.cells #[.int .i64 2] 3)) hown hgrow)
 have X3 := hID OW3.out.2
 clear hown hgrow hat hlt X2 OW2
 clear t0 t1 c0 c1 c2 c3 c4 c5
 obtain ⟨t0, t1, c0, c1, c2, c3, c4, c5⟩ := GC.out _ X3.out
 go_wp2_with fail
 rw [rounds_succ]
 clear t0 t1 c0 c1 c2 c3 c4 c5
 obtain ⟨t0, t1, c0, c1, c2, c3, c4, c5⟩ := GC.out _ X3.out
 go_wp2_with fail
 refine (co_rof_02 _ _ OW3.out.rd).mono ?_
 rintro e w4 ⟨u, rfl, hr, o1⟩
 have X4 := hID (X3.out.also o1)
 obtain ⟨hr, o1⟩ := id (And.intro hr o1)
 have HR := hID (Rd.mono hr (G := fun k => w.heap.size ≤ k) (fun k hk => Nat.le_trans (HB0.out.2.also X3.out).size hk))
 clear hr
 clear o1 X3
 clear t0 t1 c0 c1 c2 c3 c4 c5
 obtain ⟨t0, t1, c0, c1, c2, c3, c4, c5⟩ := GC.out _ X4.out
 go_wp2_with fail
 go_ret2
 exact ⟨_, rfl, HR.out, HB0.out.2.also X4.out⟩
set_option maxHeartbeats 4000000 in
theorem co_lends0 (w : World) (v : Value) (hv : Rd w (fun _ => True) 3 v 2 ln_ab) : Calls Tryz.prog 117 #[.agg #[.int .i64 1, v], .int .i64 0] w (fun e w' => ∃ u, e = .returned (.tuple #[u, .int .i64 0]) ∧ Rd w' (fun k => w.heap.size ≤ k) 1 u 1 [.int .u64 2] ∧ Off Nob w w') := by
 have hw0 : IntKind.i64.wrap 0 = 0 := rfl
 have hw1 : IntKind.i64.wrap 1 = 1 := rfl
 have hw2 : IntKind.i64.wrap 2 = 2 := rfl
 have hw3 : IntKind.i64.wrap 3 = 3 := rfl
 have HV0 := hID hv
 obtain ⟨b, o, c, rfl, hc⟩ := hv.cellsT (by decide)
 have HV := HV0
 have HC := hID hc
 clear hc hv HV0
 obtain ⟨i_int, h_int, z_int, s_int, b_int⟩ := info_parts Tryz.infoI'
 go_enter Tryz.func117, Tryz.ntmps117
 go_wp2_with fail
 have HB0 : Hid (Blk (w.alloc (.cells #[.int .i64 1, .slice (some ⟨b, o, none⟩) 2 c] 97)) w.heap.size 97 #[.int .i64 1, .slice (some ⟨b, o, none⟩) 2 c] ∧ Off Nob w (w.alloc (.cells #[.int .i64 1, .slice (some ⟨b, o, none⟩) 2 c] 97))) := hID ⟨Blk.new _ _ _, Off.alloc (Off.refl _ _) _⟩
 revert HB0
 generalize (w.alloc (.cells #[.int .i64 1, .slice (some ⟨b, o, none⟩) 2 c] 97)) = w0
 intro HB0
 have GC : Hid (∀ W, Off Nob w0 W → W.cell? ⟨w.heap.size, 0, none⟩ = some (.int .i64 1) ∧ W.cell? ⟨w.heap.size, 1, none⟩ = some (.slice (some ⟨b, o, none⟩) 2 c) ∧ W.cell? ⟨b, o, none⟩ = some (.int .i64 0) ∧ W.cell? ⟨b, o + 1, none⟩ = some (.int .i64 0) ∧ W.cell? ⟨b, o + 2, none⟩ = some (.int .i64 2) ∧ W.cell? ⟨b, o + 3, none⟩ = some (.int .i64 1) ∧ W.cell? ⟨b, o + 4, none⟩ = some (.int .i64 2) ∧ W.cell? ⟨b, o + 5, none⟩ = some (.int .i64 1)) := hID (fun W ho => by
  have h := HB0.out.1.to (ho.block _ HB0.out.1.lt (fun h => h))
  have k := HC.out W (HB0.out.2.also ho)
  exact ⟨h.cell 0, h.cell 1, k 0 _ rfl, k 1 _ rfl, k 2 _ rfl, k 3 _ rfl, k 4 _ rfl, k 5 _ rfl⟩)
 have X0 : Hid (Off Nob w0 w0) := hID (Off.refl _ _)
 obtain ⟨t0, t1, c0, c1, c2, c3, c4, c5⟩ := GC.out _ X0.out
 go_wp2_with fail
 refine (co_lrules _ _ (HV.out.keepT HB0.out.2)).mono ?_
 rintro e w1 ⟨rfl, o1⟩
 have X1 := hID (X0.out.also o1)
 clear o1 X0
 clear t0 t1 c0 c1 c2 c3 c4 c5
 obtain ⟨t0, t1, c0, c1, c2, c3, c4, c5⟩ := GC.out _ X1.out
 go_wp2_with fail
 refine wp_loop_rounds 3 ?_
 rw [rounds_succ]
 clear t0 t1 c0 c1 c2 c3 c4 c5
 obtain ⟨t0, t1, c0, c1, c2, c3, c4, c5⟩ := GC.out _ X1.out
 go_wp2_with fail
 refine wp_region_held_drew (S := fun W => W.cell? ⟨w.heap.size, 1, none⟩ = some (.slice (some ⟨b, o, none⟩) 2 c) ∧ W.cell? ⟨b, o + 1, none⟩ = some (.int .i64 0) ∧ W.cell? ⟨b, o + 2, none⟩ = some (.int .i64 2)) (by kernel_rfl) ⟨t1, c1, c2⟩ (fun hHeld => ?_)
 refine wpAnyH_take (i := 0) (v := ?v0) rfl (by kernel_rfl) (by kernel_rfl) (by kernel_rfl) (fun _ _ _ h => h) (Or.inl ⟨by rfl, ?h0⟩) (by assumption) ?r0
 case h0 => (intro w hSw; (try dsimp only at hSw); go_simp <;> with_reducible rfl)
 try simp only [Act.put, qL1, qL2, qL3, qL4, qL5, qL6]
 refine wpAnyH_take (i := 1) (v := ?v1) rfl (by kernel_rfl) (by kernel_rfl) (by kernel_rfl) (fun _ _ _ h => h) (Or.inl ⟨by rfl, ?h1⟩) (by assumption) ?r1
 case h1 => (intro w hSw; (try dsimp only at hSw); go_simp <;> with_reducible rfl)
 try simp only [Act.put, qL1, qL2, qL3, qL4, qL5, qL6]
 refine wpAnyH_take (i := 2) (v := ?v2) rfl (by kernel_rfl) (by kernel_rfl) (by kernel_rfl) (fun _ _ _ h => h) (Or.inl ⟨by rfl, ?h2⟩) (by assumption) ?r2
 case h2 => (intro w hSw; (try dsimp only at hSw); go_simp <;> with_reducible rfl)
 try simp only [Act.put, qL1, qL2, qL3, qL4, qL5, qL6]
 refine wpAnyH_take (i := 3) (v := ?v3) rfl (by kernel_rfl) (by kernel_rfl) (by kernel_rfl) (fun _ _ _ h => h) (Or.inl ⟨by rfl, ?h3⟩) (by assumption) ?r3
 case h3 => (intro w hSw; (try dsimp only at hSw); go_simp <;> with_reducible rfl)
 try simp only [Act.put, qL1, qL2, qL3, qL4, qL5, qL6]
 refine wpAnyH_take (i := 4) (v := ?v4) rfl (by kernel_rfl) (by kernel_rfl) (by kernel_rfl) (fun _ _ _ h => h) (Or.inl ⟨by rfl, ?h4⟩) (by assumption) ?r4
 case h4 => (intro w hSw; (try dsimp only at hSw); go_simp <;> with_reducible rfl)
 try simp only [Act.put, qL1, qL2, qL3, qL4, qL5, qL6]
 refine wpAnyH_take (i := 5) (v := ?v5) rfl (by kernel_rfl) (by kernel_rfl) (by kernel_rfl) (fun _ _ _ h => h) (Or.inl ⟨by rfl, ?h5⟩) (by assumption) ?r5
 case h5 => (intro w hSw; (try dsimp only at hSw); go_simp <;> with_reducible rfl)
 try simp only [Act.put, qL1, qL2, qL3, qL4, qL5, qL6]
 refine wpAnyH_take (i := 6) (v := ?v6) rfl (by kernel_rfl) (by kernel_rfl) (by kernel_rfl) (fun _ _ _ h => h) (Or.inl ⟨by rfl, ?h6⟩) (by assumption) ?r6
 case h6 => (intro w hSw; (try dsimp only at hSw); go_simp <;> with_reducible rfl)
 try simp only [Act.put, qL1, qL2, qL3, qL4, qL5, qL6]
 refine wpAnyH_take (i := 7) (v := ?v7) rfl (by kernel_rfl) (by kernel_rfl) (by kernel_rfl) (fun _ _ _ h => h) (Or.inl ⟨by rfl, ?h7⟩) (by assumption) ?r7
 case h7 => (intro w hSw; (try dsimp only at hSw); go_simp <;> with_reducible rfl)
 try simp only [Act.put, qL1, qL2, qL3, qL4, qL5, qL6]
 refine wpAnyH_take (i := 8) (v := ?v8) rfl (by kernel_rfl) (by kernel_rfl) (by kernel_rfl) (fun _ _ _ h => h) (Or.inl ⟨by rfl, ?h8⟩) (by assumption) ?r8
 case h8 => (intro w hSw; (try dsimp only at hSw); go_simp <;> with_reducible rfl)
 try simp only [Act.put, qL1, qL2, qL3, qL4, qL5, qL6]
 refine wpAnyH_take (i := 9) (v := ?v9) rfl (by kernel_rfl) (by kernel_rfl) (by kernel_rfl) (fun _ _ _ h => h) (Or.inl ⟨by rfl, ?h9⟩) (by assumption) ?r9
 case h9 => (intro w hSw; (try dsimp only at hSw); go_simp <;> with_reducible rfl)
 try simp only [Act.put, qL1, qL2, qL3, qL4, qL5, qL6]
 refine wpAnyH_take (i := 10) (v := ?v10) rfl (by kernel_rfl) (by kernel_rfl) (by kernel_rfl) (fun _ _ _ h => h) (Or.inl ⟨by rfl, ?h10⟩) (by assumption) ?r10
 case h10 => (intro w hSw; (try dsimp only at hSw); go_simp <;> with_reducible rfl)
 try simp only [Act.put, qL1, qL2, qL3, qL4, qL5, qL6]
 refine wpAnyH_take (i := 11) (v := ?v11) rfl (by kernel_rfl) (by kernel_rfl) (by kernel_rfl) (fun _ _ _ h => h) (Or.inl ⟨by rfl, ?h11⟩) (by assumption) ?r11
 case h11 => (intro w hSw; (try dsimp only at hSw); go_simp <;> with_reducible rfl)
 try simp only [Act.put, qL1, qL2, qL3, qL4, qL5, qL6]
 refine wpAnyH_take (i := 12) (v := ?v12) rfl (by kernel_rfl) (by kernel_rfl) (by kernel_rfl) (fun _ _ _ h => h) (Or.inl ⟨by rfl, ?h12⟩) (by assumption) ?r12
 case h12 => (intro w hSw; (try dsimp only at hSw); go_simp <;> with_reducible rfl)
 try simp only [Act.put, qL1, qL2, qL3, qL4, qL5, qL6]
 refine wpAnyH_take (i := 13) (v := ?v13) rfl (by kernel_rfl) (by kernel_rfl) (by kernel_rfl) (fun _ _ _ h => h) (Or.inl ⟨by rfl, ?h13⟩) (by assumption) ?r13
 case h13 => (intro w hSw; (try dsimp only at hSw); go_simp <;> with_reducible rfl)
 try simp only [Act.put, qL1, qL2, qL3, qL4, qL5, qL6]
 refine wpAnyH_take (i := 14) (v := ?v14) rfl (by kernel_rfl) (by kernel_rfl) (by kernel_rfl) (fun _ _ _ h => h) (Or.inl ⟨by rfl, ?h14⟩) (by assumption) ?r14
 case h14 => (intro w hSw; (try dsimp only at hSw); go_simp <;> with_reducible rfl)
 try simp only [Act.put, qL1, qL2, qL3, qL4, qL5, qL6]
 refine wpAnyH_ready (rs := [15]) (by kernel_rfl) (by simp) ?_
 refine AllReadyH.cons rfl (fun K hK => ?s15) ?m15
 case s15 =>
  go_simp
  refine hK.out _ _ ?_ (fun hHeld => ?_)
  ·first | (simp; exact ⟨t1, c1, c2⟩) | go_keep
  clear hK K
  try simp only [Act.put, qL1, qL2, qL3, qL4, qL5, qL6]
  refine wpAnyH_ready (rs := [16]) (by kernel_rfl) (by simp) ?_
  refine AllReadyH.cons rfl (fun K hK => ?s16) ?m16
  case s16 =>
   refine wp_append_lies _ _ _ 22 rfl w0.heap.size 3 i_int (.int .i64 0) 1 8 Tryz.underlying22 h_int z_int s_int b_int rfl (by decide) (.slice none 0 0) 0 [] rfl ((OwnL.nilAt X1.out.drew 3 1).1.alloc _) ⟨w1.heap.size, 0, none⟩ 1 1 [.int .i64 1] rfl rfl ?c1 (by decide) (by decide) (by decide) (by decide) (by have := X1.out.size; simp; omega) _ rfl ?_
   case c1 => exact cell_one w1.drew (.int .i64 1) 3
   intro g cap w2 hown hgrow hat hlt
   have OW2 := hID ((OwnL.nilAt X1.out.drew 3 1).grown (Off.alloc (Off.refl Nob w1.drew) (.cells #[.int .i64 1] 3)) hown hgrow)
   have X2 := hID OW2.out.2
   have kq := GC.out _ X2.out
   clear hown hgrow hat hlt X1
   refine hK.out _ _ ?_ (fun hHeld => ?_)
   ·first | exact ⟨kq.2.1, kq.2.2.2.1, kq.2.2.2.2.1⟩ | go_keep
   clear hK K
   try simp only [Act.put, qL1, qL2, qL3, qL4, qL5, qL6]
   refine wpAnyH_take (i := 17) (v := ?v17) rfl (by kernel_rfl) (by kernel_rfl) (by kernel_rfl) (fun _ _ _ h => h) (Or.inl ⟨by rfl, ?h17⟩) (by assumption) ?r17
   case h17 => (intro w hSw; (try dsimp only at hSw); go_simp <;> with_reducible rfl)
   try simp only [Act.put, qL1, qL2, qL3, qL4, qL5, qL6]
   refine wpAnyH_done (by kernel_rfl) ?_ _
   clear hHeld kq t0 t1 c0 c1 c2 c3 c4 c5
   obtain ⟨t0, t1, c0, c1, c2, c3, c4, c5⟩ := GC.out _ X2.out
   go_wp2_with fail
   rw [rounds_succ]
   clear t0 t1 c0 c1 c2 c3 c4 c5
   obtain ⟨t0, t1, c0, c1, c2, c3, c4, c5⟩ := GC.out _ X2.out
   go_wp2_with fail
   rw [rounds_succ]
   clear t0 t1 c0 c1 c2 c3 c4 c5
   obtain ⟨t0, t1, c0, c1, c2, c3, c4, c5⟩ := GC.out _ X2.out
   go_wp2_with fail
   refine (co_rof_1 _ _ OW2.out.rd).mono ?_
   rintro e w3 ⟨u, rfl, hr, o1⟩
   have X3 := hID (X2.out.also o1)
   obtain ⟨hr, o1⟩ := id (And.intro hr o1)
   have HR := hID (Rd.mono hr (G := fun k => w.heap.size ≤ k) (fun k hk => Nat.le_trans (HB0.out.2.also X2.out).size hk))
   clear hr
   clear o1 X2
   clear t0 t1 c0 c1 c2 c3 c4 c5
   obtain ⟨t0, t1, c0, c1, c2, c3, c4, c5⟩ := GC.out _ X3.out
   go_wp2_with fail
   go_ret2
   exact ⟨_, rfl, HR.out, HB0.out.2.also X3.out⟩
  exact AllReadyH.nil
 exact AllReadyH.nil
set_option maxHeartbeats 4000000 in
theorem co_lends1 (w : World) (v : Value) (hv : Rd w (fun _ => True) 3 v 2 ln_ab) : Calls Tryz.prog 117 #[.agg #[.int .i64 1, v], .int .i64 1] w (fun e w' => ∃ u, e = .returned (.tuple #[u, .int .i64 0]) ∧ Rd w' (fun k => w.heap.size ≤ k) 1 u 1 [.int .u64 4] ∧ Off Nob w w') := by
 have hw0 : IntKind.i64.wrap 0 = 0 := rfl
 have hw1 : IntKind.i64.wrap 1 = 1 := rfl
 have hw2 : IntKind.i64.wrap 2 = 2 := rfl
 have hw3 : IntKind.i64.wrap 3 = 3 := rfl
 have HV0 := hID hv
 obtain ⟨b, o, c, rfl, hc⟩ := hv.cellsT (by decide)
 have HV := HV0
 have HC := hID hc
 clear hc hv HV0
 obtain ⟨i_int, h_int, z_int, s_int, b_int⟩ := info_parts Tryz.infoI'
 go_enter Tryz.func117, Tryz.ntmps117
 go_wp2_with fail
 have HB0 : Hid (Blk (w.alloc (.cells #[.int .i64 1, .slice (some ⟨b, o, none⟩) 2 c] 97)) w.heap.size 97 #[.int .i64 1, .slice (some ⟨b, o, none⟩) 2 c] ∧ Off Nob w (w.alloc (.cells #[.int .i64 1, .slice (some ⟨b, o, none⟩) 2 c] 97))) := hID ⟨Blk.new _ _ _, Off.alloc (Off.refl _ _) _⟩
 revert HB0
 generalize (w.alloc (.cells #[.int .i64 1, .slice (some ⟨b, o, none⟩) 2 c] 97)) = w0
 intro HB0
 have GC : Hid (∀ W, Off Nob w0 W → W.cell? ⟨w.heap.size, 0, none⟩ = some (.int .i64 1) ∧ W.cell? ⟨w.heap.size, 1, none⟩ = some (.slice (some ⟨b, o, none⟩) 2 c) ∧ W.cell? ⟨b, o, none⟩ = some (.int .i64 0) ∧ W.cell? ⟨b, o + 1, none⟩ = some (.int .i64 0) ∧ W.cell? ⟨b, o + 2, none⟩ = some (.int .i64 2) ∧ W.cell? ⟨b, o + 3, none⟩ = some (.int .i64 1) ∧ W.cell? ⟨b, o + 4, none⟩ = some (.int .i64 2) ∧ W.cell? ⟨b, o + 5, none⟩ = some (.int .i64 1)) := hID (fun W ho => by
  have h := HB0.out.1.to (ho.block _ HB0.out.1.lt (fun h => h))
  have k := HC.out W (HB0.out.2.also ho)
  exact ⟨h.cell 0, h.cell 1, k 0 _ rfl, k 1 _ rfl, k 2 _ rfl, k 3 _ rfl, k 4 _ rfl, k 5 _ rfl⟩)
 have X0 : Hid (Off Nob w0 w0) := hID (Off.refl _ _)
 obtain ⟨t0, t1, c0, c1, c2, c3, c4, c5⟩ := GC.out _ X0.out
 go_wp2_with fail
 refine (co_lrules _ _ (HV.out.keepT HB0.out.2)).mono ?_
 rintro e w1 ⟨rfl, o1⟩
 have X1 := hID (X0.out.also o1)
 clear o1 X0
 clear t0 t1 c0 c1 c2 c3 c4 c5
 obtain ⟨t0, t1, c0, c1, c2, c3, c4, c5⟩ := GC.out _ X1.out
 go_wp2_with fail
 refine wp_loop_rounds 3 ?_
 rw [rounds_succ]
 clear t0 t1 c0 c1 c2 c3 c4 c5
 obtain ⟨t0, t1, c0, c1, c2, c3, c4, c5⟩ := GC.out _ X1.out
 go_wp2_with fail
 rw [rounds_succ]
 clear t0 t1 c0 c1 c2 c3 c4 c5
 obtain ⟨t0, t1, c0, c1, c2, c3, c4, c5⟩ := GC.out _ X1.out
 go_wp2_with fail
 refine wp_region_held_drew (S := fun W => W.cell? ⟨w.heap.size, 1, none⟩ = some (.slice (some ⟨b, o, none⟩) 2 c) ∧ W.cell? ⟨b, o + 4, none⟩ = some (.int .i64 2) ∧ W.cell? ⟨b, o + 5, none⟩ = some (.int .i64 1)) (by kernel_rfl) ⟨t1, c4, c5⟩ (fun hHeld => ?_)
 refine wpAnyH_take (i := 0) (v := ?v0) rfl (by kernel_rfl) (by kernel_rfl) (by kernel_rfl) (fun _ _ _ h => h) (Or.inl ⟨by rfl, ?h0⟩) (by assumption) ?r0
 case h0 => (intro w hSw; (try dsimp only at hSw); go_simp <;> with_reducible rfl)
 try simp only [Act.put, qL1, qL2, qL3, qL4, qL5, qL6]
 refine wpAnyH_take (i := 1) (v := ?v1) rfl (by kernel_rfl) (by kernel_rfl) (by kernel_rfl) (fun _ _ _ h => h) (Or.inl ⟨by rfl, ?h1⟩) (by assumption) ?r1
 case h1 => (intro w hSw; (try dsimp only at hSw); go_simp <;> with_reducible rfl)
 try simp only [Act.put, qL1, qL2, qL3, qL4, qL5, qL6]
 refine wpAnyH_take (i := 2) (v := ?v2) rfl (by kernel_rfl) (by kernel_rfl) (by kernel_rfl) (fun _ _ _ h => h) (Or.inl ⟨by rfl, ?h2⟩) (by assumption) ?r2
 case h2 => (intro w hSw; (try dsimp only at hSw); go_simp <;> with_reducible rfl)
 try simp only [Act.put, qL1, qL2, qL3, qL4, qL5, qL6]
 refine wpAnyH_take (i := 3) (v := ?v3) rfl (by kernel_rfl) (by kernel_rfl) (by kernel_rfl) (fun _ _ _ h => h) (Or.inl ⟨by rfl, ?h3⟩) (by assumption) ?r3
 case h3 => (intro w hSw; (try dsimp only at hSw); go_simp <;> with_reducible rfl)
 try simp only [Act.put, qL1, qL2, qL3, qL4, qL5, qL6]
 refine wpAnyH_take (i := 4) (v := ?v4) rfl (by kernel_rfl) (by kernel_rfl) (by kernel_rfl) (fun _ _ _ h => h) (Or.inl ⟨by rfl, ?h4⟩) (by assumption) ?r4
 case h4 => (intro w hSw; (try dsimp only at hSw); go_simp <;> with_reducible rfl)
 try simp only [Act.put, qL1, qL2, qL3, qL4, qL5, qL6]
 refine wpAnyH_take (i := 5) (v := ?v5) rfl (by kernel_rfl) (by kernel_rfl) (by kernel_rfl) (fun _ _ _ h => h) (Or.inl ⟨by rfl, ?h5⟩) (by assumption) ?r5
 case h5 => (intro w hSw; (try dsimp only at hSw); go_simp <;> with_reducible rfl)
 try simp only [Act.put, qL1, qL2, qL3, qL4, qL5, qL6]
 refine wpAnyH_take (i := 6) (v := ?v6) rfl (by kernel_rfl) (by kernel_rfl) (by kernel_rfl) (fun _ _ _ h => h) (Or.inl ⟨by rfl, ?h6⟩) (by assumption) ?r6
 case h6 => (intro w hSw; (try dsimp only at hSw); go_simp <;> with_reducible rfl)
 try simp only [Act.put, qL1, qL2, qL3, qL4, qL5, qL6]
 refine wpAnyH_take (i := 7) (v := ?v7) rfl (by kernel_rfl) (by kernel_rfl) (by kernel_rfl) (fun _ _ _ h => h) (Or.inl ⟨by rfl, ?h7⟩) (by assumption) ?r7
 case h7 => (intro w hSw; (try dsimp only at hSw); go_simp <;> with_reducible rfl)
 try simp only [Act.put, qL1, qL2, qL3, qL4, qL5, qL6]
 refine wpAnyH_take (i := 8) (v := ?v8) rfl (by kernel_rfl) (by kernel_rfl) (by kernel_rfl) (fun _ _ _ h => h) (Or.inl ⟨by rfl, ?h8⟩) (by assumption) ?r8
 case h8 => (intro w hSw; (try dsimp only at hSw); go_simp <;> with_reducible rfl)
 try simp only [Act.put, qL1, qL2, qL3, qL4, qL5, qL6]
 refine wpAnyH_take (i := 9) (v := ?v9) rfl (by kernel_rfl) (by kernel_rfl) (by kernel_rfl) (fun _ _ _ h => h) (Or.inl ⟨by rfl, ?h9⟩) (by assumption) ?r9
 case h9 => (intro w hSw; (try dsimp only at hSw); go_simp <;> with_reducible rfl)
 try simp only [Act.put, qL1, qL2, qL3, qL4, qL5, qL6]
 refine wpAnyH_take (i := 10) (v := ?v10) rfl (by kernel_rfl) (by kernel_rfl) (by kernel_rfl) (fun _ _ _ h => h) (Or.inl ⟨by rfl, ?h10⟩) (by assumption) ?r10
 case h10 => (intro w hSw; (try dsimp only at hSw); go_simp <;> with_reducible rfl)
 try simp only [Act.put, qL1, qL2, qL3, qL4, qL5, qL6]
 refine wpAnyH_take (i := 11) (v := ?v11) rfl (by kernel_rfl) (by kernel_rfl) (by kernel_rfl) (fun _ _ _ h => h) (Or.inl ⟨by rfl, ?h11⟩) (by assumption) ?r11
 case h11 => (intro w hSw; (try dsimp only at hSw); go_simp <;> with_reducible rfl)
 try simp only [Act.put, qL1, qL2, qL3, qL4, qL5, qL6]
 refine wpAnyH_take (i := 12) (v := ?v12) rfl (by kernel_rfl) (by kernel_rfl) (by kernel_rfl) (fun _ _ _ h => h) (Or.inl ⟨by rfl, ?h12⟩) (by assumption) ?r12
 case h12 => (intro w hSw; (try dsimp only at hSw); go_simp <;> with_reducible rfl)
 try simp only [Act.put, qL1, qL2, qL3, qL4, qL5, qL6]
 refine wpAnyH_take (i := 13) (v := ?v13) rfl (by kernel_rfl) (by kernel_rfl) (by kernel_rfl) (fun _ _ _ h => h) (Or.inl ⟨by rfl, ?h13⟩) (by assumption) ?r13
 case h13 => (intro w hSw; (try dsimp only at hSw); go_simp <;> with_reducible rfl)
 try simp only [Act.put, qL1, qL2, qL3, qL4, qL5, qL6]
 refine wpAnyH_take (i := 14) (v := ?v14) rfl (by kernel_rfl) (by kernel_rfl) (by kernel_rfl) (fun _ _ _ h => h) (Or.inl ⟨by rfl, ?h14⟩) (by assumption) ?r14
 case h14 => (intro w hSw; (try dsimp only at hSw); go_simp <;> with_reducible rfl)
 try simp only [Act.put, qL1, qL2, qL3, qL4, qL5, qL6]
 refine wpAnyH_ready (rs := [15]) (by kernel_rfl) (by simp) ?_
 refine AllReadyH.cons rfl (fun K hK => ?s15) ?m15
 case s15 =>
  go_simp
  refine hK.out _ _ ?_ (fun hHeld => ?_)
  ·first | (simp; exact ⟨t1, c4, c5⟩) | go_keep
  clear hK K
  try simp only [Act.put, qL1, qL2, qL3, qL4, qL5, qL6]
  refine wpAnyH_ready (rs := [16]) (by kernel_rfl) (by simp) ?_
  refine AllReadyH.cons rfl (fun K hK => ?s16) ?m16
  case s16 =>
   refine wp_append_lies _ _ _ 22 rfl w0.heap.size 3 i_int (.int .i64 0) 1 8 Tryz.underlying22 h_int z_int s_int b_int rfl (by decide) (.slice none 0 0) 0 [] rfl ((OwnL.nilAt X1.out.drew 3 1).1.alloc _) ⟨w1.heap.size, 0, none⟩ 1 1 [.int .i64 2] rfl rfl ?c1 (by decide) (by decide) (by decide) (by decide) (by have := X1.out.size; simp; omega) _ rfl ?_
   case c1 => exact cell_one w1.drew (.int .i64 2) 3
   intro g cap w2 hown hgrow hat hlt
   have OW2 := hID ((OwnL.nilAt X1.out.drew 3 1).grown (Off.alloc (Off.refl Nob w1.drew) (.cells #[.int .i64 2] 3)) hown hgrow)
   have X2 := hID OW2.out.2
   have kq := GC.out _ X2.out
   clear hown hgrow hat hlt X1
   refine hK.out _ _ ?_ (fun hHeld => ?_)
   ·first | exact ⟨kq.2.1, kq.2.2.2.2.2.2.1, kq.2.2.2.2.2.2.2⟩ | go_keep
   clear hK K
   try simp only [Act.put, qL1, qL2, qL3, qL4, qL5, qL6]
   refine wpAnyH_take (i := 17) (v := ?v17) rfl (by kernel_rfl) (by kernel_rfl) (by kernel_rfl) (fun _ _ _ h => h) (Or.inl ⟨by rfl, ?h17⟩) (by assumption) ?r17
   case h17 => (intro w hSw; (try dsimp only at hSw); go_simp <;> with_reducible rfl)
   try simp only [Act.put, qL1, qL2, qL3, qL4, qL5, qL6]
   refine wpAnyH_done (by kernel_rfl) ?_ _
   clear hHeld kq t0 t1 c0 c1 c2 c3 c4 c5
   obtain ⟨t0, t1, c0, c1, c2, c3, c4, c5⟩ := GC.out _ X2.out
   go_wp2_with fail
   rw [rounds_succ]
   clear t0 t1 c0 c1 c2 c3 c4 c5
   obtain ⟨t0, t1, c0, c1, c2, c3, c4, c5⟩ := GC.out _ X2.out
   go_wp2_with fail
   refine (co_rof_2 _ _ OW2.out.rd).mono ?_
   rintro e w3 ⟨u, rfl, hr, o1⟩
   have X3 := hID (X2.out.also o1)
   obtain ⟨hr, o1⟩ := id (And.intro hr o1)
   have HR := hID (Rd.mono hr (G := fun k => w.heap.size ≤ k) (fun k hk => Nat.le_trans (HB0.out.2.also X2.out).size hk))
   clear hr
   clear o1 X2
   clear t0 t1 c0 c1 c2 c3 c4 c5
   obtain ⟨t0, t1, c0, c1, c2, c3, c4, c5⟩ := GC.out _ X3.out
   go_wp2_with fail
   go_ret2
   exact ⟨_, rfl, HR.out, HB0.out.2.also X3.out⟩
  exact AllReadyH.nil
 exact AllReadyH.nil
end Go.Proofs.YtkflicifngohcaaGreatDoor

namespace Go.Proofs.YtkflicifngohcaaGreatDoor
open Go.RowKit
set_option maxRecDepth 100000
theorem lwords (w : World) : Calls Tryz.prog 178 #[.int .i64 3] w fun e w' => e = .returned (.int .i64 1) ∧ w = w' := by
 go_enter Tryz.func178, Tryz.ntmps178
 go_wp2_with fail
 go_ret
 exact ⟨rfl, rfl⟩
set_option maxHeartbeats 4000000 in
theorem llcheck (w : World) (v : Value) (hv : Rd w (fun _ => True) 3 v 2 ln_ab) : Calls Tryz.prog 169 #[.agg #[.int .i64 1, v]] w (RetV w (.tuple #[.int .i64 0, .int .i64 0])) := by
 have HV0 := hID hv
 obtain ⟨b, o, c, rfl, hc⟩ := hv.cellsT (by decide)
 have HV := HV0
 have HC := hID hc
 clear hc hv HV0
 go_enter Tryz.func169, Tryz.ntmps169
 go_wp2_with fail
 have HB0 : Hid (Blk (w.alloc (.cells #[.int .i64 1, .slice (some ⟨b, o, none⟩) 2 c] 97)) w.heap.size 97 #[.int .i64 1, .slice (some ⟨b, o, none⟩) 2 c] ∧ Off Nob w (w.alloc (.cells #[.int .i64 1, .slice (some ⟨b, o, none⟩) 2 c] 97))) := hID ⟨Blk.new _ _ _, Off.alloc (Off.refl _ _) _⟩
 revert HB0
 generalize (w.alloc (.cells #[.int .i64 1, .slice (some ⟨b, o, none⟩) 2 c] 97)) = w0
 intro HB0
 have GC : Hid (∀ W, Off Nob w0 W → W.cell? ⟨w.heap.size, 0, none⟩ = some (.int .i64 1) ∧ W.cell? ⟨w.heap.size, 1, none⟩ = some (.slice (some ⟨b, o, none⟩) 2 c) ∧ W.cell? ⟨b, o, none⟩ = some (.int .i64 0) ∧ W.cell? ⟨b, o + 1, none⟩ = some (.int .i64 0) ∧ W.cell? ⟨b, o + 2, none⟩ = some (.int .i64 2) ∧ W.cell? ⟨b, o + 3, none⟩ = some (.int .i64 1) ∧ W.cell? ⟨b, o + 4, none⟩ = some (.int .i64 2) ∧ W.cell? ⟨b, o + 5, none⟩ = some (.int .i64 1)) := hID (fun W ho => by
  have h := HB0.out.1.to (ho.block _ HB0.out.1.lt (fun h => h))
  have k := HC.out W (HB0.out.2.also ho)
  exact ⟨h.cell 0, h.cell 1, k 0 _ rfl, k 1 _ rfl, k 2 _ rfl, k 3 _ rfl, k 4 _ rfl, k 5 _ rfl⟩)
 have X0 : Hid (Off Nob w0 w0) := hID (Off.refl _ _)
 obtain ⟨t0, t1, c0, c1, c2, c3, c4, c5⟩ := GC.out _ X0.out
 go_wp2_with fail
 refine wp_loop_rounds 3 ?_
 rw [rounds_succ]
 clear t0 t1 c0 c1 c2 c3 c4 c5
 obtain ⟨t0, t1, c0, c1, c2, c3, c4, c5⟩ := GC.out _ X0.out
 go_wp2_with fail
 have X1 := hID (X0.out.alloc (.cells #[.int .i64 0, .int .i64 0, .int .i64 2] 188))
 clear X0
 clear t0 t1 c0 c1 c2 c3 c4 c5
 generalize w0.alloc (.cells #[.int .i64 0, .int .i64 0, .int .i64 2] 188) = w1 at *
 rw [rounds_succ]
 obtain ⟨t0, t1, c0, c1, c2, c3, c4, c5⟩ := GC.out _ X1.out
 go_wp2_with fail
 have X2 := hID (X1.out.alloc (.cells #[.int .i64 1, .int .i64 2, .int .i64 1] 188))
 clear X1
 clear t0 t1 c0 c1 c2 c3 c4 c5
 generalize w1.alloc (.cells #[.int .i64 1, .int .i64 2, .int .i64 1] 188) = w2 at *
 rw [rounds_succ]
 obtain ⟨t0, t1, c0, c1, c2, c3, c4, c5⟩ := GC.out _ X2.out
 go_wp2_with fail
 go_region_held3 (fun W => W.cell? ⟨w.heap.size, 0, none⟩ = some (.int .i64 1))
  (first | with_reducible assumption | go_keep)
  (first
   | (go_at_call 178; refine (lwords _).mono ?_; rintro e w' ⟨rfl, rfl⟩))
 go_wp2_with fail
 go_ret2
 exact ⟨rfl, HB0.out.2.also X2.out.drew⟩
theorem Tryz.infoLL : (Tryz.prog.info? 188).map (·.size) = some 3 := by kernel_rfl
theorem llast (w : World) (v : Value) (hv : Rd w (fun _ => True) 3 v 2 ln_ab) : Calls Tryz.prog 170 #[.agg #[.int .i64 1, v]] w (RetV w (.agg #[.int .i64 1, .int .i64 2, .int .i64 1])) := by
 obtain ⟨b, o, c, rfl, hc⟩ := hv.cellsT (by decide)
 have X : Off Nob w ((w.alloc (.cells #[.int .i64 1, .slice (some ⟨b, o, none⟩) 2 c] 97)).alloc (.cells #[.int .i64 0, .int .i64 0, .int .i64 0] 188)) := (Off.alloc (Off.refl _ _) _).alloc _
 have c3 := hc _ X 3 (.int .i64 1) rfl
 have c4 : World.cell? _ ⟨b, o + 3 + 1, none⟩ = _ := hc _ X 4 (.int .i64 2) rfl
 have c5 : World.cell? _ ⟨b, o + 3 + 2, none⟩ = _ := hc _ X 5 (.int .i64 1) rfl
 have HX := hID X
 clear hc hv X
 go_enter Tryz.func170, Tryz.ntmps170
 go_wp2_with fail
 have hB : Blk ((w.alloc (.cells #[.int .i64 1, .slice (some ⟨b, o, none⟩) 2 c] 97)).alloc (.cells #[.int .i64 1, .int .i64 2, .int .i64 1] 188)) (w.heap.size + 1) 188 #[.int .i64 1, .int .i64 2, .int .i64 1] := by
  have := Blk.new (w.alloc (.cells #[.int .i64 1, .slice (some ⟨b, o, none⟩) 2 c] 97)) 188 #[.int .i64 1, .int .i64 2, .int .i64 1]
  rwa [World.size_alloc] at this
 exact bodyPost_ret (results_cell_row rfl _ _ (w.heap.size + 1) 188 _ (0, 0) _ rfl hB Tryz.underlying188 rfl Tryz.infoLL) rfl ⟨rfl, (Off.alloc (Off.refl _ _) _).alloc _⟩
set_option maxHeartbeats 4000000 in
theorem llrules (w : World) (v : Value) (hv : Rd w (fun _ => True) 3 v 2 ln_ab) : Calls Tryz.prog 156 #[.agg #[.int .i64 1, v]] w (RetV w (.tuple #[.int .i64 2, .int .i64 0])) := by
 have HV0 := hID hv
 obtain ⟨b, o, c, rfl, hc⟩ := hv.cellsT (by decide)
 have HV := HV0
 have HC := hID hc
 clear hc hv HV0
 go_enter Tryz.func156, Tryz.ntmps156
 go_wp2_with fail
 have HB0 : Hid (Blk (w.alloc (.cells #[.int .i64 1, .slice (some ⟨b, o, none⟩) 2 c] 97)) w.heap.size 97 #[.int .i64 1, .slice (some ⟨b, o, none⟩) 2 c] ∧ Off Nob w (w.alloc (.cells #[.int .i64 1, .slice (some ⟨b, o, none⟩) 2 c] 97))) := hID ⟨Blk.new _ _ _, Off.alloc (Off.refl _ _) _⟩
 revert HB0
 generalize (w.alloc (.cells #[.int .i64 1, .slice (some ⟨b, o, none⟩) 2 c] 97)) = w0
 intro HB0
 have GC : Hid (∀ W, Off Nob w0 W → W.cell? ⟨w.heap.size, 0, none⟩ = some (.int .i64 1) ∧ W.cell? ⟨w.heap.size, 1, none⟩ = some (.slice (some ⟨b, o, none⟩) 2 c) ∧ W.cell? ⟨b, o, none⟩ = some (.int .i64 0) ∧ W.cell? ⟨b, o + 1, none⟩ = some (.int .i64 0) ∧ W.cell? ⟨b, o + 2, none⟩ = some (.int .i64 2) ∧ W.cell? ⟨b, o + 3, none⟩ = some (.int .i64 1) ∧ W.cell? ⟨b, o + 4, none⟩ = some (.int .i64 2) ∧ W.cell? ⟨b, o + 5, none⟩ = some (.int .i64 1)) := hID (fun W ho => by
  have h := HB0.out.1.to (ho.block _ HB0.out.1.lt (fun h => h))
  have k := HC.out W (HB0.out.2.also ho)
  exact ⟨h.cell 0, h.cell 1, k 0 _ rfl, k 1 _ rfl, k 2 _ rfl, k 3 _ rfl, k 4 _ rfl, k 5 _ rfl⟩)
 have X0 : Hid (Off Nob w0 w0) := hID (Off.refl _ _)
 have hfl : ∀ w, (Instr.field 188 (.agg #[.int .i64 1, .int .i64 2, .int .i64 1]) 0).run Tryz.prog w = .ok (.int .i64 1) w := fun w => by kernel_rfl
 obtain ⟨t0, t1, c0, c1, c2, c3, c4, c5⟩ := GC.out _ X0.out
 go_wp2_with fail
 refine (llcheck _ _ (HV.out.keepT HB0.out.2)).mono ?_
 rintro e w1 ⟨rfl, o1⟩
 have X1 := hID (X0.out.also o1)
 clear o1 X0
 clear t0 t1 c0 c1 c2 c3 c4 c5
 obtain ⟨t0, t1, c0, c1, c2, c3, c4, c5⟩ := GC.out _ X1.out
 go_wp2_with fail
 refine (llast _ _ (HV.out.keepT (HB0.out.2.also X1.out))).mono ?_
 rintro e w2 ⟨rfl, o1⟩
 have X2 := hID (X1.out.also o1)
 clear o1 X1
 clear t0 t1 c0 c1 c2 c3 c4 c5
 obtain ⟨t0, t1, c0, c1, c2, c3, c4, c5⟩ := GC.out _ X2.out
 go_wp2_with fail
 go_ret2
 exact ⟨rfl, HB0.out.2.also X2.out⟩
end Go.Proofs.YtkflicifngohcaaGreatDoor

namespace Go.Proofs.YtkflicifngohcaaGreatDoor
open Go.RowKit
set_option maxRecDepth 100000
theorem results_cell_row_tmp2 {P : Program} {fn : Func} {p u u2 : Tmp} {ty : TypeId} (h : fn.results = #[.cell p ty, .tmp u, .tmp u2]) (tmps : Array Value) (w : World) (g : Nat) (t : TypeId) (cs : Array Value) (fr : Nat × Nat) (d : TypeDesc)
  (hp : tmps.getD p undef = .pointer (some ⟨g, 0, none⟩)) (hg : w.heap[g]? = some (.cells cs t fr)) (hu : P.underlying ty = some d) (hd : (match d with | .struct _ | .array _ _ => true | _ => false) = true) (hi : (P.info? ty).map (·.size) = some cs.size) :
  (results fn tmps).run P w = .ok (.tuple #[.agg cs, tmps.getD u undef, tmps.getD u2 undef]) w := by
 have hp' : tmps[p]?.getD undef = .pointer (some ⟨g, 0, none⟩) := by simpa using hp
 simp [results, h, hp', asAddr, run_loadVar_row w g t ty cs fr d hg hu hd hi, Sem.run_bind, Result.andThen]
theorem own_ne {w : World} {base : Nat} {e t : TypeId} {size n g c b : Nat} {xs : List Value} {cs : Array Value} (h : w.ownsRow base e size (.slice (some ⟨g, 0, none⟩) n c) n xs) (hb : Blk w b t cs) (ne : t ≠ e) : g ≠ b := by
 rcases h.2 with ⟨hx, _⟩ | ⟨g', cap, cur, hv, _, hh, _⟩
 ·cases hx
 ·injection hv with hv1
  injection hv1 with hv1
  injection hv1 with hv1
  subst hv1
  rintro rfl
  unfold Blk at hb
  rw [hb] at hh
  injection hh with hh
  injection hh with _ hh
  exact ne hh
theorem Tryz.infoLp : (Tryz.prog.info? 97).map (·.size) = some 2 := by kernel_rfl
set_option maxHeartbeats 16000000 in
theorem co_pack (w : World) (v l0 l1 : Value) (A0 A1 : Option Addr) (k0 k1 : Nat) (hv : Rd w (fun _ => True) 1 v 2 [l0, l1]) (h0 : Rd w (fun _ => True) 1 l0 1 [.slice A0 2 k0]) (h1 : Rd w (fun _ => True) 1 l1 1 [.slice A1 1 k1]) :
  Calls Tryz.prog 127 #[v] w (fun e w' => ∃ u, e = .returned (.tuple #[.agg #[.int .i64 1, u], .int .i64 0, .int .i64 0]) ∧ Rd w' (fun _ => True) 3 u 2 ln_ab ∧ Off Nob w w') := by
 obtain ⟨i_lane, h_lane, z_lane, s_lane, b_lane⟩ := info_parts Tryz.infoLa
 obtain ⟨b, o, c, rfl, hc⟩ := hv.cellsT (by decide)
 obtain ⟨b0, o0, c0, rfl, hc0⟩ := h0.cellsT (by decide)
 obtain ⟨b1, o1, c1, rfl, hc1⟩ := h1.cellsT (by decide)
 have GL : Hid (∀ W, Off Nob w W → W.cell? ⟨b, o, none⟩ = some (.slice (some ⟨b0, o0, none⟩) 1 c0) ∧ W.cell? ⟨b, o + 1, none⟩ = some (.slice (some ⟨b1, o1, none⟩) 1 c1) ∧ W.cell? ⟨b0, o0, none⟩ = some (.slice A0 2 k0) ∧ W.cell? ⟨b1, o1, none⟩ = some (.slice A1 1 k1)) := hID (fun W ho => ⟨hc W ho 0 _ rfl, hc W ho 1 _ rfl, hc0 W ho 0 _ rfl, hc1 W ho 0 _ rfl⟩)
 clear hc hc0 hc1 hv h0 h1
 have FZ : Hid (True) := hID trivial
 go_enter Tryz.func127, Tryz.ntmps127
 go_wp2_with fail
 have X0 : Hid (Off Nob w (((w.alloc (.cells #[.int .i64 0, .slice none 0 0] 97)).alloc (.cells #[.int .i64 0, .slice none 0 0] 97)).alloc (.cells #[.int .i64 0, .slice none 0 0] 97))) := hID (Off.alloc (Off.alloc (Off.alloc (Off.refl _ _) _) _) _)
 have B0 : Hid (Blk (((w.alloc (.cells #[.int .i64 0, .slice none 0 0] 97)).alloc (.cells #[.int .i64 0, .slice none 0 0] 97)).alloc (.cells #[.int .i64 0, .slice none 0 0] 97)) (w.heap.size + 2) 97 #[.int .i64 0, .slice none 0 0]) := hID (by have := Blk.new ((w.alloc (.cells #[.int .i64 0, .slice none 0 0] 97)).alloc (.cells #[.int .i64 0, .slice none 0 0] 97)) 97 #[.int .i64 0, .slice none 0 0]; simpa using this)
 have BR0 : Hid (Blk (((w.alloc (.cells #[.int .i64 0, .slice none 0 0] 97)).alloc (.cells #[.int .i64 0, .slice none 0 0] 97)).alloc (.cells #[.int .i64 0, .slice none 0 0] 97)) w.heap.size 97 #[.int .i64 0, .slice none 0 0]) := hID (((Blk.new w 97 #[.int .i64 0, .slice none 0 0]).alloc _).alloc _)
 revert X0 B0 BR0
 generalize (((w.alloc (.cells #[.int .i64 0, .slice none 0 0] 97)).alloc (.cells #[.int .i64 0, .slice none 0 0] 97)).alloc (.cells #[.int .i64 0, .slice none 0 0] 97)) = w0
 intro X0 B0 BR0
 refine wp_loop_rounds 3 ?_
 rw [rounds_succ]
 obtain ⟨v0, v1, m0, m1⟩ := GL.out _ X0.out
 have p0 := B0.out.cell 0
 have p1 := B0.out.cell 1
 simp only [List.getElem?_toArray, List.getElem?_cons_succ, List.getElem?_cons_zero] at p0 p1
 go_wp2_with fail
 refine wp_loop_rounds 2 ?_
 rw [rounds_succ]
 go_wp2_with fail
 rw [rounds_succ]
 go_wp2_with fail
 refine wp_loop_rounds 2 ?_
 rw [rounds_succ]
 have f1 := FZ.out
 go_wp2_with (at_builtin; refine @wpList_append_lies _ _ _ _ _ _ _ rfl _ _ 95 rfl w.heap.size 188 i_lane (.agg #[.int .i64 0, .int .i64 0, .int .i64 0]) 3 24 Tryz.underlying95 h_lane z_lane s_lane b_lane rfl (by decide) (.slice none 0 0) (0) ([]) rfl ((OwnL.nilAt X0.out 188 3).1.alloc _) ⟨w0.heap.size, 0, none⟩ 1 1 [.int .i64 0, .int .i64 0, .int .i64 2] rfl rfl ?c1 (by decide) (by decide) (by decide) (by decide) (by have := X0.out.size; simp; omega) _ rfl ?_)
 case c1 => exact cell_lit _ [.int .i64 0, .int .i64 0, .int .i64 2] _
 intro g1 cap1 w5 hown hgrow hat hlt
 have OA := hID ((OwnL.nilAt X0.out 188 3).grown (Off.alloc (Off.refl Nob w0) (.cells #[.int .i64 0, .int .i64 0, .int .i64 2] 188)) hown hgrow)
 have BA : Hid (Blk w5 (w.heap.size + 2) 97 #[.int .i64 0, .slice none 0 0]) := hID (B0.out.to ((Off.grown (F := fun k => (.slice none 0 0 : Value).ownBlock = some k) (Off.alloc (Off.refl _ _) _) hgrow (fun k hk => .inl hk)).block _ B0.out.lt (fun h => by cases h)))
 have BR1 : Hid (Blk w5 w.heap.size 97 #[.int .i64 0, .slice none 0 0]) := hID (BR0.out.to ((Off.grown (F := fun k => (.slice none 0 0 : Value).ownBlock = some k) (Off.alloc (Off.refl _ _) _) hgrow (fun k hk => .inl hk)).block _ BR0.out.lt (fun h => by cases h)))
 have gne : g1 ≠ w.heap.size + 2 := own_ne OA.out.1 BA.out (by decide)
 have q0 := BA.out.cell 0
 have q1 := BA.out.cell 1
 simp only [List.getElem?_toArray, List.getElem?_cons_succ, List.getElem?_cons_zero] at q0 q1
 have fz0 := BA.out.frozen 0
 have fz1 := BA.out.frozen 1
 have XB : Hid (Off Nob w (w5.setCell ⟨w.heap.size + 2, 1, none⟩ (.slice (some ⟨g1, 0, none⟩) (0 + 1) cap1))) := hID (OA.out.2.put (.inr (Nat.le_add_right _ _)) _)
 have BB : Hid (Blk (w5.setCell ⟨w.heap.size + 2, 1, none⟩ (.slice (some ⟨g1, 0, none⟩) (0 + 1) cap1)) (w.heap.size + 2) 97 #[.int .i64 0, (.slice (some ⟨g1, 0, none⟩) (0 + 1) cap1)]) := hID (BA.out.put 1 _)
 have BC : Hid (Blk (w5.setCell ⟨w.heap.size + 2, 1, none⟩ (.slice (some ⟨g1, 0, none⟩) (0 + 1) cap1)) w.heap.size 97 #[.int .i64 0, .slice none 0 0]) := hID (BR1.out.far (p := ⟨w.heap.size + 2, 1, none⟩) (show w.heap.size ≠ w.heap.size + 2 by omega) _)
 have OB : Hid (OwnL w (w5.setCell ⟨w.heap.size + 2, 1, none⟩ (.slice (some ⟨g1, 0, none⟩) (0 + 1) cap1)) 188 3 (.slice (some ⟨g1, 0, none⟩) (0 + 1) cap1) (0 + 1) ([] ++ [.int .i64 0, .int .i64 0, .int .i64 2])) := hID ⟨own_to OA.out.1 (fun x hx => by
  have e : g1 = x := by simpa [Value.ownBlock] using hx
  subst e
  rw [Below.heap_setCell _ ⟨w.heap.size + 2, 1, none⟩ _ _ gne]), XB.out⟩
 clear hown hgrow hat hlt v0 v1 m0 m1 p0 p1 f1 X0 B0 BR0 OA BA gne
 skip
 go_wp2_with fail
 revert XB BB BC OB
 generalize w5.setCell ⟨w.heap.size + 2, 1, none⟩ (.slice (some ⟨g1, 0, none⟩) (0 + 1) cap1) = w10
 intro X1 B1 BC1 OW1
 clear BR1 q0 q1 fz0 fz1
 have BR1 := BC1
 clear BC1
 obtain ⟨v0, v1, m0, m1⟩ := GL.out _ X1.out
 have p0 := B1.out.cell 0
 have p1 := B1.out.cell 1
 simp only [List.getElem?_toArray, List.getElem?_cons_succ, List.getElem?_cons_zero] at p0 p1
 rw [rounds_succ]
 go_wp2_with fail
 rw [rounds_succ]
 clear v0 v1 m0 m1 p0 p1
 obtain ⟨v0, v1, m0, m1⟩ := GL.out _ X1.out
 have p0 := B1.out.cell 0
 have p1 := B1.out.cell 1
 simp only [List.getElem?_toArray, List.getElem?_cons_succ, List.getElem?_cons_zero] at p0 p1
 go_wp2_with fail
 refine wp_loop_rounds 2 ?_
 rw [rounds_succ]
 go_wp2_with fail
 rw [rounds_succ]
 go_wp2_with fail
 refine wp_loop_rounds 2 ?_
 rw [rounds_succ]
 have f1 := FZ.out
 go_wp2_with (at_builtin; refine @wpList_append_lies _ _ _ _ _ _ _ rfl _ _ 95 rfl w.heap.size 188 i_lane (.agg #[.int .i64 0, .int .i64 0, .int .i64 0]) 3 24 Tryz.underlying95 h_lane z_lane s_lane b_lane rfl (by decide) ((.slice (some ⟨g1, 0, none⟩) (0 + 1) cap1)) ((0 + 1)) (([] ++ [.int .i64 0, .int .i64 0, .int .i64 2])) rfl (OW1.out.1.alloc _) ⟨w10.heap.size, 0, none⟩ 1 1 [.int .i64 1, .int .i64 2, .int .i64 1] rfl rfl ?c1 (by decide) (by decide) (by decide) (by decide) (by have := X1.out.size; simp; omega) _ rfl ?_)
 case c1 => exact cell_lit _ [.int .i64 1, .int .i64 2, .int .i64 1] _
 intro g2 cap2 w15 hown hgrow hat hlt
 have OA := hID (OW1.out.grown (Off.alloc (Off.refl Nob w10) (.cells #[.int .i64 1, .int .i64 2, .int .i64 1] 188)) hown hgrow)
 have BA : Hid (Blk w15 (w.heap.size + 2) 97 #[.int .i64 0, (.slice (some ⟨g1, 0, none⟩) (0 + 1) cap1)]) := hID (B1.out.to ((Off.grown (F := fun k => ((.slice (some ⟨g1, 0, none⟩) (0 + 1) cap1) : Value).ownBlock = some k) (Off.alloc (Off.refl _ _) _) hgrow (fun k hk => .inl hk)).block _ B1.out.lt (fun h => own_ne OW1.out.1 B1.out (by decide) (by injection h))))
 have BR2 : Hid (Blk w15 w.heap.size 97 #[.int .i64 0, .slice none 0 0]) := hID (BR1.out.to ((Off.grown (F := fun k => ((.slice (some ⟨g1, 0, none⟩) (0 + 1) cap1) : Value).ownBlock = some k) (Off.alloc (Off.refl _ _) _) hgrow (fun k hk => .inl hk)).block _ BR1.out.lt (fun h => own_ne OW1.out.1 BR1.out (by decide) (by injection h))))
 have gne : g2 ≠ w.heap.size + 2 := own_ne OA.out.1 BA.out (by decide)
 have q0 := BA.out.cell 0
 have q1 := BA.out.cell 1
 simp only [List.getElem?_toArray, List.getElem?_cons_succ, List.getElem?_cons_zero] at q0 q1
 have fz0 := BA.out.frozen 0
 have fz1 := BA.out.frozen 1
 have XB : Hid (Off Nob w (w15.setCell ⟨w.heap.size + 2, 1, none⟩ (.slice (some ⟨g2, 0, none⟩) ((0 + 1) + 1) cap2))) := hID (OA.out.2.put (.inr (Nat.le_add_right _ _)) _)
 have BB : Hid (Blk (w15.setCell ⟨w.heap.size + 2, 1, none⟩ (.slice (some ⟨g2, 0, none⟩) ((0 + 1) + 1) cap2)) (w.heap.size + 2) 97 #[.int .i64 0, (.slice (some ⟨g2, 0, none⟩) ((0 + 1) + 1) cap2)]) := hID (BA.out.put 1 _)
 have BC : Hid (Blk (w15.setCell ⟨w.heap.size + 2, 1, none⟩ (.slice (some ⟨g2, 0, none⟩) ((0 + 1) + 1) cap2)) w.heap.size 97 #[.int .i64 0, .slice none 0 0]) := hID (BR2.out.far (p := ⟨w.heap.size + 2, 1, none⟩) (show w.heap.size ≠ w.heap.size + 2 by omega) _)
 have OB : Hid (OwnL w (w15.setCell ⟨w.heap.size + 2, 1, none⟩ (.slice (some ⟨g2, 0, none⟩) ((0 + 1) + 1) cap2)) 188 3 (.slice (some ⟨g2, 0, none⟩) ((0 + 1) + 1) cap2) ((0 + 1) + 1) (([] ++ [.int .i64 0, .int .i64 0, .int .i64 2]) ++ [.int .i64 1, .int .i64 2, .int .i64 1])) := hID ⟨own_to OA.out.1 (fun x hx => by
  have e : g2 = x := by simpa [Value.ownBlock] using hx
  subst e
  rw [Below.heap_setCell _ ⟨w.heap.size + 2, 1, none⟩ _ _ gne]), XB.out⟩
 clear hown hgrow hat hlt v0 v1 m0 m1 p0 p1 f1 X1 B1 BR1 OA BA gne
 clear OW1
 go_wp2_with fail
 revert XB BB BC OB
 generalize w15.setCell ⟨w.heap.size + 2, 1, none⟩ (.slice (some ⟨g2, 0, none⟩) ((0 + 1) + 1) cap2) = w20
 intro X2 B2 BC2 OW2
 clear BR2 q0 q1 fz0 fz1
 have BR2 := BC2
 clear BC2
 obtain ⟨v0, v1, m0, m1⟩ := GL.out _ X2.out
 have p0 := B2.out.cell 0
 have p1 := B2.out.cell 1
 simp only [List.getElem?_toArray, List.getElem?_cons_succ, List.getElem?_cons_zero] at p0 p1
 rw [rounds_succ]
 go_wp2_with fail
 rw [rounds_succ]
 clear v0 v1 m0 m1 p0 p1
 obtain ⟨v0, v1, m0, m1⟩ := GL.out _ X2.out
 have p0 := B2.out.cell 0
 have p1 := B2.out.cell 1
 simp only [List.getElem?_toArray, List.getElem?_cons_succ, List.getElem?_cons_zero] at p0 p1
 have fz0 := B2.out.frozen 0
 have fz1 := B2.out.frozen 1
 have r0 := BR2.out.cell 0
 have r1 := BR2.out.cell 1
 simp only [List.getElem?_toArray, List.getElem?_cons_succ, List.getElem?_cons_zero] at r0 r1
 have rz0 := BR2.out.frozen 0
 have rz1 := BR2.out.frozen 1
 go_wp2_with fail
 refine (co_words _).mono ?_
 rintro e w' ⟨rfl, rfl⟩
 go_wp2_with fail
 have W9 := (((w20.setCell ⟨w.heap.size + 2, 0, none⟩ (.int .i64 1)).setCell ⟨w.heap.size, 0, none⟩ (.int .i64 1)).setCell ⟨w.heap.size, 1, none⟩ (.slice (some ⟨g2, 0, none⟩) (0 + 1 + 1) cap2))
 have e1 : g2 ≠ w.heap.size + 2 := own_ne OW2.out.1 B2.out (by decide)
 have e2 : g2 ≠ w.heap.size := own_ne OW2.out.1 BR2.out (by decide)
 have RR : Blk (((w20.setCell ⟨w.heap.size + 2, 0, none⟩ (.int .i64 1)).setCell ⟨w.heap.size, 0, none⟩ (.int .i64 1)).setCell ⟨w.heap.size, 1, none⟩ (.slice (some ⟨g2, 0, none⟩) (0 + 1 + 1) cap2)) w.heap.size 97 #[.int .i64 1, (.slice (some ⟨g2, 0, none⟩) (0 + 1 + 1) cap2)] := ((BR2.out.far (p := ⟨w.heap.size + 2, 0, none⟩) (show w.heap.size ≠ w.heap.size + 2 by omega) _).put 0 _).put 1 _
 have RO : Off Nob w (((w20.setCell ⟨w.heap.size + 2, 0, none⟩ (.int .i64 1)).setCell ⟨w.heap.size, 0, none⟩ (.int .i64 1)).setCell ⟨w.heap.size, 1, none⟩ (.slice (some ⟨g2, 0, none⟩) (0 + 1 + 1) cap2)) := ((X2.out.put (p := ⟨w.heap.size + 2, 0, none⟩) (.inr (Nat.le_add_right _ _)) _).put (p := ⟨w.heap.size, 0, none⟩) (.inr (Nat.le_refl _)) _).put (p := ⟨w.heap.size, 1, none⟩) (.inr (Nat.le_refl _)) _
 have RW := own_to (w' := (((w20.setCell ⟨w.heap.size + 2, 0, none⟩ (.int .i64 1)).setCell ⟨w.heap.size, 0, none⟩ (.int .i64 1)).setCell ⟨w.heap.size, 1, none⟩ (.slice (some ⟨g2, 0, none⟩) (0 + 1 + 1) cap2))) OW2.out.1 (fun x hx => by
  have e : g2 = x := by simpa [Value.ownBlock] using hx
  subst e
  rw [Below.heap_setCell _ ⟨w.heap.size, 1, none⟩ _ _ e2, Below.heap_setCell _ ⟨w.heap.size, 0, none⟩ _ _ e2, Below.heap_setCell _ ⟨w.heap.size + 2, 0, none⟩ _ _ e1])
 exact bodyPost_ret (results_cell_row_tmp2 rfl _ _ _ _ _ (0, 0) _ rfl RR Tryz.underlying97 rfl Tryz.infoLp) rfl ⟨_, rfl, Rd.own RW (fun _ _ => trivial), RO⟩
end Go.Proofs.YtkflicifngohcaaGreatDoor

namespace Go.Proofs.YtkflicifngohcaaGreatDoor
open Go.RowKit
set_option maxRecDepth 100000
set_option maxHeartbeats 4000000 in
theorem co_psame (w : World) (v u : Value) (hv : Rd w (fun _ => True) 3 v 2 ln_ab) (hu : Rd w (fun _ => True) 3 u 2 ln_ab) : Calls Tryz.prog 151 #[.agg #[.int .i64 1, v], .agg #[.int .i64 1, u]] w (RetV w (.bool true)) := by
 have hq0 : ∀ w : World, (binOp .neq 188 (.agg #[.int .i64 0, .int .i64 0, .int .i64 2]) (.agg #[.int .i64 0, .int .i64 0, .int .i64 2])).run Tryz.prog w = .ok (.bool false) w := fun _ => by kernel_rfl
 have hq1 : ∀ w : World, (binOp .neq 188 (.agg #[.int .i64 1, .int .i64 2, .int .i64 1]) (.agg #[.int .i64 1, .int .i64 2, .int .i64 1])).run Tryz.prog w = .ok (.bool false) w := fun _ => by kernel_rfl
 obtain ⟨b, o, c, rfl, hc⟩ := hv.cellsT (by decide)
 obtain ⟨b2, o2, c2, rfl, hc2⟩ := hu.cellsT (by decide)
 have HC := hID hc
 have HC2 := hID hc2
 clear hc hv hc2 hu
 go_enter Tryz.func151, Tryz.ntmps151
 go_wp2_with fail
 have HB0 : Hid (Blk ((w.alloc (.cells #[.int .i64 1, .slice (some ⟨b, o, none⟩) 2 c] 97)).alloc (.cells #[.int .i64 1, .slice (some ⟨b2, o2, none⟩) 2 c2] 97)) w.heap.size 97 #[.int .i64 1, .slice (some ⟨b, o, none⟩) 2 c] ∧ Blk ((w.alloc (.cells #[.int .i64 1, .slice (some ⟨b, o, none⟩) 2 c] 97)).alloc (.cells #[.int .i64 1, .slice (some ⟨b2, o2, none⟩) 2 c2] 97)) (w.heap.size + 1) 97 #[.int .i64 1, .slice (some ⟨b2, o2, none⟩) 2 c2] ∧ Off Nob w ((w.alloc (.cells #[.int .i64 1, .slice (some ⟨b, o, none⟩) 2 c] 97)).alloc (.cells #[.int .i64 1, .slice (some ⟨b2, o2, none⟩) 2 c2] 97))) := hID ⟨(Blk.new _ _ _).alloc _, blk_second _ _ _ _, Off.alloc (Off.alloc (Off.refl _ _) _) _⟩
 revert HB0
 generalize ((w.alloc (.cells #[.int .i64 1, .slice (some ⟨b, o, none⟩) 2 c] 97)).alloc (.cells #[.int .i64 1, .slice (some ⟨b2, o2, none⟩) 2 c2] 97)) = w0
 intro HB0
 have GC : Hid (∀ W, Off Nob w0 W → W.cell? ⟨w.heap.size, 0, none⟩ = some (.int .i64 1) ∧ W.cell? ⟨w.heap.size, 1, none⟩ = some (.slice (some ⟨b, o, none⟩) 2 c) ∧ W.cell? ⟨w.heap.size + 1, 0, none⟩ = some (.int .i64 1) ∧ W.cell? ⟨w.heap.size + 1, 1, none⟩ = some (.slice (some ⟨b2, o2, none⟩) 2 c2) ∧ W.cell? ⟨b, o, none⟩ = some (.int .i64 0) ∧ W.cell? ⟨b, o + 1, none⟩ = some (.int .i64 0) ∧ W.cell? ⟨b, o + 2, none⟩ = some (.int .i64 2) ∧ W.cell? ⟨b, o + 3, none⟩ = some (.int .i64 1) ∧ W.cell? ⟨b, o + 4, none⟩ = some (.int .i64 2) ∧ W.cell? ⟨b, o + 5, none⟩ = some (.int .i64 1) ∧ W.cell? ⟨b2, o2, none⟩ = some (.int .i64 0) ∧ W.cell? ⟨b2, o2 + 1, none⟩ = some (.int .i64 0) ∧ W.cell? ⟨b2, o2 + 2, none⟩ = some (.int .i64 2) ∧ W.cell? ⟨b2, o2 + 3, none⟩ = some (.int .i64 1) ∧ W.cell? ⟨b2, o2 + 4, none⟩ = some (.int .i64 2) ∧ W.cell? ⟨b2, o2 + 5, none⟩ = some (.int .i64 1)) := hID (fun W ho => by
  have h := HB0.out.1.to (ho.block _ HB0.out.1.lt (fun h => h))
  have h2 := HB0.out.2.1.to (ho.block _ HB0.out.2.1.lt (fun h => h))
  have k := HC.out W (HB0.out.2.2.also ho)
  have k2 := HC2.out W (HB0.out.2.2.also ho)
  exact ⟨h.cell 0, h.cell 1, h2.cell 0, h2.cell 1, k 0 _ rfl, k 1 _ rfl, k 2 _ rfl, k 3 _ rfl, k 4 _ rfl, k 5 _ rfl, k2 0 _ rfl, k2 1 _ rfl, k2 2 _ rfl, k2 3 _ rfl, k2 4 _ rfl, k2 5 _ rfl⟩)
 have X0 : Hid (Off Nob w0 w0) := hID (Off.refl _ _)
 obtain ⟨t0, t1, q0, q1, c0, c1, c2, c3, c4, c5, d0, d1, d2, d3, d4, d5⟩ := GC.out _ X0.out
 go_wp2_with fail
 refine wp_loop_rounds 3 ?_
 rw [rounds_succ]
 clear t0 t1 q0 q1 c0 c1 c2 c3 c4 c5 d0 d1 d2 d3 d4 d5
 obtain ⟨t0, t1, q0, q1, c0, c1, c2, c3, c4, c5, d0, d1, d2, d3, d4, d5⟩ := GC.out _ X0.out
 go_wp2_with fail
 go_quiet (fail)
 have X1 := hID (X0.out.drewN nq)
 clear X0
 clear t0 t1 q0 q1 c0 c1 c2 c3 c4 c5 d0 d1 d2 d3 d4 d5
 generalize w0.drewN nq = w1 at *
 obtain ⟨t0, t1, q0, q1, c0, c1, c2, c3, c4, c5, d0, d1, d2, d3, d4, d5⟩ := GC.out _ X1.out
 go_wp2_with fail
 rw [rounds_succ]
 clear t0 t1 q0 q1 c0 c1 c2 c3 c4 c5 d0 d1 d2 d3 d4 d5
 obtain ⟨t0, t1, q0, q1, c0, c1, c2, c3, c4, c5, d0, d1, d2, d3, d4, d5⟩ := GC.out _ X1.out
 go_wp2_with fail
 go_quiet (fail)
 have X2 := hID (X1.out.drewN nq)
 clear X1
 clear t0 t1 q0 q1 c0 c1 c2 c3 c4 c5 d0 d1 d2 d3 d4 d5
 generalize w1.drewN nq = w2 at *
 obtain ⟨t0, t1, q0, q1, c0, c1, c2, c3, c4, c5, d0, d1, d2, d3, d4, d5⟩ := GC.out _ X2.out
 go_wp2_with fail
 rw [rounds_succ]
 clear t0 t1 q0 q1 c0 c1 c2 c3 c4 c5 d0 d1 d2 d3 d4 d5
 obtain ⟨t0, t1, q0, q1, c0, c1, c2, c3, c4, c5, d0, d1, d2, d3, d4, d5⟩ := GC.out _ X2.out
 go_wp2_with fail
 go_ret
 exact ⟨rfl, HB0.out.2.2.also X2.out⟩
set_option maxHeartbeats 16000000 in
theorem co_row_a (w : World) (v rv l0 l1 ma mb : Value) (hv : Rd w (fun _ => True) 3 v 2 ln_ab) (hr : Rd w (fun _ => True) 1 rv 2 [l0, l1]) (h0 : Rd w (fun _ => True) 1 l0 1 [ma]) (h1 : Rd w (fun _ => True) 1 l1 1 [mb]) (ha : Rd w (fun _ => True) 4 ma 2 se_a) (hb : Rd w (fun _ => True) 4 mb 1 se_b) (bt : Nat) (hbt : bt < 256) (hf0 : hasB 0 8589934592 0 0 bt = true) (hf1 : hasB 0 17179869184 0 0 bt = false) (hf2 : hasB 0 25769803776 0 0 bt = true) :
  Calls Tryz.prog 128 #[.agg #[.int .i64 1, v], rv, .int .u8 (bt : Int)] w (fun e w' => ∃ u, e = .returned (.tuple #[u, .int .i64 0]) ∧ Rd w' (fun _ => True) 1 u 1 [.int .u64 5] ∧ Off Nob w w') := by
 have HF0 := hID hf0
 have HF1 := hID hf1
 have HF2 := hID hf2
 obtain ⟨i_int, h_int, z_int, s_int, b_int⟩ := info_parts Tryz.infoI'
 have HV0 := hID hv
 have HR0 := hID hr
 have H00 := hID h0
 have H10 := hID h1
 obtain ⟨b, o, c, rfl, hc⟩ := hv.cellsT (by decide)
 obtain ⟨bb, oo, cc, rfl, hcr⟩ := hr.cellsT (by decide)
 obtain ⟨b0, o0, c0, rfl, hc0⟩ := h0.cellsT (by decide)
 obtain ⟨b1, o1, c1, rfl, hc1⟩ := h1.cellsT (by decide)
 obtain ⟨ba, oa, ca, rfl, hca⟩ := ha.cellsT (by decide)
 obtain ⟨be, oe, ce, rfl, hce⟩ := hb.cellsT (by decide)
 have HV := HV0
 have HR := HR0
 have H0 := H00
 have H1 := H10
 have HC := hID (And.intro hc (And.intro hcr (And.intro hc0 (And.intro hc1 (And.intro hca hce)))))
 clear hc hv hr h0 h1 ha hb hcr hc0 hc1 hca hce HV0 HR0 H00 H10 hf0 hf1 hf2
 go_enter Tryz.func128, Tryz.ntmps128
 go_wp2_with fail
 have HB0 : Hid (Blk (w.alloc (.cells #[.int .i64 1, .slice (some ⟨b, o, none⟩) 2 c] 97)) w.heap.size 97 #[.int .i64 1, .slice (some ⟨b, o, none⟩) 2 c] ∧ Off Nob w (w.alloc (.cells #[.int .i64 1, .slice (some ⟨b, o, none⟩) 2 c] 97))) := hID ⟨Blk.new _ _ _, Off.alloc (Off.refl _ _) _⟩
 revert HB0
 generalize (w.alloc (.cells #[.int .i64 1, .slice (some ⟨b, o, none⟩) 2 c] 97)) = w0
 intro HB0
 have GC : Hid (∀ W, Off Nob w0 W → W.cell? ⟨w.heap.size, 0, none⟩ = some (.int .i64 1) ∧ W.cell? ⟨w.heap.size, 1, none⟩ = some (.slice (some ⟨b, o, none⟩) 2 c) ∧ W.cell? ⟨bb, oo, none⟩ = some (.slice (some ⟨b0, o0, none⟩) 1 c0) ∧ W.cell? ⟨bb, oo + 1, none⟩ = some (.slice (some ⟨b1, o1, none⟩) 1 c1) ∧ W.cell? ⟨b0, o0, none⟩ = some (.slice (some ⟨ba, oa, none⟩) 2 ca) ∧ W.cell? ⟨b1, o1, none⟩ = some (.slice (some ⟨be, oe, none⟩) 1 ce) ∧ W.cell? ⟨ba, oa, none⟩ = some (.int .u64 0) ∧ W.cell? ⟨ba, oa + 1, none⟩ = some (.int .u64 8589934592) ∧ W.cell? ⟨ba, oa + 2, none⟩ = some (.int .u64 0) ∧ W.cell? ⟨ba, oa + 3, none⟩ = some (.int .u64 0) ∧ W.cell? ⟨ba, oa + 4, none⟩ = some (.int .u64 0) ∧ W.cell? ⟨ba, oa + 5, none⟩ = some (.int .u64 17179869184) ∧ W.cell? ⟨ba, oa + 6, none⟩ = some (.int .u64 0) ∧ W.cell? ⟨ba, oa + 7, none⟩ = some (.int .u64 0) ∧ W.cell? ⟨be, oe, none⟩ = some (.int .u64 0) ∧ W.cell? ⟨be, oe + 1, none⟩ = some (.int .u64 25769803776) ∧ W.cell? ⟨be, oe + 2, none⟩ = some (.int .u64 0) ∧ W.cell? ⟨be, oe + 3, none⟩ = some (.int .u64 0)) := hID (fun W ho => by
  have h := HB0.out.1.to (ho.block _ HB0.out.1.lt (fun h => h))
  have k := HB0.out.2.also ho
  obtain ⟨g1, g2, g3, g4, g5, g6⟩ := HC.out
  exact ⟨h.cell 0, h.cell 1, g2 W k 0 _ rfl, g2 W k 1 _ rfl, g3 W k 0 _ rfl, g4 W k 0 _ rfl, g5 W k 0 _ rfl, g5 W k 1 _ rfl, g5 W k 2 _ rfl, g5 W k 3 _ rfl, g5 W k 4 _ rfl, g5 W k 5 _ rfl, g5 W k 6 _ rfl, g5 W k 7 _ rfl, g6 W k 0 _ rfl, g6 W k 1 _ rfl, g6 W k 2 _ rfl, g6 W k 3 _ rfl⟩)
 have X0 : Hid (Off Nob w0 w0) := hID (Off.refl _ _)
 obtain ⟨t0, t1, v0, v1, m0, m1, s0, s1, s2, s3, s4, s5, s6, s7, r0, r1, r2, r3⟩ := GC.out _ X0.out
 go_wp2_with fail
 refine (co_lcheck _ _ (HV.out.keepT HB0.out.2)).mono ?_
 rintro e w1 ⟨rfl, o1⟩
 have X1 := hID (X0.out.also o1)
 clear o1 X0
 clear t0 t1 v0 v1 m0 m1 s0 s1 s2 s3 s4 s5 s6 s7 r0 r1 r2 r3
 obtain ⟨t0, t1, v0, v1, m0, m1, s0, s1, s2, s3, s4, s5, s6, s7, r0, r1, r2, r3⟩ := GC.out _ X1.out
 go_wp2_with fail
 refine (co_pack _ _ _ _ _ _ _ _ (HR.out.keepT (HB0.out.2.also X1.out)) (H0.out.keepT (HB0.out.2.also X1.out)) (H1.out.keepT (HB0.out.2.also X1.out))).mono ?_
 rintro e w2 ⟨u, rfl, hr, o1⟩
 have X2 := hID (X1.out.also o1)
 obtain ⟨hr, o1⟩ := id (And.intro hr o1)
 obtain ⟨AU, cu, rfl, _⟩ := hr.form
 have HU := hID hr
 clear hr
 clear o1 X1
 clear t0 t1 v0 v1 m0 m1 s0 s1 s2 s3 s4 s5 s6 s7 r0 r1 r2 r3
 obtain ⟨t0, t1, v0, v1, m0, m1, s0, s1, s2, s3, s4, s5, s6, s7, r0, r1, r2, r3⟩ := GC.out _ (X2.out.alloc (.cells #[.int .i64 1, .slice AU 2 cu] 97))
 go_wp2_with fail
 refine (co_psame _ _ _ (HV.out.keepT (HB0.out.2.also (X2.out.alloc _))) (HU.out.keepT (Off.alloc (Off.refl _ _) _))).mono ?_
 rintro e w3 ⟨rfl, o1⟩
 have X3 := hID ((X2.out.alloc (.cells #[.int .i64 1, .slice AU 2 cu] 97)).also o1)
 clear o1 X2 HU
 clear t0 t1 v0 v1 m0 m1 s0 s1 s2 s3 s4 s5 s6 s7 r0 r1 r2 r3
 obtain ⟨t0, t1, v0, v1, m0, m1, s0, s1, s2, s3, s4, s5, s6, s7, r0, r1, r2, r3⟩ := GC.out _ X3.out
 go_wp2_with fail
 refine wp_loop_rounds 3 ?_
 rw [rounds_succ]
 clear t0 t1 v0 v1 m0 m1 s0 s1 s2 s3 s4 s5 s6 s7 r0 r1 r2 r3
 obtain ⟨t0, t1, v0, v1, m0, m1, s0, s1, s2, s3, s4, s5, s6, s7, r0, r1, r2, r3⟩ := GC.out _ X3.out
 go_wp2_with fail
 refine wp_loop_rounds 2 ?_
 rw [rounds_succ]
 clear t0 t1 v0 v1 m0 m1 s0 s1 s2 s3 s4 s5 s6 s7 r0 r1 r2 r3
 obtain ⟨t0, t1, v0, v1, m0, m1, s0, s1, s2, s3, s4, s5, s6, s7, r0, r1, r2, r3⟩ := GC.out _ X3.out
 go_wp2_with fail
 refine wp_loop_rounds 3 ?_
 rw [rounds_succ]
 clear t0 t1 v0 v1 m0 m1 s0 s1 s2 s3 s4 s5 s6 s7 r0 r1 r2 r3
 obtain ⟨t0, t1, v0, v1, m0, m1, s0, s1, s2, s3, s4, s5, s6, s7, r0, r1, r2, r3⟩ := GC.out _ X3.out
 go_wp2_with fail
 refine Calls.mono (R := RetV w3 (.bool true)) (by have := co_has 0 8589934592 0 0 bt hbt w3; rwa [HF0.out] at this) ?_
 rintro e w4 ⟨rfl, o1⟩
 have X4 := hID (X3.out.also o1)
 clear o1 X3
 clear t0 t1 v0 v1 m0 m1 s0 s1 s2 s3 s4 s5 s6 s7 r0 r1 r2 r3
 obtain ⟨t0, t1, v0, v1, m0, m1, s0, s1, s2, s3, s4, s5, s6, s7, r0, r1, r2, r3⟩ := GC.out _ X4.out
 go_wp2_with (at_builtin; refine @wpList_append_lies _ _ _ _ _ _ _ rfl _ _ 22 rfl w0.heap.size 3 i_int (.int .i64 0) 1 8 Tryz.underlying22 h_int z_int s_int b_int rfl (by decide) (.slice none 0 0) (0) ([]) rfl ((OwnL.nilAt X4.out 3 1).1.alloc _) ⟨w4.heap.size, 0, none⟩ 1 1 [.int .i64 0] rfl rfl ?c1 (by decide) (by decide) (by decide) (by decide) (by have := (OwnL.nilAt X4.out 3 1).2.size; simp; omega) _ rfl ?_)
 case c1 => exact cell_lit _ [.int .i64 0] _
 intro g5 cap5 w5 hown hgrow hat hlt
 have OW5 := hID ((OwnL.nilAt X4.out 3 1).grown (Off.alloc (Off.refl Nob w4) (.cells #[.int .i64 0] 3)) hown hgrow)
 have X5 := hID OW5.out.2
 clear hown hgrow hat hlt X4
 clear t0 t1 v0 v1 m0 m1 s0 s1 s2 s3 s4 s5 s6 s7 r0 r1 r2 r3
 obtain ⟨t0, t1, v0, v1, m0, m1, s0, s1, s2, s3, s4, s5, s6, s7, r0, r1, r2, r3⟩ := GC.out _ X5.out
 go_wp2_with fail
 rw [rounds_succ]
 clear t0 t1 v0 v1 m0 m1 s0 s1 s2 s3 s4 s5 s6 s7 r0 r1 r2 r3
 obtain ⟨t0, t1, v0, v1, m0, m1, s0, s1, s2, s3, s4, s5, s6, s7, r0, r1, r2, r3⟩ := GC.out _ X5.out
 go_wp2_with fail
 refine Calls.mono (R := RetV w5 (.bool false)) (by have := co_has 0 17179869184 0 0 bt hbt w5; rwa [HF1.out] at this) ?_
 rintro e w6 ⟨rfl, o1⟩
 have X6 := hID (X5.out.also o1)
 have OW5' := hID (OW5.out.off o1)
 clear OW5
 have OW5 := OW5'
 clear OW5'
 clear o1 X5
 clear t0 t1 v0 v1 m0 m1 s0 s1 s2 s3 s4 s5 s6 s7 r0 r1 r2 r3
 obtain ⟨t0, t1, v0, v1, m0, m1, s0, s1, s2, s3, s4, s5, s6, s7, r0, r1, r2, r3⟩ := GC.out _ X6.out
 go_wp2_with fail
 rw [rounds_succ]
 clear t0 t1 v0 v1 m0 m1 s0 s1 s2 s3 s4 s5 s6 s7 r0 r1 r2 r3
 obtain ⟨t0, t1, v0, v1, m0, m1, s0, s1, s2, s3, s4, s5, s6, s7, r0, r1, r2, r3⟩ := GC.out _ X6.out
 go_wp2_with fail
 rw [rounds_succ]
 clear t0 t1 v0 v1 m0 m1 s0 s1 s2 s3 s4 s5 s6 s7 r0 r1 r2 r3
 obtain ⟨t0, t1, v0, v1, m0, m1, s0, s1, s2, s3, s4, s5, s6, s7, r0, r1, r2, r3⟩ := GC.out _ X6.out
 go_wp2_with fail
 rw [rounds_succ]
 clear t0 t1 v0 v1 m0 m1 s0 s1 s2 s3 s4 s5 s6 s7 r0 r1 r2 r3
 obtain ⟨t0, t1, v0, v1, m0, m1, s0, s1, s2, s3, s4, s5, s6, s7, r0, r1, r2, r3⟩ := GC.out _ X6.out
 go_wp2_with fail
 refine wp_loop_rounds 2 ?_
 rw [rounds_succ]
 clear t0 t1 v0 v1 m0 m1 s0 s1 s2 s3 s4 s5 s6 s7 r0 r1 r2 r3
 obtain ⟨t0, t1, v0, v1, m0, m1, s0, s1, s2, s3, s4, s5, s6, s7, r0, r1, r2, r3⟩ := GC.out _ X6.out
 go_wp2_with fail
 refine wp_loop_rounds 2 ?_
 rw [rounds_succ]
 clear t0 t1 v0 v1 m0 m1 s0 s1 s2 s3 s4 s5 s6 s7 r0 r1 r2 r3
 obtain ⟨t0, t1, v0, v1, m0, m1, s0, s1, s2, s3, s4, s5, s6, s7, r0, r1, r2, r3⟩ := GC.out _ X6.out
 go_wp2_with fail
 refine Calls.mono (R := RetV w6 (.bool true)) (by have := co_has 0 25769803776 0 0 bt hbt w6; rwa [HF2.out] at this) ?_
 rintro e w7 ⟨rfl, o1⟩
 have X7 := hID (X6.out.also o1)
 have OW5' := hID (OW5.out.off o1)
 clear OW5
 have OW5 := OW5'
 clear OW5'
 clear o1 X6
 clear t0 t1 v0 v1 m0 m1 s0 s1 s2 s3 s4 s5 s6 s7 r0 r1 r2 r3
 obtain ⟨t0, t1, v0, v1, m0, m1, s0, s1, s2, s3, s4, s5, s6, s7, r0, r1, r2, r3⟩ := GC.out _ X7.out
 go_wp2_with (at_builtin; refine @wpList_append_lies _ _ _ _ _ _ _ rfl _ _ 22 rfl w0.heap.size 3 i_int (.int .i64 0) 1 8 Tryz.underlying22 h_int z_int s_int b_int rfl (by decide) (.slice (some ⟨g5, 0, none⟩) (0 + 1) cap5) (0 + 1) ([] ++ [.int .i64 0]) rfl (OW5.out.1.alloc _) ⟨w7.heap.size, 0, none⟩ 1 1 [.int .i64 2] rfl rfl ?c1 (by decide) (by decide) (by decide) (by decide) (by have := OW5.out.2.size; simp; omega) _ rfl ?_)
 case c1 => exact cell_lit _ [.int .i64 2] _
 intro g8 cap8 w8 hown hgrow hat hlt
 have OW8 := hID (OW5.out.grown (Off.alloc (Off.refl Nob w7) (.cells #[.int .i64 2] 3)) hown hgrow)
 have X8 := hID OW8.out.2
 clear hown hgrow hat hlt X7 OW5
 clear t0 t1 v0 v1 m0 m1 s0 s1 s2 s3 s4 s5 s6 s7 r0 r1 r2 r3
 obtain ⟨t0, t1, v0, v1, m0, m1, s0, s1, s2, s3, s4, s5, s6, s7, r0, r1, r2, r3⟩ := GC.out _ X8.out
 go_wp2_with fail
 rw [rounds_succ]
 clear t0 t1 v0 v1 m0 m1 s0 s1 s2 s3 s4 s5 s6 s7 r0 r1 r2 r3
 obtain ⟨t0, t1, v0, v1, m0, m1, s0, s1, s2, s3, s4, s5, s6, s7, r0, r1, r2, r3⟩ := GC.out _ X8.out
 go_wp2_with fail
 rw [rounds_succ]
 clear t0 t1 v0 v1 m0 m1 s0 s1 s2 s3 s4 s5 s6 s7 r0 r1 r2 r3
 obtain ⟨t0, t1, v0, v1, m0, m1, s0, s1, s2, s3, s4, s5, s6, s7, r0, r1, r2, r3⟩ := GC.out _ X8.out
 go_wp2_with fail
 rw [rounds_succ]
 clear t0 t1 v0 v1 m0 m1 s0 s1 s2 s3 s4 s5 s6 s7 r0 r1 r2 r3
 obtain ⟨t0, t1, v0, v1, m0, m1, s0, s1, s2, s3, s4, s5, s6, s7, r0, r1, r2, r3⟩ := GC.out _ X8.out
 go_wp2_with fail
 refine (co_rof_02 _ _ OW8.out.rd).mono ?_
 rintro e w9 ⟨u, rfl, hr, o1⟩
 have X9 := hID (X8.out.also o1)
 obtain ⟨hr, o1⟩ := id (And.intro hr o1)
 have HZ := hID hr.any
 clear hr
 clear o1 X8
 clear t0 t1 v0 v1 m0 m1 s0 s1 s2 s3 s4 s5 s6 s7 r0 r1 r2 r3
 obtain ⟨t0, t1, v0, v1, m0, m1, s0, s1, s2, s3, s4, s5, s6, s7, r0, r1, r2, r3⟩ := GC.out _ X9.out
 go_wp2_with fail
 go_ret2
 exact ⟨_, rfl, HZ.out, HB0.out.2.also X9.out⟩
set_option maxHeartbeats 16000000 in
theorem co_row_b (w : World) (v rv l0 l1 ma mb : Value) (hv : Rd w (fun _ => True) 3 v 2 ln_ab) (hr : Rd w (fun _ => True) 1 rv 2 [l0, l1]) (h0 : Rd w (fun _ => True) 1 l0 1 [ma]) (h1 : Rd w (fun _ => True) 1 l1 1 [mb]) (ha : Rd w (fun _ => True) 4 ma 2 se_a) (hb : Rd w (fun _ => True) 4 mb 1 se_b) (bt : Nat) (hbt : bt < 256) (hf0 : hasB 0 8589934592 0 0 bt = false) (hf1 : hasB 0 17179869184 0 0 bt = true) (hf2 : hasB 0 25769803776 0 0 bt = true) :
  Calls Tryz.prog 128 #[.agg #[.int .i64 1, v], rv, .int .u8 (bt : Int)] w (fun e w' => ∃ u, e = .returned (.tuple #[u, .int .i64 0]) ∧ Rd w' (fun _ => True) 1 u 1 [.int .u64 6] ∧ Off Nob w w') := by
 have HF0 := hID hf0
 have HF1 := hID hf1
 have HF2 := hID hf2
 obtain ⟨i_int, h_int, z_int, s_int, b_int⟩ := info_parts Tryz.infoI'
 have HV0 := hID hv
 have HR0 := hID hr
 have H00 := hID h0
 have H10 := hID h1
 obtain ⟨b, o, c, rfl, hc⟩ := hv.cellsT (by decide)
 obtain ⟨bb, oo, cc, rfl, hcr⟩ := hr.cellsT (by decide)
 obtain ⟨b0, o0, c0, rfl, hc0⟩ := h0.cellsT (by decide)
 obtain ⟨b1, o1, c1, rfl, hc1⟩ := h1.cellsT (by decide)
 obtain ⟨ba, oa, ca, rfl, hca⟩ := ha.cellsT (by decide)
 obtain ⟨be, oe, ce, rfl, hce⟩ := hb.cellsT (by decide)
 have HV := HV0
 have HR := HR0
 have H0 := H00
 have H1 := H10
 have HC := hID (And.intro hc (And.intro hcr (And.intro hc0 (And.intro hc1 (And.intro hca hce)))))
 clear hc hv hr h0 h1 ha hb hcr hc0 hc1 hca hce HV0 HR0 H00 H10 hf0 hf1 hf2
 go_enter Tryz.func128, Tryz.ntmps128
 go_wp2_with fail
 have HB0 : Hid (Blk (w.alloc (.cells #[.int .i64 1, .slice (some ⟨b, o, none⟩) 2 c] 97)) w.heap.size 97 #[.int .i64 1, .slice (some ⟨b, o, none⟩) 2 c] ∧ Off Nob w (w.alloc (.cells #[.int .i64 1, .slice (some ⟨b, o, none⟩) 2 c] 97))) := hID ⟨Blk.new _ _ _, Off.alloc (Off.refl _ _) _⟩
 revert HB0
 generalize (w.alloc (.cells #[.int .i64 1, .slice (some ⟨b, o, none⟩) 2 c] 97)) = w0
 intro HB0
 have GC : Hid (∀ W, Off Nob w0 W → W.cell? ⟨w.heap.size, 0, none⟩ = some (.int .i64 1) ∧ W.cell? ⟨w.heap.size, 1, none⟩ = some (.slice (some ⟨b, o, none⟩) 2 c) ∧ W.cell? ⟨bb, oo, none⟩ = some (.slice (some ⟨b0, o0, none⟩) 1 c0) ∧ W.cell? ⟨bb, oo + 1, none⟩ = some (.slice (some ⟨b1, o1, none⟩) 1 c1) ∧ W.cell? ⟨b0, o0, none⟩ = some (.slice (some ⟨ba, oa, none⟩) 2 ca) ∧ W.cell? ⟨b1, o1, none⟩ = some (.slice (some ⟨be, oe, none⟩) 1 ce) ∧ W.cell? ⟨ba, oa, none⟩ = some (.int .u64 0) ∧ W.cell? ⟨ba, oa + 1, none⟩ = some (.int .u64 8589934592) ∧ W.cell? ⟨ba, oa + 2, none⟩ = some (.int .u64 0) ∧ W.cell? ⟨ba, oa + 3, none⟩ = some (.int .u64 0) ∧ W.cell? ⟨ba, oa + 4, none⟩ = some (.int .u64 0) ∧ W.cell? ⟨ba, oa + 5, none⟩ = some (.int .u64 17179869184) ∧ W.cell? ⟨ba, oa + 6, none⟩ = some (.int .u64 0) ∧ W.cell? ⟨ba, oa + 7, none⟩ = some (.int .u64 0) ∧ W.cell? ⟨be, oe, none⟩ = some (.int .u64 0) ∧ W.cell? ⟨be, oe + 1, none⟩ = some (.int .u64 25769803776) ∧ W.cell? ⟨be, oe + 2, none⟩ = some (.int .u64 0) ∧ W.cell? ⟨be, oe + 3, none⟩ = some (.int .u64 0)) := hID (fun W ho => by
  have h := HB0.out.1.to (ho.block _ HB0.out.1.lt (fun h => h))
  have k := HB0.out.2.also ho
  obtain ⟨g1, g2, g3, g4, g5, g6⟩ := HC.out
  exact ⟨h.cell 0, h.cell 1, g2 W k 0 _ rfl, g2 W k 1 _ rfl, g3 W k 0 _ rfl, g4 W k 0 _ rfl, g5 W k 0 _ rfl, g5 W k 1 _ rfl, g5 W k 2 _ rfl, g5 W k 3 _ rfl, g5 W k 4 _ rfl, g5 W k 5 _ rfl, g5 W k 6 _ rfl, g5 W k 7 _ rfl, g6 W k 0 _ rfl, g6 W k 1 _ rfl, g6 W k 2 _ rfl, g6 W k 3 _ rfl⟩)
 have X0 : Hid (Off Nob w0 w0) := hID (Off.refl _ _)
 obtain ⟨t0, t1, v0, v1, m0, m1, s0, s1, s2, s3, s4, s5, s6, s7, r0, r1, r2, r3⟩ := GC.out _ X0.out
 go_wp2_with fail
 refine (co_lcheck _ _ (HV.out.keepT HB0.out.2)).mono ?_
 rintro e w1 ⟨rfl, o1⟩
 have X1 := hID (X0.out.also o1)
 clear o1 X0
 clear t0 t1 v0 v1 m0 m1 s0 s1 s2 s3 s4 s5 s6 s7 r0 r1 r2 r3
 obtain ⟨t0, t1, v0, v1, m0, m1, s0, s1, s2, s3, s4, s5, s6, s7, r0, r1, r2, r3⟩ := GC.out _ X1.out
 go_wp2_with fail
 refine (co_pack _ _ _ _ _ _ _ _ (HR.out.keepT (HB0.out.2.also X1.out)) (H0.out.keepT (HB0.out.2.also X1.out)) (H1.out.keepT (HB0.out.2.also X1.out))).mono ?_
 rintro e w2 ⟨u, rfl, hr, o1⟩
 have X2 := hID (X1.out.also o1)
 obtain ⟨hr, o1⟩ := id (And.intro hr o1)
 obtain ⟨AU, cu, rfl, _⟩ := hr.form
 have HU := hID hr
 clear hr
 clear o1 X1
 clear t0 t1 v0 v1 m0 m1 s0 s1 s2 s3 s4 s5 s6 s7 r0 r1 r2 r3
 obtain ⟨t0, t1, v0, v1, m0, m1, s0, s1, s2, s3, s4, s5, s6, s7, r0, r1, r2, r3⟩ := GC.out _ (X2.out.alloc (.cells #[.int .i64 1, .slice AU 2 cu] 97))
 go_wp2_with fail
 refine (co_psame _ _ _ (HV.out.keepT (HB0.out.2.also (X2.out.alloc _))) (HU.out.keepT (Off.alloc (Off.refl _ _) _))).mono ?_
 rintro e w3 ⟨rfl, o1⟩
 have X3 := hID ((X2.out.alloc (.cells #[.int .i64 1, .slice AU 2 cu] 97)).also o1)
 clear o1 X2 HU
 clear t0 t1 v0 v1 m0 m1 s0 s1 s2 s3 s4 s5 s6 s7 r0 r1 r2 r3
 obtain ⟨t0, t1, v0, v1, m0, m1, s0, s1, s2, s3, s4, s5, s6, s7, r0, r1, r2, r3⟩ := GC.out _ X3.out
 go_wp2_with fail
 refine wp_loop_rounds 3 ?_
 rw [rounds_succ]
 clear t0 t1 v0 v1 m0 m1 s0 s1 s2 s3 s4 s5 s6 s7 r0 r1 r2 r3
 obtain ⟨t0, t1, v0, v1, m0, m1, s0, s1, s2, s3, s4, s5, s6, s7, r0, r1, r2, r3⟩ := GC.out _ X3.out
 go_wp2_with fail
 refine wp_loop_rounds 2 ?_
 rw [rounds_succ]
 clear t0 t1 v0 v1 m0 m1 s0 s1 s2 s3 s4 s5 s6 s7 r0 r1 r2 r3
 obtain ⟨t0, t1, v0, v1, m0, m1, s0, s1, s2, s3, s4, s5, s6, s7, r0, r1, r2, r3⟩ := GC.out _ X3.out
 go_wp2_with fail
 refine wp_loop_rounds 3 ?_
 rw [rounds_succ]
 clear t0 t1 v0 v1 m0 m1 s0 s1 s2 s3 s4 s5 s6 s7 r0 r1 r2 r3
 obtain ⟨t0, t1, v0, v1, m0, m1, s0, s1, s2, s3, s4, s5, s6, s7, r0, r1, r2, r3⟩ := GC.out _ X3.out
 go_wp2_with fail
 refine Calls.mono (R := RetV w3 (.bool false)) (by have := co_has 0 8589934592 0 0 bt hbt w3; rwa [HF0.out] at this) ?_
 rintro e w4 ⟨rfl, o1⟩
 have X4 := hID (X3.out.also o1)
 clear o1 X3
 clear t0 t1 v0 v1 m0 m1 s0 s1 s2 s3 s4 s5 s6 s7 r0 r1 r2 r3
 obtain ⟨t0, t1, v0, v1, m0, m1, s0, s1, s2, s3, s4, s5, s6, s7, r0, r1, r2, r3⟩ := GC.out _ X4.out
 go_wp2_with fail
 rw [rounds_succ]
 clear t0 t1 v0 v1 m0 m1 s0 s1 s2 s3 s4 s5 s6 s7 r0 r1 r2 r3
 obtain ⟨t0, t1, v0, v1, m0, m1, s0, s1, s2, s3, s4, s5, s6, s7, r0, r1, r2, r3⟩ := GC.out _ X4.out
 go_wp2_with fail
 refine Calls.mono (R := RetV w4 (.bool true)) (by have := co_has 0 17179869184 0 0 bt hbt w4; rwa [HF1.out] at this) ?_
 rintro e w5 ⟨rfl, o1⟩
 have X5 := hID (X4.out.also o1)
 clear o1 X4
 clear t0 t1 v0 v1 m0 m1 s0 s1 s2 s3 s4 s5 s6 s7 r0 r1 r2 r3
 obtain ⟨t0, t1, v0, v1, m0, m1, s0, s1, s2, s3, s4, s5, s6, s7, r0, r1, r2, r3⟩ := GC.out _ X5.out
 go_wp2_with (at_builtin; refine @wpList_append_lies _ _ _ _ _ _ _ rfl _ _ 22 rfl w0.heap.size 3 i_int (.int .i64 0) 1 8 Tryz.underlying22 h_int z_int s_int b_int rfl (by decide) (.slice none 0 0) (0) ([]) rfl ((OwnL.nilAt X5.out 3 1).1.alloc _) ⟨w5.heap.size, 0, none⟩ 1 1 [.int .i64 1] rfl rfl ?c1 (by decide) (by decide) (by decide) (by decide) (by have := (OwnL.nilAt X5.out 3 1).2.size; simp; omega) _ rfl ?_)
 case c1 => exact cell_lit _ [.int .i64 1] _
 intro g6 cap6 w6 hown hgrow hat hlt
 have OW6 := hID ((OwnL.nilAt X5.out 3 1).grown (Off.alloc (Off.refl Nob w5) (.cells #[.int .i64 1] 3)) hown hgrow)
 have X6 := hID OW6.out.2
 clear hown hgrow hat hlt X5
 clear t0 t1 v0 v1 m0 m1 s0 s1 s2 s3 s4 s5 s6 s7 r0 r1 r2 r3
 obtain ⟨t0, t1, v0, v1, m0, m1, s0, s1, s2, s3, s4, s5, s6, s7, r0, r1, r2, r3⟩ := GC.out _ X6.out
 go_wp2_with fail
 rw [rounds_succ]
 clear t0 t1 v0 v1 m0 m1 s0 s1 s2 s3 s4 s5 s6 s7 r0 r1 r2 r3
 obtain ⟨t0, t1, v0, v1, m0, m1, s0, s1, s2, s3, s4, s5, s6, s7, r0, r1, r2, r3⟩ := GC.out _ X6.out
 go_wp2_with fail
 rw [rounds_succ]
 clear t0 t1 v0 v1 m0 m1 s0 s1 s2 s3 s4 s5 s6 s7 r0 r1 r2 r3
 obtain ⟨t0, t1, v0, v1, m0, m1, s0, s1, s2, s3, s4, s5, s6, s7, r0, r1, r2, r3⟩ := GC.out _ X6.out
 go_wp2_with fail
 rw [rounds_succ]
 clear t0 t1 v0 v1 m0 m1 s0 s1 s2 s3 s4 s5 s6 s7 r0 r1 r2 r3
 obtain ⟨t0, t1, v0, v1, m0, m1, s0, s1, s2, s3, s4, s5, s6, s7, r0, r1, r2, r3⟩ := GC.out _ X6.out
 go_wp2_with fail
 refine wp_loop_rounds 2 ?_
 rw [rounds_succ]
 clear t0 t1 v0 v1 m0 m1 s0 s1 s2 s3 s4 s5 s6 s7 r0 r1 r2 r3
 obtain ⟨t0, t1, v0, v1, m0, m1, s0, s1, s2, s3, s4, s5, s6, s7, r0, r1, r2, r3⟩ := GC.out _ X6.out
 go_wp2_with fail
 refine wp_loop_rounds 2 ?_
 rw [rounds_succ]
 clear t0 t1 v0 v1 m0 m1 s0 s1 s2 s3 s4 s5 s6 s7 r0 r1 r2 r3
 obtain ⟨t0, t1, v0, v1, m0, m1, s0, s1, s2, s3, s4, s5, s6, s7, r0, r1, r2, r3⟩ := GC.out _ X6.out
 go_wp2_with fail
 refine Calls.mono (R := RetV w6 (.bool true)) (by have := co_has 0 25769803776 0 0 bt hbt w6; rwa [HF2.out] at this) ?_
 rintro e w7 ⟨rfl, o1⟩
 have X7 := hID (X6.out.also o1)
 have OW6' := hID (OW6.out.off o1)
 clear OW6
 have OW6 := OW6'
 clear OW6'
 clear o1 X6
 clear t0 t1 v0 v1 m0 m1 s0 s1 s2 s3 s4 s5 s6 s7 r0 r1 r2 r3
 obtain ⟨t0, t1, v0, v1, m0, m1, s0, s1, s2, s3, s4, s5, s6, s7, r0, r1, r2, r3⟩ := GC.out _ X7.out
 go_wp2_with (at_builtin; refine @wpList_append_lies _ _ _ _ _ _ _ rfl _ _ 22 rfl w0.heap.size 3 i_int (.int .i64 0) 1 8 Tryz.underlying22 h_int z_int s_int b_int rfl (by decide) (.slice (some ⟨g6, 0, none⟩) (0 + 1) cap6) (0 + 1) ([] ++ [.int .i64 1]) rfl (OW6.out.1.alloc _) ⟨w7.heap.size, 0, none⟩ 1 1 [.int .i64 2] rfl rfl ?c1 (by decide) (by decide) (by decide) (by decide) (by have := OW6.out.2.size; simp; omega) _ rfl ?_)
 case c1 => exact cell_lit _ [.int .i64 2] _
 intro g8 cap8 w8 hown hgrow hat hlt
 have OW8 := hID (OW6.out.grown (Off.alloc (Off.refl Nob w7) (.cells #[.int .i64 2] 3)) hown hgrow)
 have X8 := hID OW8.out.2
 clear hown hgrow hat hlt X7 OW6
 clear t0 t1 v0 v1 m0 m1 s0 s1 s2 s3 s4 s5 s6 s7 r0 r1 r2 r3
 obtain ⟨t0, t1, v0, v1, m0, m1, s0, s1, s2, s3, s4, s5, s6, s7, r0, r1, r2, r3⟩ := GC.out _ X8.out
 go_wp2_with fail
 rw [rounds_succ]
 clear t0 t1 v0 v1 m0 m1 s0 s1 s2 s3 s4 s5 s6 s7 r0 r1 r2 r3
 obtain ⟨t0, t1, v0, v1, m0, m1, s0, s1, s2, s3, s4, s5, s6, s7, r0, r1, r2, r3⟩ := GC.out _ X8.out
 go_wp2_with fail
 rw [rounds_succ]
 clear t0 t1 v0 v1 m0 m1 s0 s1 s2 s3 s4 s5 s6 s7 r0 r1 r2 r3
 obtain ⟨t0, t1, v0, v1, m0, m1, s0, s1, s2, s3, s4, s5, s6, s7, r0, r1, r2, r3⟩ := GC.out _ X8.out
 go_wp2_with fail
 rw [rounds_succ]
 clear t0 t1 v0 v1 m0 m1 s0 s1 s2 s3 s4 s5 s6 s7 r0 r1 r2 r3
 obtain ⟨t0, t1, v0, v1, m0, m1, s0, s1, s2, s3, s4, s5, s6, s7, r0, r1, r2, r3⟩ := GC.out _ X8.out
 go_wp2_with fail
 refine (co_rof_12 _ _ OW8.out.rd).mono ?_
 rintro e w9 ⟨u, rfl, hr, o1⟩
 have X9 := hID (X8.out.also o1)
 obtain ⟨hr, o1⟩ := id (And.intro hr o1)
 have HZ := hID hr.any
 clear hr
 clear o1 X8
 clear t0 t1 v0 v1 m0 m1 s0 s1 s2 s3 s4 s5 s6 s7 r0 r1 r2 r3
 obtain ⟨t0, t1, v0, v1, m0, m1, s0, s1, s2, s3, s4, s5, s6, s7, r0, r1, r2, r3⟩ := GC.out _ X9.out
 go_wp2_with fail
 go_ret2
 exact ⟨_, rfl, HZ.out, HB0.out.2.also X9.out⟩
set_option maxHeartbeats 16000000 in
theorem co_row_x (w : World) (v rv l0 l1 ma mb : Value) (hv : Rd w (fun _ => True) 3 v 2 ln_ab) (hr : Rd w (fun _ => True) 1 rv 2 [l0, l1]) (h0 : Rd w (fun _ => True) 1 l0 1 [ma]) (h1 : Rd w (fun _ => True) 1 l1 1 [mb]) (ha : Rd w (fun _ => True) 4 ma 2 se_a) (hb : Rd w (fun _ => True) 4 mb 1 se_b) (bt : Nat) (hbt : bt < 256) (hf0 : hasB 0 8589934592 0 0 bt = false) (hf1 : hasB 0 17179869184 0 0 bt = false) (hf2 : hasB 0 25769803776 0 0 bt = false) :
  Calls Tryz.prog 128 #[.agg #[.int .i64 1, v], rv, .int .u8 (bt : Int)] w (fun e w' => ∃ u, e = .returned (.tuple #[u, .int .i64 0]) ∧ Rd w' (fun _ => True) 1 u 1 [.int .u64 0] ∧ Off Nob w w') := by
 have HF0 := hID hf0
 have HF1 := hID hf1
 have HF2 := hID hf2
 obtain ⟨i_int, h_int, z_int, s_int, b_int⟩ := info_parts Tryz.infoI'
 have HV0 := hID hv
 have HR0 := hID hr
 have H00 := hID h0
 have H10 := hID h1
 obtain ⟨b, o, c, rfl, hc⟩ := hv.cellsT (by decide)
 obtain ⟨bb, oo, cc, rfl, hcr⟩ := hr.cellsT (by decide)
 obtain ⟨b0, o0, c0, rfl, hc0⟩ := h0.cellsT (by decide)
 obtain ⟨b1, o1, c1, rfl, hc1⟩ := h1.cellsT (by decide)
 obtain ⟨ba, oa, ca, rfl, hca⟩ := ha.cellsT (by decide)
 obtain ⟨be, oe, ce, rfl, hce⟩ := hb.cellsT (by decide)
 have HV := HV0
 have HR := HR0
 have H0 := H00
 have H1 := H10
 have HC := hID (And.intro hc (And.intro hcr (And.intro hc0 (And.intro hc1 (And.intro hca hce)))))
 clear hc hv hr h0 h1 ha hb hcr hc0 hc1 hca hce HV0 HR0 H00 H10 hf0 hf1 hf2
 go_enter Tryz.func128, Tryz.ntmps128
 go_wp2_with fail
 have HB0 : Hid (Blk (w.alloc (.cells #[.int .i64 1, .slice (some ⟨b, o, none⟩) 2 c] 97)) w.heap.size 97 #[.int .i64 1, .slice (some ⟨b, o, none⟩) 2 c] ∧ Off Nob w (w.alloc (.cells #[.int .i64 1, .slice (some ⟨b, o, none⟩) 2 c] 97))) := hID ⟨Blk.new _ _ _, Off.alloc (Off.refl _ _) _⟩
 revert HB0
 generalize (w.alloc (.cells #[.int .i64 1, .slice (some ⟨b, o, none⟩) 2 c] 97)) = w0
 intro HB0
 have GC : Hid (∀ W, Off Nob w0 W → W.cell? ⟨w.heap.size, 0, none⟩ = some (.int .i64 1) ∧ W.cell? ⟨w.heap.size, 1, none⟩ = some (.slice (some ⟨b, o, none⟩) 2 c) ∧ W.cell? ⟨bb, oo, none⟩ = some (.slice (some ⟨b0, o0, none⟩) 1 c0) ∧ W.cell? ⟨bb, oo + 1, none⟩ = some (.slice (some ⟨b1, o1, none⟩) 1 c1) ∧ W.cell? ⟨b0, o0, none⟩ = some (.slice (some ⟨ba, oa, none⟩) 2 ca) ∧ W.cell? ⟨b1, o1, none⟩ = some (.slice (some ⟨be, oe, none⟩) 1 ce) ∧ W.cell? ⟨ba, oa, none⟩ = some (.int .u64 0) ∧ W.cell? ⟨ba, oa + 1, none⟩ = some (.int .u64 8589934592) ∧ W.cell? ⟨ba, oa + 2, none⟩ = some (.int .u64 0) ∧ W.cell? ⟨ba, oa + 3, none⟩ = some (.int .u64 0) ∧ W.cell? ⟨ba, oa + 4, none⟩ = some (.int .u64 0) ∧ W.cell? ⟨ba, oa + 5, none⟩ = some (.int .u64 17179869184) ∧ W.cell? ⟨ba, oa + 6, none⟩ = some (.int .u64 0) ∧ W.cell? ⟨ba, oa + 7, none⟩ = some (.int .u64 0) ∧ W.cell? ⟨be, oe, none⟩ = some (.int .u64 0) ∧ W.cell? ⟨be, oe + 1, none⟩ = some (.int .u64 25769803776) ∧ W.cell? ⟨be, oe + 2, none⟩ = some (.int .u64 0) ∧ W.cell? ⟨be, oe + 3, none⟩ = some (.int .u64 0)) := hID (fun W ho => by
  have h := HB0.out.1.to (ho.block _ HB0.out.1.lt (fun h => h))
  have k := HB0.out.2.also ho
  obtain ⟨g1, g2, g3, g4, g5, g6⟩ := HC.out
  exact ⟨h.cell 0, h.cell 1, g2 W k 0 _ rfl, g2 W k 1 _ rfl, g3 W k 0 _ rfl, g4 W k 0 _ rfl, g5 W k 0 _ rfl, g5 W k 1 _ rfl, g5 W k 2 _ rfl, g5 W k 3 _ rfl, g5 W k 4 _ rfl, g5 W k 5 _ rfl, g5 W k 6 _ rfl, g5 W k 7 _ rfl, g6 W k 0 _ rfl, g6 W k 1 _ rfl, g6 W k 2 _ rfl, g6 W k 3 _ rfl⟩)
 have X0 : Hid (Off Nob w0 w0) := hID (Off.refl _ _)
 obtain ⟨t0, t1, v0, v1, m0, m1, s0, s1, s2, s3, s4, s5, s6, s7, r0, r1, r2, r3⟩ := GC.out _ X0.out
 go_wp2_with fail
 refine (co_lcheck _ _ (HV.out.keepT HB0.out.2)).mono ?_
 rintro e w1 ⟨rfl, o1⟩
 have X1 := hID (X0.out.also o1)
 clear o1 X0
 clear t0 t1 v0 v1 m0 m1 s0 s1 s2 s3 s4 s5 s6 s7 r0 r1 r2 r3
 obtain ⟨t0, t1, v0, v1, m0, m1, s0, s1, s2, s3, s4, s5, s6, s7, r0, r1, r2, r3⟩ := GC.out _ X1.out
 go_wp2_with fail
 refine (co_pack _ _ _ _ _ _ _ _ (HR.out.keepT (HB0.out.2.also X1.out)) (H0.out.keepT (HB0.out.2.also X1.out)) (H1.out.keepT (HB0.out.2.also X1.out))).mono ?_
 rintro e w2 ⟨u, rfl, hr, o1⟩
 have X2 := hID (X1.out.also o1)
 obtain ⟨hr, o1⟩ := id (And.intro hr o1)
 obtain ⟨AU, cu, rfl, _⟩ := hr.form
 have HU := hID hr
 clear hr
 clear o1 X1
 clear t0 t1 v0 v1 m0 m1 s0 s1 s2 s3 s4 s5 s6 s7 r0 r1 r2 r3
 obtain ⟨t0, t1, v0, v1, m0, m1, s0, s1, s2, s3, s4, s5, s6, s7, r0, r1, r2, r3⟩ := GC.out _ (X2.out.alloc (.cells #[.int .i64 1, .slice AU 2 cu] 97))
 go_wp2_with fail
 refine (co_psame _ _ _ (HV.out.keepT (HB0.out.2.also (X2.out.alloc _))) (HU.out.keepT (Off.alloc (Off.refl _ _) _))).mono ?_
 rintro e w3 ⟨rfl, o1⟩
 have X3 := hID ((X2.out.alloc (.cells #[.int .i64 1, .slice AU 2 cu] 97)).also o1)
 clear o1 X2 HU
 clear t0 t1 v0 v1 m0 m1 s0 s1 s2 s3 s4 s5 s6 s7 r0 r1 r2 r3
 obtain ⟨t0, t1, v0, v1, m0, m1, s0, s1, s2, s3, s4, s5, s6, s7, r0, r1, r2, r3⟩ := GC.out _ X3.out
 go_wp2_with fail
 refine wp_loop_rounds 3 ?_
 rw [rounds_succ]
 clear t0 t1 v0 v1 m0 m1 s0 s1 s2 s3 s4 s5 s6 s7 r0 r1 r2 r3
 obtain ⟨t0, t1, v0, v1, m0, m1, s0, s1, s2, s3, s4, s5, s6, s7, r0, r1, r2, r3⟩ := GC.out _ X3.out
 go_wp2_with fail
 refine wp_loop_rounds 2 ?_
 rw [rounds_succ]
 clear t0 t1 v0 v1 m0 m1 s0 s1 s2 s3 s4 s5 s6 s7 r0 r1 r2 r3
 obtain ⟨t0, t1, v0, v1, m0, m1, s0, s1, s2, s3, s4, s5, s6, s7, r0, r1, r2, r3⟩ := GC.out _ X3.out
 go_wp2_with fail
 refine wp_loop_rounds 3 ?_
 rw [rounds_succ]
 clear t0 t1 v0 v1 m0 m1 s0 s1 s2 s3 s4 s5 s6 s7 r0 r1 r2 r3
 obtain ⟨t0, t1, v0, v1, m0, m1, s0, s1, s2, s3, s4, s5, s6, s7, r0, r1, r2, r3⟩ := GC.out _ X3.out
 go_wp2_with fail
 refine Calls.mono (R := RetV w3 (.bool false)) (by have := co_has 0 8589934592 0 0 bt hbt w3; rwa [HF0.out] at this) ?_
 rintro e w4 ⟨rfl, o1⟩
 have X4 := hID (X3.out.also o1)
 clear o1 X3
 clear t0 t1 v0 v1 m0 m1 s0 s1 s2 s3 s4 s5 s6 s7 r0 r1 r2 r3
 obtain ⟨t0, t1, v0, v1, m0, m1, s0, s1, s2, s3, s4, s5, s6, s7, r0, r1, r2, r3⟩ := GC.out _ X4.out
 go_wp2_with fail
 rw [rounds_succ]
 clear t0 t1 v0 v1 m0 m1 s0 s1 s2 s3 s4 s5 s6 s7 r0 r1 r2 r3
 obtain ⟨t0, t1, v0, v1, m0, m1, s0, s1, s2, s3, s4, s5, s6, s7, r0, r1, r2, r3⟩ := GC.out _ X4.out
 go_wp2_with fail
 refine Calls.mono (R := RetV w4 (.bool false)) (by have := co_has 0 17179869184 0 0 bt hbt w4; rwa [HF1.out] at this) ?_
 rintro e w5 ⟨rfl, o1⟩
 have X5 := hID (X4.out.also o1)
 clear o1 X4
 clear t0 t1 v0 v1 m0 m1 s0 s1 s2 s3 s4 s5 s6 s7 r0 r1 r2 r3
 obtain ⟨t0, t1, v0, v1, m0, m1, s0, s1, s2, s3, s4, s5, s6, s7, r0, r1, r2, r3⟩ := GC.out _ X5.out
 go_wp2_with fail
 rw [rounds_succ]
 clear t0 t1 v0 v1 m0 m1 s0 s1 s2 s3 s4 s5 s6 s7 r0 r1 r2 r3
 obtain ⟨t0, t1, v0, v1, m0, m1, s0, s1, s2, s3, s4, s5, s6, s7, r0, r1, r2, r3⟩ := GC.out _ X5.out
 go_wp2_with fail
 rw [rounds_succ]
 clear t0 t1 v0 v1 m0 m1 s0 s1 s2 s3 s4 s5 s6 s7 r0 r1 r2 r3
 obtain ⟨t0, t1, v0, v1, m0, m1, s0, s1, s2, s3, s4, s5, s6, s7, r0, r1, r2, r3⟩ := GC.out _ X5.out
 go_wp2_with fail
 rw [rounds_succ]
 clear t0 t1 v0 v1 m0 m1 s0 s1 s2 s3 s4 s5 s6 s7 r0 r1 r2 r3
 obtain ⟨t0, t1, v0, v1, m0, m1, s0, s1, s2, s3, s4, s5, s6, s7, r0, r1, r2, r3⟩ := GC.out _ X5.out
 go_wp2_with fail
 refine wp_loop_rounds 2 ?_
 rw [rounds_succ]
 clear t0 t1 v0 v1 m0 m1 s0 s1 s2 s3 s4 s5 s6 s7 r0 r1 r2 r3
 obtain ⟨t0, t1, v0, v1, m0, m1, s0, s1, s2, s3, s4, s5, s6, s7, r0, r1, r2, r3⟩ := GC.out _ X5.out
 go_wp2_with fail
 refine wp_loop_rounds 2 ?_
 rw [rounds_succ]
 clear t0 t1 v0 v1 m0 m1 s0 s1 s2 s3 s4 s5 s6 s7 r0 r1 r2 r3
 obtain ⟨t0, t1, v0, v1, m0, m1, s0, s1, s2, s3, s4, s5, s6, s7, r0, r1, r2, r3⟩ := GC.out _ X5.out
 go_wp2_with fail
 refine Calls.mono (R := RetV w5 (.bool false)) (by have := co_has 0 25769803776 0 0 bt hbt w5; rwa [HF2.out] at this) ?_
 rintro e w6 ⟨rfl, o1⟩
 have X6 := hID (X5.out.also o1)
 clear o1 X5
 clear t0 t1 v0 v1 m0 m1 s0 s1 s2 s3 s4 s5 s6 s7 r0 r1 r2 r3
 obtain ⟨t0, t1, v0, v1, m0, m1, s0, s1, s2, s3, s4, s5, s6, s7, r0, r1, r2, r3⟩ := GC.out _ X6.out
 go_wp2_with fail
 rw [rounds_succ]
 clear t0 t1 v0 v1 m0 m1 s0 s1 s2 s3 s4 s5 s6 s7 r0 r1 r2 r3
 obtain ⟨t0, t1, v0, v1, m0, m1, s0, s1, s2, s3, s4, s5, s6, s7, r0, r1, r2, r3⟩ := GC.out _ X6.out
 go_wp2_with fail
 rw [rounds_succ]
 clear t0 t1 v0 v1 m0 m1 s0 s1 s2 s3 s4 s5 s6 s7 r0 r1 r2 r3
 obtain ⟨t0, t1, v0, v1, m0, m1, s0, s1, s2, s3, s4, s5, s6, s7, r0, r1, r2, r3⟩ := GC.out _ X6.out
 go_wp2_with fail
 rw [rounds_succ]
 clear t0 t1 v0 v1 m0 m1 s0 s1 s2 s3 s4 s5 s6 s7 r0 r1 r2 r3
 obtain ⟨t0, t1, v0, v1, m0, m1, s0, s1, s2, s3, s4, s5, s6, s7, r0, r1, r2, r3⟩ := GC.out _ X6.out
 go_wp2_with fail
 refine (co_rof_no _ _ (rd_zero _ _ _ _)).mono ?_
 rintro e w7 ⟨u, rfl, hr, o1⟩
 have X7 := hID (X6.out.also o1)
 obtain ⟨hr, o1⟩ := id (And.intro hr o1)
 have HZ := hID hr.any
 clear hr
 clear o1 X6
 clear t0 t1 v0 v1 m0 m1 s0 s1 s2 s3 s4 s5 s6 s7 r0 r1 r2 r3
 obtain ⟨t0, t1, v0, v1, m0, m1, s0, s1, s2, s3, s4, s5, s6, s7, r0, r1, r2, r3⟩ := GC.out _ X7.out
 go_wp2_with fail
 go_ret2
 exact ⟨_, rfl, HZ.out, HB0.out.2.also X7.out⟩
end Go.Proofs.YtkflicifngohcaaGreatDoor
