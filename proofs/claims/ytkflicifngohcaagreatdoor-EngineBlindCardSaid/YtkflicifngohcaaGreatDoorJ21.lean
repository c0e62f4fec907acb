/-
  dragnetref14.Check and Of at the rules of the example.
-/
import Derived.Test.YtkflicifngohcaaGreatDoorJ20
namespace Go.Proofs.YtkflicifngohcaaGreatDoor
open Go.RowKit
set_option linter.unusedVariables false
set_option linter.unusedSimpArgs false
set_option maxRecDepth 100000
def pa_a : List Value := [.bool false, .int .u64 0, .int .u64 8589934592, .int .u64 0, .int .u64 0, .int .i64 0, .int .i64 0, .bool false, .int .u64 0, .int .u64 17179869184, .int .u64 0, .int .u64 0, .int .i64 0, .int .i64 0]
set_option maxHeartbeats 2000000 in
theorem co_pcheck_a (w : World) (v : Value) (hv : Rd w (fun _ => True) 7 v 2 pa_a) : Calls Tryz.prog 124 #[v] w (RetV w (.tuple #[.int .i64 0, .int .i64 0])) := by
  obtain ⟨b, o, c, rfl, hc⟩ := hv.cellsT (by decide)
  have GC : Hid (∀ W, Off Nob w W → W.cell? ⟨b, o, none⟩ = some (.bool false) ∧ W.cell? ⟨b, o + 1, none⟩ = some (.int .u64 0) ∧ W.cell? ⟨b, o + 2, none⟩ = some (.int .u64 8589934592) ∧ W.cell? ⟨b, o + 3, none⟩ = some (.int .u64 0) ∧ W.cell? ⟨b, o + 4, none⟩ = some (.int .u64 0) ∧ W.cell? ⟨b, o + 5, none⟩ = some (.int .i64 0) ∧ W.cell? ⟨b, o + 6, none⟩ = some (.int .i64 0) ∧ W.cell? ⟨b, o + 7, none⟩ = some (.bool false) ∧ W.cell? ⟨b, o + 8, none⟩ = some (.int .u64 0) ∧ W.cell? ⟨b, o + 9, none⟩ = some (.int .u64 17179869184) ∧ W.cell? ⟨b, o + 10, none⟩ = some (.int .u64 0) ∧ W.cell? ⟨b, o + 11, none⟩ = some (.int .u64 0) ∧ W.cell? ⟨b, o + 12, none⟩ = some (.int .i64 0) ∧ W.cell? ⟨b, o + 13, none⟩ = some (.int .i64 0)) := Lib.hid (fun W ho => ⟨hc W ho 0 _ rfl, hc W ho 1 _ rfl, hc W ho 2 _ rfl, hc W ho 3 _ rfl, hc W ho 4 _ rfl, hc W ho 5 _ rfl, hc W ho 6 _ rfl, hc W ho 7 _ rfl, hc W ho 8 _ rfl, hc W ho 9 _ rfl, hc W ho 10 _ rfl, hc W ho 11 _ rfl, hc W ho 12 _ rfl, hc W ho 13 _ rfl⟩)
  clear hc hv
  go_enter Tryz.func124, Tryz.ntmps124
  have X0 : Hid (Off Nob w w) := Lib.hid (Off.refl _ _)
  obtain ⟨c0, c1, c2, c3, c4, c5, c6, c7, c8, c9, c10, c11, c12, c13⟩ := GC.out _ X0.out
  go_wp2_with fail
  refine wp_loop_rounds 3 ?_
  rw [rounds_succ]
  clear c0 c1 c2 c3 c4 c5 c6 c7 c8 c9 c10 c11 c12 c13
  obtain ⟨c0, c1, c2, c3, c4, c5, c6, c7, c8, c9, c10, c11, c12, c13⟩ := GC.out _ X0.out
  go_wp2_with fail
  have X1 := Lib.hid (X0.out.alloc (.cells #[.bool false, .int .u64 0, .int .u64 8589934592, .int .u64 0, .int .u64 0, .int .i64 0, .int .i64 0] 197))
  clear X0
  clear c0 c1 c2 c3 c4 c5 c6 c7 c8 c9 c10 c11 c12 c13
  generalize w.alloc (.cells #[.bool false, .int .u64 0, .int .u64 8589934592, .int .u64 0, .int .u64 0, .int .i64 0, .int .i64 0] 197) = w1 at *
  rw [rounds_succ]
  obtain ⟨c0, c1, c2, c3, c4, c5, c6, c7, c8, c9, c10, c11, c12, c13⟩ := GC.out _ X1.out
  go_wp2_with fail
  have X2 := Lib.hid (X1.out.alloc (.cells #[.bool false, .int .u64 0, .int .u64 17179869184, .int .u64 0, .int .u64 0, .int .i64 0, .int .i64 0] 197))
  clear X1
  clear c0 c1 c2 c3 c4 c5 c6 c7 c8 c9 c10 c11 c12 c13
  generalize w1.alloc (.cells #[.bool false, .int .u64 0, .int .u64 17179869184, .int .u64 0, .int .u64 0, .int .i64 0, .int .i64 0] 197) = w2 at *
  rw [rounds_succ]
  obtain ⟨c0, c1, c2, c3, c4, c5, c6, c7, c8, c9, c10, c11, c12, c13⟩ := GC.out _ X2.out
  go_wp2_with fail
  go_ret2
  exact ⟨rfl, X2.out⟩
def pa_b : List Value := [.bool false, .int .u64 0, .int .u64 25769803776, .int .u64 0, .int .u64 0, .int .i64 0, .int .i64 0]
set_option maxHeartbeats 2000000 in
theorem co_pcheck_b (w : World) (v : Value) (hv : Rd w (fun _ => True) 7 v 1 pa_b) : Calls Tryz.prog 124 #[v] w (RetV w (.tuple #[.int .i64 0, .int .i64 0])) := by
  obtain ⟨b, o, c, rfl, hc⟩ := hv.cellsT (by decide)
  have GC : Hid (∀ W, Off Nob w W → W.cell? ⟨b, o, none⟩ = some (.bool false) ∧ W.cell? ⟨b, o + 1, none⟩ = some (.int .u64 0) ∧ W.cell? ⟨b, o + 2, none⟩ = some (.int .u64 25769803776) ∧ W.cell? ⟨b, o + 3, none⟩ = some (.int .u64 0) ∧ W.cell? ⟨b, o + 4, none⟩ = some (.int .u64 0) ∧ W.cell? ⟨b, o + 5, none⟩ = some (.int .i64 0) ∧ W.cell? ⟨b, o + 6, none⟩ = some (.int .i64 0)) := Lib.hid (fun W ho => ⟨hc W ho 0 _ rfl, hc W ho 1 _ rfl, hc W ho 2 _ rfl, hc W ho 3 _ rfl, hc W ho 4 _ rfl, hc W ho 5 _ rfl, hc W ho 6 _ rfl⟩)
  clear hc hv
  go_enter Tryz.func124, Tryz.ntmps124
  have X0 : Hid (Off Nob w w) := Lib.hid (Off.refl _ _)
  obtain ⟨c0, c1, c2, c3, c4, c5, c6⟩ := GC.out _ X0.out
  go_wp2_with fail
  refine wp_loop_rounds 2 ?_
  rw [rounds_succ]
  clear c0 c1 c2 c3 c4 c5 c6
  obtain ⟨c0, c1, c2, c3, c4, c5, c6⟩ := GC.out _ X0.out
  go_wp2_with fail
  have X1 := Lib.hid (X0.out.alloc (.cells #[.bool false, .int .u64 0, .int .u64 25769803776, .int .u64 0, .int .u64 0, .int .i64 0, .int .i64 0] 197))
  clear X0
  clear c0 c1 c2 c3 c4 c5 c6
  generalize w.alloc (.cells #[.bool false, .int .u64 0, .int .u64 25769803776, .int .u64 0, .int .u64 0, .int .i64 0, .int .i64 0] 197) = w1 at *
  rw [rounds_succ]
  obtain ⟨c0, c1, c2, c3, c4, c5, c6⟩ := GC.out _ X1.out
  go_wp2_with fail
  go_ret2
  exact ⟨rfl, X1.out⟩
theorem Tryz.infoPa : (Tryz.prog.info? 197).map (fun i => (i.zero, i.size, i.bytes)) = some (some (.agg #[.bool false, .int .u64 0, .int .u64 0, .int .u64 0, .int .u64 0, .int .i64 0, .int .i64 0]), 7, 56) := by kernel_rfl
set_option maxHeartbeats 8000000 in
theorem co_pof_a (w : World) (v : Value) (hv : Rd w (fun _ => True) 8 v 1 el_a) : Calls Tryz.prog 82 #[.agg #[.int .i64 5, v]] w (fun e w' => ∃ u, e = .returned (.tuple #[u, .int .i64 0]) ∧ Rd w' (fun k => w.heap.size ≤ k) 7 u 2 pa_a ∧ Off Nob w w') := by
  obtain ⟨i0, hi, hz0, hz1, hz2⟩ := info_parts Tryz.infoPa
  have hx0 : (⟨#[97, 98]⟩ : ByteArray)[0]'(by decide) = 97 := rfl
  have hx1 : (⟨#[97, 98]⟩ : ByteArray)[1]'(by decide) = 98 := rfl
  obtain ⟨b, o, c, rfl, hc⟩ := hv.cellsT (by decide)
  have HC := Lib.hid hc
  clear hc hv
  go_enter Tryz.func82, Tryz.ntmps82
  go_wp2_with fail
  have HB0 : Hid (Blk (w.alloc (.cells #[.int .i64 5, .slice (some ⟨b, o, none⟩) 1 c] 143)) w.heap.size 143 #[.int .i64 5, .slice (some ⟨b, o, none⟩) 1 c] ∧ Off Nob w (w.alloc (.cells #[.int .i64 5, .slice (some ⟨b, o, none⟩) 1 c] 143))) := Lib.hid ⟨Blk.new _ _ _, Off.alloc (Off.refl _ _) _⟩
  revert HB0
  generalize (w.alloc (.cells #[.int .i64 5, .slice (some ⟨b, o, none⟩) 1 c] 143)) = w0
  intro HB0
  refine wp_loop_rounds 2 ?_
  rw [rounds_succ]
  have t0 := HB0.out.1.cell 0
  have t1 := HB0.out.1.cell 1
  simp only [List.getElem?_toArray, List.getElem?_cons_succ, List.getElem?_cons_zero] at t0 t1
  have c0 := HC.out _ HB0.out.2 0 _ rfl
  have c1 := HC.out _ HB0.out.2 1 _ rfl
  have c2 := HC.out _ HB0.out.2 2 _ rfl
  have c3 := HC.out _ HB0.out.2 3 _ rfl
  have c4 := HC.out _ HB0.out.2 4 _ rfl
  have c5 := HC.out _ HB0.out.2 5 _ rfl
  have c6 := HC.out _ HB0.out.2 6 _ rfl
  have c7 := HC.out _ HB0.out.2 7 _ rfl
  simp only [Nat.add_zero] at c0
  go_wp2_with fail
  have GC : Hid (∀ W, Off Nob (w0.alloc (.cells #[.int .i64 1, .string ⟨#[97, 98]⟩, .int .u64 0, .int .u64 0, .int .u64 0, .int .u64 0, .int .i64 0, .int .i64 0] 148)) W → W.cell? ⟨w.heap.size, 0, none⟩ = some (.int .i64 5) ∧ W.cell? ⟨w.heap.size, 1, none⟩ = some (.slice (some ⟨b, o, none⟩) 1 c) ∧ W.cell? ⟨w0.heap.size, 0, none⟩ = some (.int .i64 1) ∧ W.cell? ⟨w0.heap.size, 1, none⟩ = some (.string ⟨#[97, 98]⟩)) := Lib.hid (fun W ho => by
    have h := (HB0.out.1.alloc (.cells #[.int .i64 1, .string ⟨#[97, 98]⟩, .int .u64 0, .int .u64 0, .int .u64 0, .int .u64 0, .int .i64 0, .int .i64 0] 148)).to (ho.block _ (HB0.out.1.alloc _).lt (fun h => h))
    have k := Blk.to (Blk.new w0 148 #[.int .i64 1, .string ⟨#[97, 98]⟩, .int .u64 0, .int .u64 0, .int .u64 0, .int .u64 0, .int .i64 0, .int .i64 0]) (ho.block _ (Blk.new w0 148 #[.int .i64 1, .string ⟨#[97, 98]⟩, .int .u64 0, .int .u64 0, .int .u64 0, .int .u64 0, .int .i64 0, .int .i64 0]).lt (fun h => h))
    exact ⟨h.cell 0, h.cell 1, k.cell 0, k.cell 1⟩)
  have Y1 : Hid (Off Nob w (w0.alloc (.cells #[.int .i64 1, .string ⟨#[97, 98]⟩, .int .u64 0, .int .u64 0, .int .u64 0, .int .u64 0, .int .i64 0, .int .i64 0] 148))) := Lib.hid (HB0.out.2.alloc _)
  clear t0 t1 c0 c1 c2 c3 c4 c5 c6 c7
  revert GC Y1
  generalize (w0.alloc (.cells #[.int .i64 1, .string ⟨#[97, 98]⟩, .int .u64 0, .int .u64 0, .int .u64 0, .int .u64 0, .int .i64 0, .int .i64 0] 148)) = w1
  intro GC Y1
  have X1 : Hid (Off Nob w1 w1) := Lib.hid (Off.refl _ _)
  refine wp_loop_rounds 3 ?_
  rw [rounds_succ]
  obtain ⟨t0, t1, x0, x1⟩ := GC.out _ X1.out
  go_wp2_with fail
  refine (co_of_a _ _ (Rd.newT w1 5 [.int .u8 97] 1 1 rfl (by decide))).mono ?_
  rintro e w2 ⟨rfl, o1⟩
  have X2 := Lib.hid ((X1.out.alloc (.cells #[.int .u8 97] 5)).also o1)
  have OW2 := Lib.hid (OwnL.nilAt (Y1.out.also X2.out) 197 7)
  clear o1 X1 t0 t1 x0 x1
  obtain ⟨t0, t1, x0, x1⟩ := GC.out _ (X2.out.alloc (.cells #[.int .u64 0, .int .u64 8589934592, .int .u64 0, .int .u64 0] 146))
  go_wp2_with (at_builtin; refine @wpList_append_lies _ _ _ _ _ _ _ rfl _ _ 138 rfl w.heap.size 197 i0 (.agg #[.bool false, .int .u64 0, .int .u64 0, .int .u64 0, .int .u64 0, .int .i64 0, .int .i64 0]) 7 56 Tryz.underlying138 hi hz0 hz1 hz2 rfl (by decide) (.slice none 0 0) 0 [] rfl ((OW2.out.off (Off.alloc (Off.refl Nob w2) (.cells #[.int .u64 0, .int .u64 8589934592, .int .u64 0, .int .u64 0] 146))).1.alloc _) ⟨w2.heap.size + 1, 0, none⟩ 1 1 [.bool false, .int .u64 0, .int .u64 8589934592, .int .u64 0, .int .u64 0, .int .i64 0, .int .i64 0] rfl rfl ?c1 (by decide) (by decide) (by decide) (by decide) (by have := OW2.out.2.size; simp; omega) _ rfl ?_)
  case c1 =>
    intro j u hj
    have := cell_lit (w2.alloc (.cells #[.int .u64 0, .int .u64 8589934592, .int .u64 0, .int .u64 0] 146)) [.bool false, .int .u64 0, .int .u64 8589934592, .int .u64 0, .int .u64 0, .int .i64 0, .int .i64 0] 197 j u hj
    simpa using this
  intro g1 cap1 w3 hown hgrow hat hlt
  have OW3 := Lib.hid ((OW2.out.off (Off.alloc (Off.refl Nob w2) (.cells #[.int .u64 0, .int .u64 8589934592, .int .u64 0, .int .u64 0] 146))).grown (Off.alloc (Off.refl _ _) (.cells #[.bool false, .int .u64 0, .int .u64 8589934592, .int .u64 0, .int .u64 0, .int .i64 0, .int .i64 0] 197)) hown hgrow)
  have X3 : Hid (Off Nob w1 w3) := Lib.hid ((X2.out.alloc (.cells #[.int .u64 0, .int .u64 8589934592, .int .u64 0, .int .u64 0] 146)).alloc (.cells #[.bool false, .int .u64 0, .int .u64 8589934592, .int .u64 0, .int .u64 0, .int .i64 0, .int .i64 0] 197) |>.grown hgrow (fun k hk => by cases hk))
  have KG : Hid (w1.heap.size ≤ g1) := Lib.hid (by
    rcases hat with h | h
    · cases h
    · have := X2.out.size
      rw [h]; simp; omega)
  clear hown hgrow hat hlt X2 OW2 t0 t1 x0 x1
  obtain ⟨t0, t1, x0, x1⟩ := GC.out _ X3.out
  go_wp2_with fail
  rw [rounds_succ]
  go_wp2_with fail
  refine (co_of_b _ _ (Rd.newT w3 5 [.int .u8 98] 1 1 rfl (by decide))).mono ?_
  rintro e w4 ⟨rfl, o1⟩
  have X4 := Lib.hid ((X3.out.alloc (.cells #[.int .u8 98] 5)).also o1)
  have OW4 := Lib.hid ((OW3.out.off (Off.alloc (Off.refl Nob w3) (.cells #[.int .u8 98] 5))).off o1)
  clear o1 X3 OW3 t0 t1 x0 x1
  obtain ⟨t0, t1, x0, x1⟩ := GC.out _ (X4.out.alloc (.cells #[.int .u64 0, .int .u64 17179869184, .int .u64 0, .int .u64 0] 146))
  go_wp2_with (at_builtin; refine @wpList_append_lies _ _ _ _ _ _ _ rfl _ _ 138 rfl w.heap.size 197 i0 (.agg #[.bool false, .int .u64 0, .int .u64 0, .int .u64 0, .int .u64 0, .int .i64 0, .int .i64 0]) 7 56 Tryz.underlying138 hi hz0 hz1 hz2 rfl (by decide) (.slice (some ⟨g1, 0, none⟩) (0 + 1) cap1) (0 + 1) ([] ++ [.bool false, .int .u64 0, .int .u64 8589934592, .int .u64 0, .int .u64 0, .int .i64 0, .int .i64 0]) rfl ((OW4.out.off (Off.alloc (Off.refl Nob w4) (.cells #[.int .u64 0, .int .u64 17179869184, .int .u64 0, .int .u64 0] 146))).1.alloc _) ⟨w4.heap.size + 1, 0, none⟩ 1 1 [.bool false, .int .u64 0, .int .u64 17179869184, .int .u64 0, .int .u64 0, .int .i64 0, .int .i64 0] rfl rfl ?c1 (by decide) (by decide) (by decide) (by decide) (by have := OW4.out.2.size; simp; omega) _ rfl ?_)
  case c1 =>
    intro j u hj
    have := cell_lit (w4.alloc (.cells #[.int .u64 0, .int .u64 17179869184, .int .u64 0, .int .u64 0] 146)) [.bool false, .int .u64 0, .int .u64 17179869184, .int .u64 0, .int .u64 0, .int .i64 0, .int .i64 0] 197 j u hj
    simpa using this
  intro g2 cap2 w5 hown hgrow hat hlt
  have OW5 := Lib.hid ((OW4.out.off (Off.alloc (Off.refl Nob w4) (.cells #[.int .u64 0, .int .u64 17179869184, .int .u64 0, .int .u64 0] 146))).grown (Off.alloc (Off.refl _ _) (.cells #[.bool false, .int .u64 0, .int .u64 17179869184, .int .u64 0, .int .u64 0, .int .i64 0, .int .i64 0] 197)) hown hgrow)
  have X5 : Hid (Off Nob w1 w5) := Lib.hid ((X4.out.alloc (.cells #[.int .u64 0, .int .u64 17179869184, .int .u64 0, .int .u64 0] 146)).alloc (.cells #[.bool false, .int .u64 0, .int .u64 17179869184, .int .u64 0, .int .u64 0, .int .i64 0, .int .i64 0] 197) |>.grown hgrow (fun k hk => .inr (by injection hk with hk; rw [← hk]; exact KG.out)))
  clear hown hgrow hat hlt X4 OW4 t0 t1 x0 x1
  obtain ⟨t0, t1, x0, x1⟩ := GC.out _ X5.out
  go_wp2_with fail
  rw [rounds_succ]
  go_wp2_with fail
  rw [rounds_succ]
  go_wp2_with fail
  refine (co_pcheck_a _ _ (show Rd w5 (fun _ => True) 7 _ 2 pa_a from OW5.out.rd)).mono ?_
  rintro e w6 ⟨rfl, o1⟩
  have OW6 := Lib.hid (OW5.out.off o1)
  clear o1
  go_wp2_with fail
  go_ret2
  exact ⟨_, rfl, Rd.own OW6.out.1 (fun k hk => (OW6.out.1.lt k hk).1), OW6.out.2⟩
set_option maxHeartbeats 8000000 in
theorem co_pof_b (w : World) (v : Value) (hv : Rd w (fun _ => True) 8 v 1 el_b) : Calls Tryz.prog 82 #[.agg #[.int .i64 9, v]] w (fun e w' => ∃ u, e = .returned (.tuple #[u, .int .i64 0]) ∧ Rd w' (fun k => w.heap.size ≤ k) 7 u 1 pa_b ∧ Off Nob w w') := by
  obtain ⟨i0, hi, hz0, hz1, hz2⟩ := info_parts Tryz.infoPa
  have hx0 : (⟨#[97, 98]⟩ : ByteArray)[0]'(by decide) = 97 := rfl
  have hx1 : (⟨#[97, 98]⟩ : ByteArray)[1]'(by decide) = 98 := rfl
  obtain ⟨b, o, c, rfl, hc⟩ := hv.cellsT (by decide)
  have HC := Lib.hid hc
  clear hc hv
  go_enter Tryz.func82, Tryz.ntmps82
  go_wp2_with fail
  have HB0 : Hid (Blk (w.alloc (.cells #[.int .i64 9, .slice (some ⟨b, o, none⟩) 1 c] 143)) w.heap.size 143 #[.int .i64 9, .slice (some ⟨b, o, none⟩) 1 c] ∧ Off Nob w (w.alloc (.cells #[.int .i64 9, .slice (some ⟨b, o, none⟩) 1 c] 143))) := Lib.hid ⟨Blk.new _ _ _, Off.alloc (Off.refl _ _) _⟩
  revert HB0
  generalize (w.alloc (.cells #[.int .i64 9, .slice (some ⟨b, o, none⟩) 1 c] 143)) = w0
  intro HB0
  refine wp_loop_rounds 2 ?_
  rw [rounds_succ]
  have t0 := HB0.out.1.cell 0
  have t1 := HB0.out.1.cell 1
  simp only [List.getElem?_toArray, List.getElem?_cons_succ, List.getElem?_cons_zero] at t0 t1
  have c0 := HC.out _ HB0.out.2 0 _ rfl
  have c1 := HC.out _ HB0.out.2 1 _ rfl
  have c2 := HC.out _ HB0.out.2 2 _ rfl
  have c3 := HC.out _ HB0.out.2 3 _ rfl
  have c4 := HC.out _ HB0.out.2 4 _ rfl
  have c5 := HC.out _ HB0.out.2 5 _ rfl
  have c6 := HC.out _ HB0.out.2 6 _ rfl
  have c7 := HC.out _ HB0.out.2 7 _ rfl
  simp only [Nat.add_zero] at c0
  go_wp2_with (at_builtin; refine @wpList_append_lies _ _ _ _ _ _ _ rfl _ _ 138 rfl w.heap.size 197 i0 (.agg #[.bool false, .int .u64 0, .int .u64 0, .int .u64 0, .int .u64 0, .int .i64 0, .int .i64 0]) 7 56 Tryz.underlying138 hi hz0 hz1 hz2 rfl (by decide) (.slice none 0 0) 0 [] rfl (((OwnL.nilAt HB0.out.2 197 7).off (Off.alloc (Off.refl Nob w0) (.cells #[.int .i64 3, .string ⟨#[]⟩, .int .u64 0, .int .u64 25769803776, .int .u64 0, .int .u64 0, .int .i64 0, .int .i64 0] 148))).1.alloc _) ⟨w0.heap.size + 1, 0, none⟩ 1 1 [.bool false, .int .u64 0, .int .u64 25769803776, .int .u64 0, .int .u64 0, .int .i64 0, .int .i64 0] rfl rfl ?c1 (by decide) (by decide) (by decide) (by decide) (by have := (OwnL.nilAt HB0.out.2 197 7).2.size; simp; omega) _ rfl ?_)
  case c1 =>
    intro j u hj
    have := cell_lit (w0.alloc (.cells #[.int .i64 3, .string ⟨#[]⟩, .int .u64 0, .int .u64 25769803776, .int .u64 0, .int .u64 0, .int .i64 0, .int .i64 0] 148)) [.bool false, .int .u64 0, .int .u64 25769803776, .int .u64 0, .int .u64 0, .int .i64 0, .int .i64 0] 197 j u hj
    simpa using this
  intro g1 cap1 w3 hown hgrow hat hlt
  have OW3 := Lib.hid (((OwnL.nilAt HB0.out.2 197 7).off (Off.alloc (Off.refl Nob w0) (.cells #[.int .i64 3, .string ⟨#[]⟩, .int .u64 0, .int .u64 25769803776, .int .u64 0, .int .u64 0, .int .i64 0, .int .i64 0] 148))).grown (Off.alloc (Off.refl _ _) (.cells #[.bool false, .int .u64 0, .int .u64 25769803776, .int .u64 0, .int .u64 0, .int .i64 0, .int .i64 0] 197)) hown hgrow)
  have X3 : Hid (Off Nob w0 w3) := Lib.hid (Off.grown (Off.alloc (Off.alloc (Off.refl _ _) _) _) hgrow (fun k hk => by cases hk))
  have HB3 := Lib.hid (HB0.out.1.to (X3.out.block _ HB0.out.1.lt (fun h => h)))
  clear hown hgrow hat hlt t0 t1 c0 c1 c2 c3 c4 c5 c6 c7
  have t0 := HB3.out.cell 0
  have t1 := HB3.out.cell 1
  simp only [List.getElem?_toArray, List.getElem?_cons_succ, List.getElem?_cons_zero] at t0 t1
  go_wp2_with fail
  rw [rounds_succ]
  go_wp2_with fail
  refine (co_pcheck_b _ _ (show Rd w3 (fun _ => True) 7 _ 1 pa_b from OW3.out.rd)).mono ?_
  rintro e w6 ⟨rfl, o1⟩
  have OW6 := Lib.hid (OW3.out.off o1)
  clear o1
  go_wp2_with fail
  go_ret2
  exact ⟨_, rfl, Rd.own OW6.out.1 (fun k hk => (OW6.out.1.lt k hk).1), OW6.out.2⟩
end Go.Proofs.YtkflicifngohcaaGreatDoor
