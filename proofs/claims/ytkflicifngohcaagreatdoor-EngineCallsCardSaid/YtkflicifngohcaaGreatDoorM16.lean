/-
 dragnetref12.number, wrong and one at the rules of the example.
-/
import Derived.Test.YtkflicifngohcaaGreatDoorM11
set_option linter.unusedVariables false
set_option linter.unusedSimpArgs false
namespace Go.Proofs.YtkflicifngohcaaGreatDoor
open Go.RowKit
set_option maxRecDepth 100000
theorem co_number (n : Nat) (h : n ≤ 999999999) (w : World) : Calls Tryz.prog 157 #[.int .i64 (n : Int)] w (RetV w (.bool true)) := by
 have h0 : decide ((n : Int) ≤ 999999999) = true := decide_eq_true (by omega)
 go_enter Tryz.func157, Tryz.ntmps157
 go_wp2_with fail
 go_ret
 exact ⟨rfl, Off.refl _ _⟩
theorem co_number0 (w : World) : Calls Tryz.prog 157 #[.int .i64 0] w (RetV w (.bool true)) := co_number 0 (by decide) w
theorem co_number5 (w : World) : Calls Tryz.prog 157 #[.int .i64 5] w (RetV w (.bool true)) := co_number 5 (by decide) w
theorem co_number9 (w : World) : Calls Tryz.prog 157 #[.int .i64 9] w (RetV w (.bool true)) := co_number 9 (by decide) w
set_option maxHeartbeats 2000000 in
theorem co_wrong_a (w : World) : Calls Tryz.prog 158 #[.agg #[.int .i64 1, .string ⟨#[97, 98]⟩, .int .u64 0, .int .u64 0, .int .u64 0, .int .u64 0, .int .i64 0, .int .i64 0]] w (RetV w (.int .i64 0)) := by
 have hq : ∀ w : World, (binOp .neq 146 (.agg #[.int .u64 0, .int .u64 0, .int .u64 0, .int .u64 0]) (.agg #[.int .u64 0, .int .u64 0, .int .u64 0, .int .u64 0])).run Tryz.prog w = .ok (.bool false) w := fun _ => by kernel_rfl
 go_enter Tryz.func158, Tryz.ntmps158
 go_wp2_with fail
 have HB0 : Hid (Blk (w.alloc (.cells #[.int .i64 1, .string ⟨#[97, 98]⟩, .int .u64 0, .int .u64 0, .int .u64 0, .int .u64 0, .int .i64 0, .int .i64 0] 148)) w.heap.size 148 #[.int .i64 1, .string ⟨#[97, 98]⟩, .int .u64 0, .int .u64 0, .int .u64 0, .int .u64 0, .int .i64 0, .int .i64 0] ∧ Off Nob w (w.alloc (.cells #[.int .i64 1, .string ⟨#[97, 98]⟩, .int .u64 0, .int .u64 0, .int .u64 0, .int .u64 0, .int .i64 0, .int .i64 0] 148))) := hID ⟨Blk.new _ _ _, Off.alloc (Off.refl _ _) _⟩
 revert HB0
 generalize w.alloc (.cells #[.int .i64 1, .string ⟨#[97, 98]⟩, .int .u64 0, .int .u64 0, .int .u64 0, .int .u64 0, .int .i64 0, .int .i64 0] 148) = w0
 intro HB0
 have GC : Hid (∀ W, Off Nob w0 W → W.cell? ⟨w.heap.size, 0, none⟩ = some (.int .i64 1) ∧ W.cell? ⟨w.heap.size, 1, none⟩ = some (.string ⟨#[97, 98]⟩) ∧ W.cell? ⟨w.heap.size, 2, none⟩ = some (.int .u64 0) ∧ W.cell? ⟨w.heap.size, 3, none⟩ = some (.int .u64 0) ∧ W.cell? ⟨w.heap.size, 4, none⟩ = some (.int .u64 0) ∧ W.cell? ⟨w.heap.size, 5, none⟩ = some (.int .u64 0) ∧ W.cell? ⟨w.heap.size, 6, none⟩ = some (.int .i64 0) ∧ W.cell? ⟨w.heap.size, 7, none⟩ = some (.int .i64 0)) := hID (fun W ho => by
  have h := HB0.out.1.to (ho.block _ HB0.out.1.lt (fun h => h))
  exact ⟨h.cell 0, h.cell 1, h.cell 2, h.cell 3, h.cell 4, h.cell 5, h.cell 6, h.cell 7⟩)
 have X0 : Hid (Off Nob w0 w0) := hID (Off.refl _ _)
 obtain ⟨c0, c1, c2, c3, c4, c5, c6, c7⟩ := GC.out _ X0.out
 go_wp2_with fail
 refine (co_number0 _).mono ?_
 rintro e w1 ⟨rfl, o1⟩
 have X1 := hID (X0.out.also o1)
 clear o1 X0
 clear c0 c1 c2 c3 c4 c5 c6 c7
 obtain ⟨c0, c1, c2, c3, c4, c5, c6, c7⟩ := GC.out _ X1.out
 go_wp2_with fail
 refine (co_number0 _).mono ?_
 rintro e w2 ⟨rfl, o1⟩
 have X2 := hID (X1.out.also o1)
 clear o1 X1
 clear c0 c1 c2 c3 c4 c5 c6 c7
 obtain ⟨c0, c1, c2, c3, c4, c5, c6, c7⟩ := GC.out _ X2.out
 go_wp2_with fail
 go_ret
 exact ⟨rfl, HB0.out.2.also X2.out⟩
set_option maxHeartbeats 2000000 in
theorem co_wrong_b (w : World) : Calls Tryz.prog 158 #[.agg #[.int .i64 3, .string ⟨#[]⟩, .int .u64 0, .int .u64 25769803776, .int .u64 0, .int .u64 0, .int .i64 0, .int .i64 0]] w (RetV w (.int .i64 0)) := by
 have hq : ∀ w : World, (binOp .neq 146 (.agg #[.int .u64 0, .int .u64 0, .int .u64 0, .int .u64 0]) (.agg #[.int .u64 0, .int .u64 0, .int .u64 0, .int .u64 0])).run Tryz.prog w = .ok (.bool false) w := fun _ => by kernel_rfl
 go_enter Tryz.func158, Tryz.ntmps158
 go_wp2_with fail
 have HB0 : Hid (Blk (w.alloc (.cells #[.int .i64 3, .string ⟨#[]⟩, .int .u64 0, .int .u64 25769803776, .int .u64 0, .int .u64 0, .int .i64 0, .int .i64 0] 148)) w.heap.size 148 #[.int .i64 3, .string ⟨#[]⟩, .int .u64 0, .int .u64 25769803776, .int .u64 0, .int .u64 0, .int .i64 0, .int .i64 0] ∧ Off Nob w (w.alloc (.cells #[.int .i64 3, .string ⟨#[]⟩, .int .u64 0, .int .u64 25769803776, .int .u64 0, .int .u64 0, .int .i64 0, .int .i64 0] 148))) := hID ⟨Blk.new _ _ _, Off.alloc (Off.refl _ _) _⟩
 revert HB0
 generalize w.alloc (.cells #[.int .i64 3, .string ⟨#[]⟩, .int .u64 0, .int .u64 25769803776, .int .u64 0, .int .u64 0, .int .i64 0, .int .i64 0] 148) = w0
 intro HB0
 have GC : Hid (∀ W, Off Nob w0 W → W.cell? ⟨w.heap.size, 0, none⟩ = some (.int .i64 3) ∧ W.cell? ⟨w.heap.size, 1, none⟩ = some (.string ⟨#[]⟩) ∧ W.cell? ⟨w.heap.size, 2, none⟩ = some (.int .u64 0) ∧ W.cell? ⟨w.heap.size, 3, none⟩ = some (.int .u64 25769803776) ∧ W.cell? ⟨w.heap.size, 4, none⟩ = some (.int .u64 0) ∧ W.cell? ⟨w.heap.size, 5, none⟩ = some (.int .u64 0) ∧ W.cell? ⟨w.heap.size, 6, none⟩ = some (.int .i64 0) ∧ W.cell? ⟨w.heap.size, 7, none⟩ = some (.int .i64 0)) := hID (fun W ho => by
  have h := HB0.out.1.to (ho.block _ HB0.out.1.lt (fun h => h))
  exact ⟨h.cell 0, h.cell 1, h.cell 2, h.cell 3, h.cell 4, h.cell 5, h.cell 6, h.cell 7⟩)
 have X0 : Hid (Off Nob w0 w0) := hID (Off.refl _ _)
 obtain ⟨c0, c1, c2, c3, c4, c5, c6, c7⟩ := GC.out _ X0.out
 go_wp2_with fail
 refine (co_number0 _).mono ?_
 rintro e w1 ⟨rfl, o1⟩
 have X1 := hID (X0.out.also o1)
 clear o1 X0
 clear c0 c1 c2 c3 c4 c5 c6 c7
 obtain ⟨c0, c1, c2, c3, c4, c5, c6, c7⟩ := GC.out _ X1.out
 go_wp2_with fail
 refine (co_number0 _).mono ?_
 rintro e w2 ⟨rfl, o1⟩
 have X2 := hID (X1.out.also o1)
 clear o1 X1
 clear c0 c1 c2 c3 c4 c5 c6 c7
 obtain ⟨c0, c1, c2, c3, c4, c5, c6, c7⟩ := GC.out _ X2.out
 go_wp2_with fail
 go_ret
 exact ⟨rfl, HB0.out.2.also X2.out⟩
set_option maxHeartbeats 4000000 in
theorem co_one_a (w : World) (v : Value) (hv : Rd w (fun _ => True) 8 v 1 el_a) : Calls Tryz.prog 143 #[.agg #[.int .i64 5, v]] w (RetV w (.tuple #[.int .i64 0, .int .i64 0])) := by
 have HV0 := hID hv
 obtain ⟨b, o, c, rfl, hc⟩ := hv.cellsT (by decide)
 have HV := HV0
 have HC := hID hc
 clear hc hv HV0
 go_enter Tryz.func143, Tryz.ntmps143
 go_wp2_with fail
 have HB0 : Hid (Blk (w.alloc (.cells #[.int .i64 5, .slice (some ⟨b, o, none⟩) 1 c] 143)) w.heap.size 143 #[.int .i64 5, .slice (some ⟨b, o, none⟩) 1 c] ∧ Off Nob w (w.alloc (.cells #[.int .i64 5, .slice (some ⟨b, o, none⟩) 1 c] 143))) := hID ⟨Blk.new _ _ _, Off.alloc (Off.refl _ _) _⟩
 revert HB0
 generalize w.alloc (.cells #[.int .i64 5, .slice (some ⟨b, o, none⟩) 1 c] 143) = w0
 intro HB0
 have GC : Hid (∀ W, Off Nob w0 W → W.cell? ⟨w.heap.size, 0, none⟩ = some (.int .i64 5) ∧ W.cell? ⟨w.heap.size, 1, none⟩ = some (.slice (some ⟨b, o, none⟩) 1 c) ∧ W.cell? ⟨b, o, none⟩ = some (.int .i64 1) ∧ W.cell? ⟨b, o + 1, none⟩ = some (.string ⟨#[97, 98]⟩) ∧ W.cell? ⟨b, o + 2, none⟩ = some (.int .u64 0) ∧ W.cell? ⟨b, o + 3, none⟩ = some (.int .u64 0) ∧ W.cell? ⟨b, o + 4, none⟩ = some (.int .u64 0) ∧ W.cell? ⟨b, o + 5, none⟩ = some (.int .u64 0) ∧ W.cell? ⟨b, o + 6, none⟩ = some (.int .i64 0) ∧ W.cell? ⟨b, o + 7, none⟩ = some (.int .i64 0)) := hID (fun W ho => by
  have h := HB0.out.1.to (ho.block _ HB0.out.1.lt (fun h => h))
  have k := HC.out W (HB0.out.2.also ho)
  exact ⟨h.cell 0, h.cell 1, k 0 _ rfl, k 1 _ rfl, k 2 _ rfl, k 3 _ rfl, k 4 _ rfl, k 5 _ rfl, k 6 _ rfl, k 7 _ rfl⟩)
 have X0 : Hid (Off Nob w0 w0) := hID (Off.refl _ _)
 obtain ⟨t0, t1, c0, c1, c2, c3, c4, c5, c6, c7⟩ := GC.out _ X0.out
 go_wp2_with fail
 refine (co_number5 _).mono ?_
 rintro e w1 ⟨rfl, o1⟩
 have X1 := hID (X0.out.also o1)
 clear o1 X0
 clear t0 t1 c0 c1 c2 c3 c4 c5 c6 c7
 obtain ⟨t0, t1, c0, c1, c2, c3, c4, c5, c6, c7⟩ := GC.out _ X1.out
 go_wp2_with fail
 refine wp_loop_rounds 2 ?_
 rw [rounds_succ]
 clear t0 t1 c0 c1 c2 c3 c4 c5 c6 c7
 obtain ⟨t0, t1, c0, c1, c2, c3, c4, c5, c6, c7⟩ := GC.out _ X1.out
 go_wp2_with fail
 refine (co_wrong_a _).mono ?_
 rintro e w2 ⟨rfl, o1⟩
 have X2 := hID (X1.out.also o1)
 clear o1 X1
 clear t0 t1 c0 c1 c2 c3 c4 c5 c6 c7
 obtain ⟨t0, t1, c0, c1, c2, c3, c4, c5, c6, c7⟩ := GC.out _ X2.out
 go_wp2_with fail
 rw [rounds_succ]
 clear t0 t1 c0 c1 c2 c3 c4 c5 c6 c7
 obtain ⟨t0, t1, c0, c1, c2, c3, c4, c5, c6, c7⟩ := GC.out _ X2.out
 go_wp2_with fail
 refine (co_tokens_a _ _ (HV.out.keepT (HB0.out.2.also X2.out))).mono ?_
 rintro e w3 ⟨v1, rfl, hr, o1⟩
 have X3 := hID (X2.out.also o1)
 have HT := hID hr
 obtain ⟨AA, cc, rfl, _⟩ := hr.form
 clear hr
 clear o1 X2
 clear t0 t1 c0 c1 c2 c3 c4 c5 c6 c7
 obtain ⟨t0, t1, c0, c1, c2, c3, c4, c5, c6, c7⟩ := GC.out _ X3.out
 go_wp2_with fail
 refine (co_pr_a _ _ HT.out).mono ?_
 rintro e w4 ⟨rfl, o1⟩
 have X4 := hID (X3.out.also o1)
 clear HT
 clear o1 X3
 clear t0 t1 c0 c1 c2 c3 c4 c5 c6 c7
 obtain ⟨t0, t1, c0, c1, c2, c3, c4, c5, c6, c7⟩ := GC.out _ X4.out
 go_wp2_with fail
 go_ret2
 exact ⟨rfl, HB0.out.2.also X4.out⟩
set_option maxHeartbeats 4000000 in
theorem co_one_b (w : World) (v : Value) (hv : Rd w (fun _ => True) 8 v 1 el_b) : Calls Tryz.prog 143 #[.agg #[.int .i64 9, v]] w (RetV w (.tuple #[.int .i64 0, .int .i64 0])) := by
 have HV0 := hID hv
 obtain ⟨b, o, c, rfl, hc⟩ := hv.cellsT (by decide)
 have HV := HV0
 have HC := hID hc
 clear hc hv HV0
 go_enter Tryz.func143, Tryz.ntmps143
 go_wp2_with fail
 have HB0 : Hid (Blk (w.alloc (.cells #[.int .i64 9, .slice (some ⟨b, o, none⟩) 1 c] 143)) w.heap.size 143 #[.int .i64 9, .slice (some ⟨b, o, none⟩) 1 c] ∧ Off Nob w (w.alloc (.cells #[.int .i64 9, .slice (some ⟨b, o, none⟩) 1 c] 143))) := hID ⟨Blk.new _ _ _, Off.alloc (Off.refl _ _) _⟩
 revert HB0
 generalize w.alloc (.cells #[.int .i64 9, .slice (some ⟨b, o, none⟩) 1 c] 143) = w0
 intro HB0
 have GC : Hid (∀ W, Off Nob w0 W → W.cell? ⟨w.heap.size, 0, none⟩ = some (.int .i64 9) ∧ W.cell? ⟨w.heap.size, 1, none⟩ = some (.slice (some ⟨b, o, none⟩) 1 c) ∧ W.cell? ⟨b, o, none⟩ = some (.int .i64 3) ∧ W.cell? ⟨b, o + 1, none⟩ = some (.string ⟨#[]⟩) ∧ W.cell? ⟨b, o + 2, none⟩ = some (.int .u64 0) ∧ W.cell? ⟨b, o + 3, none⟩ = some (.int .u64 25769803776) ∧ W.cell? ⟨b, o + 4, none⟩ = some (.int .u64 0) ∧ W.cell? ⟨b, o + 5, none⟩ = some (.int .u64 0) ∧ W.cell? ⟨b, o + 6, none⟩ = some (.int .i64 0) ∧ W.cell? ⟨b, o + 7, none⟩ = some (.int .i64 0)) := hID (fun W ho => by
  have h := HB0.out.1.to (ho.block _ HB0.out.1.lt (fun h => h))
  have k := HC.out W (HB0.out.2.also ho)
  exact ⟨h.cell 0, h.cell 1, k 0 _ rfl, k 1 _ rfl, k 2 _ rfl, k 3 _ rfl, k 4 _ rfl, k 5 _ rfl, k 6 _ rfl, k 7 _ rfl⟩)
 have X0 : Hid (Off Nob w0 w0) := hID (Off.refl _ _)
 obtain ⟨t0, t1, c0, c1, c2, c3, c4, c5, c6, c7⟩ := GC.out _ X0.out
 go_wp2_with fail
 refine (co_number9 _).mono ?_
 rintro e w1 ⟨rfl, o1⟩
 have X1 := hID (X0.out.also o1)
 clear o1 X0
 clear t0 t1 c0 c1 c2 c3 c4 c5 c6 c7
 obtain ⟨t0, t1, c0, c1, c2, c3, c4, c5, c6, c7⟩ := GC.out _ X1.out
 go_wp2_with fail
 refine wp_loop_rounds 2 ?_
 rw [rounds_succ]
 clear t0 t1 c0 c1 c2 c3 c4 c5 c6 c7
 obtain ⟨t0, t1, c0, c1, c2, c3, c4, c5, c6, c7⟩ := GC.out _ X1.out
 go_wp2_with fail
 refine (co_wrong_b _).mono ?_
 rintro e w2 ⟨rfl, o1⟩
 have X2 := hID (X1.out.also o1)
 clear o1 X1
 clear t0 t1 c0 c1 c2 c3 c4 c5 c6 c7
 obtain ⟨t0, t1, c0, c1, c2, c3, c4, c5, c6, c7⟩ := GC.out _ X2.out
 go_wp2_with fail
 rw [rounds_succ]
 clear t0 t1 c0 c1 c2 c3 c4 c5 c6 c7
 obtain ⟨t0, t1, c0, c1, c2, c3, c4, c5, c6, c7⟩ := GC.out _ X2.out
 go_wp2_with fail
 refine (co_tokens_b _ _ (HV.out.keepT (HB0.out.2.also X2.out))).mono ?_
 rintro e w3 ⟨v1, rfl, hr, o1⟩
 have X3 := hID (X2.out.also o1)
 have HT := hID hr
 obtain ⟨AA, cc, rfl, _⟩ := hr.form
 clear hr
 clear o1 X2
 clear t0 t1 c0 c1 c2 c3 c4 c5 c6 c7
 obtain ⟨t0, t1, c0, c1, c2, c3, c4, c5, c6, c7⟩ := GC.out _ X3.out
 go_wp2_with fail
 refine (co_pr_b _ _ HT.out).mono ?_
 rintro e w4 ⟨rfl, o1⟩
 have X4 := hID (X3.out.also o1)
 clear HT
 clear o1 X3
 clear t0 t1 c0 c1 c2 c3 c4 c5 c6 c7
 obtain ⟨t0, t1, c0, c1, c2, c3, c4, c5, c6, c7⟩ := GC.out _ X4.out
 go_wp2_with fail
 go_ret2
 exact ⟨rfl, HB0.out.2.also X4.out⟩
end Go.Proofs.YtkflicifngohcaaGreatDoor

namespace Go.Proofs.YtkflicifngohcaaGreatDoor
open Go.RowKit
set_option maxRecDepth 100000
set_option maxHeartbeats 4000000 in
theorem co_rtext_ab (w : World) (v va vb : Value) (hv : Rd w (fun _ => True) 2 v 2 [.int .i64 5, va, .int .i64 9, vb]) (ha : Rd w (fun _ => True) 8 va 1 el_a) (hb : Rd w (fun _ => True) 8 vb 1 el_b) : Calls Tryz.prog 144 #[v] w (RetV w (.string ⟨#[114, 117, 108, 101, 32, 53, 32, 34, 97, 98, 34, 10, 114, 117, 108, 101, 32, 57, 32, 91, 97, 98, 93, 10]⟩)) := by
 have s_0_11_5740 : (⟨#[]⟩ : ByteArray) ++ ⟨#[114, 117, 108, 101, 32, 53, 32, 34, 97, 98, 34]⟩ = ⟨#[114, 117, 108, 101, 32, 53, 32, 34, 97, 98, 34]⟩ := by decide
 have s_11_1_890 : (⟨#[114, 117, 108, 101, 32, 53, 32, 34, 97, 98, 34]⟩ : ByteArray) ++ ⟨#[10]⟩ = ⟨#[114, 117, 108, 101, 32, 53, 32, 34, 97, 98, 34, 10]⟩ := by decide
 have s_12_11_7410 : (⟨#[114, 117, 108, 101, 32, 53, 32, 34, 97, 98, 34, 10]⟩ : ByteArray) ++ ⟨#[114, 117, 108, 101, 32, 57, 32, 91, 97, 98, 93]⟩ = ⟨#[114, 117, 108, 101, 32, 53, 32, 34, 97, 98, 34, 10, 114, 117, 108, 101, 32, 57, 32, 91, 97, 98, 93]⟩ := by decide
 have s_23_1_1840 : (⟨#[114, 117, 108, 101, 32, 53, 32, 34, 97, 98, 34, 10, 114, 117, 108, 101, 32, 57, 32, 91, 97, 98, 93]⟩ : ByteArray) ++ ⟨#[10]⟩ = ⟨#[114, 117, 108, 101, 32, 53, 32, 34, 97, 98, 34, 10, 114, 117, 108, 101, 32, 57, 32, 91, 97, 98, 93, 10]⟩ := by decide
 obtain ⟨b, o, c, rfl, hc⟩ := hv.cellsT (by decide)
 have HC := hID hc
 have Ha := hID ha
 have Hb := hID hb
 clear hc hv ha hb
 go_enter Tryz.func144, Tryz.ntmps144
 have GC : Hid (∀ W, Off Nob w W → W.cell? ⟨b, o, none⟩ = some (.int .i64 5) ∧ W.cell? ⟨b, o + 1, none⟩ = some (va) ∧ W.cell? ⟨b, o + 2, none⟩ = some (.int .i64 9) ∧ W.cell? ⟨b, o + 3, none⟩ = some (vb)) := hID (fun W ho => ⟨HC.out W ho 0 _ rfl, HC.out W ho 1 _ rfl, HC.out W ho 2 _ rfl, HC.out W ho 3 _ rfl⟩)
 have X0 : Hid (Off Nob w w) := hID (Off.refl _ _)
 obtain ⟨c0, c1, c2, c3⟩ := GC.out _ X0.out
 go_wp2_with fail
 refine wp_loop_rounds 3 ?_
 rw [rounds_succ]
 clear c0 c1 c2 c3
 obtain ⟨c0, c1, c2, c3⟩ := GC.out _ X0.out
 go_wp2_with fail
 refine (co_tokens_a _ _ (Ha.out.keepT X0.out)).mono ?_
 rintro e w1 ⟨v1, rfl, hr, o1⟩
 have X1 := hID (X0.out.also o1)
 have HT := hID hr
 obtain ⟨AA, cc, rfl, _⟩ := hr.form
 clear hr
 clear o1 X0
 clear c0 c1 c2 c3
 obtain ⟨c0, c1, c2, c3⟩ := GC.out _ X1.out
 go_wp2_with fail
 refine (co_pr_a _ _ HT.out).mono ?_
 rintro e w2 ⟨rfl, o1⟩
 have X2 := hID (X1.out.also o1)
 clear HT
 clear o1 X1
 clear c0 c1 c2 c3
 obtain ⟨c0, c1, c2, c3⟩ := GC.out _ X2.out
 go_wp2_with fail
 rw [rounds_succ]
 clear c0 c1 c2 c3
 obtain ⟨c0, c1, c2, c3⟩ := GC.out _ X2.out
 go_wp2_with fail
 refine (co_tokens_b _ _ (Hb.out.keepT X2.out)).mono ?_
 rintro e w3 ⟨v1, rfl, hr, o1⟩
 have X3 := hID (X2.out.also o1)
 have HT := hID hr
 obtain ⟨AA, cc, rfl, _⟩ := hr.form
 clear hr
 clear o1 X2
 clear c0 c1 c2 c3
 obtain ⟨c0, c1, c2, c3⟩ := GC.out _ X3.out
 go_wp2_with fail
 refine (co_pr_b _ _ HT.out).mono ?_
 rintro e w4 ⟨rfl, o1⟩
 have X4 := hID (X3.out.also o1)
 clear HT
 clear o1 X3
 clear c0 c1 c2 c3
 obtain ⟨c0, c1, c2, c3⟩ := GC.out _ X4.out
 go_wp2_with fail
 rw [rounds_succ]
 clear c0 c1 c2 c3
 obtain ⟨c0, c1, c2, c3⟩ := GC.out _ X4.out
 go_wp2_with fail
 go_ret
 exact ⟨rfl, X4.out⟩
set_option maxHeartbeats 4000000 in
theorem co_ck12_ab (w : World) (v va vb : Value) (hv : Rd w (fun _ => True) 2 v 2 [.int .i64 5, va, .int .i64 9, vb]) (ha : Rd w (fun _ => True) 8 va 1 el_a) (hb : Rd w (fun _ => True) 8 vb 1 el_b) : Calls Tryz.prog 119 #[v] w (RetV w (.tuple #[.int .i64 0, .int .i64 0, .int .i64 0])) := by
 have HV := hID hv
 obtain ⟨b, o, c, rfl, hc⟩ := hv.cellsT (by decide)
 have HC := hID hc
 have Ha := hID ha
 have Hb := hID hb
 clear hc hv ha hb
 go_enter Tryz.func119, Tryz.ntmps119
 have GC : Hid (∀ W, Off Nob w W → W.cell? ⟨b, o, none⟩ = some (.int .i64 5) ∧ W.cell? ⟨b, o + 1, none⟩ = some (va) ∧ W.cell? ⟨b, o + 2, none⟩ = some (.int .i64 9) ∧ W.cell? ⟨b, o + 3, none⟩ = some (vb)) := hID (fun W ho => ⟨HC.out W ho 0 _ rfl, HC.out W ho 1 _ rfl, HC.out W ho 2 _ rfl, HC.out W ho 3 _ rfl⟩)
 have X0 : Hid (Off Nob w w) := hID (Off.refl _ _)
 obtain ⟨c0, c1, c2, c3⟩ := GC.out _ X0.out
 go_wp2_with fail
 refine wp_loop_rounds 3 ?_
 rw [rounds_succ]
 clear c0 c1 c2 c3
 obtain ⟨c0, c1, c2, c3⟩ := GC.out _ X0.out
 go_wp2_with fail
 refine (co_one_a _ _ (Ha.out.keepT X0.out)).mono ?_
 rintro e w1 ⟨rfl, o1⟩
 have X1 := hID (X0.out.also o1)
 clear o1 X0
 clear c0 c1 c2 c3
 obtain ⟨c0, c1, c2, c3⟩ := GC.out _ X1.out
 go_wp2_with fail
 rw [rounds_succ]
 clear c0 c1 c2 c3
 obtain ⟨c0, c1, c2, c3⟩ := GC.out _ X1.out
 go_wp2_with fail
 refine (co_one_b _ _ (Hb.out.keepT X1.out)).mono ?_
 rintro e w2 ⟨rfl, o1⟩
 have X2 := hID (X1.out.also o1)
 clear o1 X1
 clear c0 c1 c2 c3
 obtain ⟨c0, c1, c2, c3⟩ := GC.out _ X2.out
 go_wp2_with fail
 rw [rounds_succ]
 clear c0 c1 c2 c3
 obtain ⟨c0, c1, c2, c3⟩ := GC.out _ X2.out
 go_wp2_with fail
 refine (co_rtext_ab _ _ _ _ (HV.out.keepT X2.out) (Ha.out.keepT X2.out) (Hb.out.keepT X2.out)).mono ?_
 rintro e w3 ⟨rfl, o1⟩
 have X3 := hID (X2.out.also o1)
 clear o1 X2
 clear c0 c1 c2 c3
 obtain ⟨c0, c1, c2, c3⟩ := GC.out _ X3.out
 go_wp2_with fail
 go_ret3
 exact ⟨rfl, X3.out⟩
set_option maxHeartbeats 4000000 in
theorem co_rtext_a (w : World) (v va : Value) (hv : Rd w (fun _ => True) 2 v 1 [.int .i64 5, va]) (ha : Rd w (fun _ => True) 8 va 1 el_a) : Calls Tryz.prog 144 #[v] w (RetV w (.string ⟨#[114, 117, 108, 101, 32, 53, 32, 34, 97, 98, 34, 10]⟩)) := by
 have s_0_11_5740 : (⟨#[]⟩ : ByteArray) ++ ⟨#[114, 117, 108, 101, 32, 53, 32, 34, 97, 98, 34]⟩ = ⟨#[114, 117, 108, 101, 32, 53, 32, 34, 97, 98, 34]⟩ := by decide
 have s_11_1_890 : (⟨#[114, 117, 108, 101, 32, 53, 32, 34, 97, 98, 34]⟩ : ByteArray) ++ ⟨#[10]⟩ = ⟨#[114, 117, 108, 101, 32, 53, 32, 34, 97, 98, 34, 10]⟩ := by decide
 obtain ⟨b, o, c, rfl, hc⟩ := hv.cellsT (by decide)
 have HC := hID hc
 have Ha := hID ha
 clear hc hv ha
 go_enter Tryz.func144, Tryz.ntmps144
 have GC : Hid (∀ W, Off Nob w W → W.cell? ⟨b, o, none⟩ = some (.int .i64 5) ∧ W.cell? ⟨b, o + 1, none⟩ = some (va)) := hID (fun W ho => ⟨HC.out W ho 0 _ rfl, HC.out W ho 1 _ rfl⟩)
 have X0 : Hid (Off Nob w w) := hID (Off.refl _ _)
 obtain ⟨c0, c1⟩ := GC.out _ X0.out
 go_wp2_with fail
 refine wp_loop_rounds 2 ?_
 rw [rounds_succ]
 clear c0 c1
 obtain ⟨c0, c1⟩ := GC.out _ X0.out
 go_wp2_with fail
 refine (co_tokens_a _ _ (Ha.out.keepT X0.out)).mono ?_
 rintro e w1 ⟨v1, rfl, hr, o1⟩
 have X1 := hID (X0.out.also o1)
 have HT := hID hr
 obtain ⟨AA, cc, rfl, _⟩ := hr.form
 clear hr
 clear o1 X0
 clear c0 c1
 obtain ⟨c0, c1⟩ := GC.out _ X1.out
 go_wp2_with fail
 refine (co_pr_a _ _ HT.out).mono ?_
 rintro e w2 ⟨rfl, o1⟩
 have X2 := hID (X1.out.also o1)
 clear HT
 clear o1 X1
 clear c0 c1
 obtain ⟨c0, c1⟩ := GC.out _ X2.out
 go_wp2_with fail
 rw [rounds_succ]
 clear c0 c1
 obtain ⟨c0, c1⟩ := GC.out _ X2.out
 go_wp2_with fail
 go_ret
 exact ⟨rfl, X2.out⟩
set_option maxHeartbeats 4000000 in
theorem co_ck12_a (w : World) (v va : Value) (hv : Rd w (fun _ => True) 2 v 1 [.int .i64 5, va]) (ha : Rd w (fun _ => True) 8 va 1 el_a) : Calls Tryz.prog 119 #[v] w (RetV w (.tuple #[.int .i64 0, .int .i64 0, .int .i64 0])) := by
 have HV := hID hv
 obtain ⟨b, o, c, rfl, hc⟩ := hv.cellsT (by decide)
 have HC := hID hc
 have Ha := hID ha
 clear hc hv ha
 go_enter Tryz.func119, Tryz.ntmps119
 have GC : Hid (∀ W, Off Nob w W → W.cell? ⟨b, o, none⟩ = some (.int .i64 5) ∧ W.cell? ⟨b, o + 1, none⟩ = some (va)) := hID (fun W ho => ⟨HC.out W ho 0 _ rfl, HC.out W ho 1 _ rfl⟩)
 have X0 : Hid (Off Nob w w) := hID (Off.refl _ _)
 obtain ⟨c0, c1⟩ := GC.out _ X0.out
 go_wp2_with fail
 refine wp_loop_rounds 2 ?_
 rw [rounds_succ]
 clear c0 c1
 obtain ⟨c0, c1⟩ := GC.out _ X0.out
 go_wp2_with fail
 refine (co_one_a _ _ (Ha.out.keepT X0.out)).mono ?_
 rintro e w1 ⟨rfl, o1⟩
 have X1 := hID (X0.out.also o1)
 clear o1 X0
 clear c0 c1
 obtain ⟨c0, c1⟩ := GC.out _ X1.out
 go_wp2_with fail
 rw [rounds_succ]
 clear c0 c1
 obtain ⟨c0, c1⟩ := GC.out _ X1.out
 go_wp2_with fail
 refine (co_rtext_a _ _ _ (HV.out.keepT X1.out) (Ha.out.keepT X1.out)).mono ?_
 rintro e w2 ⟨rfl, o1⟩
 have X2 := hID (X1.out.also o1)
 clear o1 X1
 clear c0 c1
 obtain ⟨c0, c1⟩ := GC.out _ X2.out
 go_wp2_with fail
 go_ret3
 exact ⟨rfl, X2.out⟩
set_option maxHeartbeats 4000000 in
theorem co_rtext_b (w : World) (v vb : Value) (hv : Rd w (fun _ => True) 2 v 1 [.int .i64 9, vb]) (hb : Rd w (fun _ => True) 8 vb 1 el_b) : Calls Tryz.prog 144 #[v] w (RetV w (.string ⟨#[114, 117, 108, 101, 32, 57, 32, 91, 97, 98, 93, 10]⟩)) := by
 have s_0_11_6580 : (⟨#[]⟩ : ByteArray) ++ ⟨#[114, 117, 108, 101, 32, 57, 32, 91, 97, 98, 93]⟩ = ⟨#[114, 117, 108, 101, 32, 57, 32, 91, 97, 98, 93]⟩ := by decide
 have s_11_1_1010 : (⟨#[114, 117, 108, 101, 32, 57, 32, 91, 97, 98, 93]⟩ : ByteArray) ++ ⟨#[10]⟩ = ⟨#[114, 117, 108, 101, 32, 57, 32, 91, 97, 98, 93, 10]⟩ := by decide
 obtain ⟨b, o, c, rfl, hc⟩ := hv.cellsT (by decide)
 have HC := hID hc
 have Hb := hID hb
 clear hc hv hb
 go_enter Tryz.func144, Tryz.ntmps144
 have GC : Hid (∀ W, Off Nob w W → W.cell? ⟨b, o, none⟩ = some (.int .i64 9) ∧ W.cell? ⟨b, o + 1, none⟩ = some (vb)) := hID (fun W ho => ⟨HC.out W ho 0 _ rfl, HC.out W ho 1 _ rfl⟩)
 have X0 : Hid (Off Nob w w) := hID (Off.refl _ _)
 obtain ⟨c0, c1⟩ := GC.out _ X0.out
 go_wp2_with fail
 refine wp_loop_rounds 2 ?_
 rw [rounds_succ]
 clear c0 c1
 obtain ⟨c0, c1⟩ := GC.out _ X0.out
 go_wp2_with fail
 refine (co_tokens_b _ _ (Hb.out.keepT X0.out)).mono ?_
 rintro e w1 ⟨v1, rfl, hr, o1⟩
 have X1 := hID (X0.out.also o1)
 have HT := hID hr
 obtain ⟨AA, cc, rfl, _⟩ := hr.form
 clear hr
 clear o1 X0
 clear c0 c1
 obtain ⟨c0, c1⟩ := GC.out _ X1.out
 go_wp2_with fail
 refine (co_pr_b _ _ HT.out).mono ?_
 rintro e w2 ⟨rfl, o1⟩
 have X2 := hID (X1.out.also o1)
 clear HT
 clear o1 X1
 clear c0 c1
 obtain ⟨c0, c1⟩ := GC.out _ X2.out
 go_wp2_with fail
 rw [rounds_succ]
 clear c0 c1
 obtain ⟨c0, c1⟩ := GC.out _ X2.out
 go_wp2_with fail
 go_ret
 exact ⟨rfl, X2.out⟩
set_option maxHeartbeats 4000000 in
theorem co_ck12_b (w : World) (v vb : Value) (hv : Rd w (fun _ => True) 2 v 1 [.int .i64 9, vb]) (hb : Rd w (fun _ => True) 8 vb 1 el_b) : Calls Tryz.prog 119 #[v] w (RetV w (.tuple #[.int .i64 0, .int .i64 0, .int .i64 0])) := by
 have HV := hID hv
 obtain ⟨b, o, c, rfl, hc⟩ := hv.cellsT (by decide)
 have HC := hID hc
 have Hb := hID hb
 clear hc hv hb
 go_enter Tryz.func119, Tryz.ntmps119
 have GC : Hid (∀ W, Off Nob w W → W.cell? ⟨b, o, none⟩ = some (.int .i64 9) ∧ W.cell? ⟨b, o + 1, none⟩ = some (vb)) := hID (fun W ho => ⟨HC.out W ho 0 _ rfl, HC.out W ho 1 _ rfl⟩)
 have X0 : Hid (Off Nob w w) := hID (Off.refl _ _)
 obtain ⟨c0, c1⟩ := GC.out _ X0.out
 go_wp2_with fail
 refine wp_loop_rounds 2 ?_
 rw [rounds_succ]
 clear c0 c1
 obtain ⟨c0, c1⟩ := GC.out _ X0.out
 go_wp2_with fail
 refine (co_one_b _ _ (Hb.out.keepT X0.out)).mono ?_
 rintro e w1 ⟨rfl, o1⟩
 have X1 := hID (X0.out.also o1)
 clear o1 X0
 clear c0 c1
 obtain ⟨c0, c1⟩ := GC.out _ X1.out
 go_wp2_with fail
 rw [rounds_succ]
 clear c0 c1
 obtain ⟨c0, c1⟩ := GC.out _ X1.out
 go_wp2_with fail
 refine (co_rtext_b _ _ _ (HV.out.keepT X1.out) (Hb.out.keepT X1.out)).mono ?_
 rintro e w2 ⟨rfl, o1⟩
 have X2 := hID (X1.out.also o1)
 clear o1 X1
 clear c0 c1
 obtain ⟨c0, c1⟩ := GC.out _ X2.out
 go_wp2_with fail
 go_ret3
 exact ⟨rfl, X2.out⟩
end Go.Proofs.YtkflicifngohcaaGreatDoor

namespace Go.Proofs.YtkflicifngohcaaGreatDoor
open Go.RowKit
set_option maxRecDepth 100000
theorem co_lengths_nil (w : World) (A : Option Addr) (c : Nat) : Calls Tryz.prog 122 #[.slice A 0 c] w (RetL w 1 1 [.int .i64 0]) := by
 go_enter Tryz.func122, Tryz.ntmps122
 go_wp2_with fail
 go_ret
 exact ⟨_, rfl, Rd.newT w 3 [.int .i64 0] 1 1 rfl (by decide), Off.alloc (Off.refl _ _) _⟩
set_option maxHeartbeats 2000000 in
theorem co_element_a (w : World) (v : Value) (hv : Rd w (fun _ => True) 8 v 1 el_a) : Calls Tryz.prog 145 #[.agg #[.int .i64 5, v], .int .i64 0] w (RetV w (.int .i64 0)) := by
 have hq : ∀ w : World, (binOp .eql 146 (.agg #[.int .u64 0, .int .u64 25769803776, .int .u64 0, .int .u64 0]) (.agg #[.int .u64 0, .int .u64 0, .int .u64 0, .int .u64 0])).run Tryz.prog w = .ok (.bool false) w := fun _ => by kernel_rfl
 obtain ⟨b, o, c, rfl, hc⟩ := hv.cellsT (by decide)
 have HC := hID hc
 have c0 := hc (w.alloc (.cells #[.int .i64 5, .slice (some ⟨b, o, none⟩) 1 c] 143)) (Off.alloc (Off.refl _ _) _) 0 _ rfl
 have c1 := hc (w.alloc (.cells #[.int .i64 5, .slice (some ⟨b, o, none⟩) 1 c] 143)) (Off.alloc (Off.refl _ _) _) 1 _ rfl
 have c2 := hc (w.alloc (.cells #[.int .i64 5, .slice (some ⟨b, o, none⟩) 1 c] 143)) (Off.alloc (Off.refl _ _) _) 2 _ rfl
 have c3 := hc (w.alloc (.cells #[.int .i64 5, .slice (some ⟨b, o, none⟩) 1 c] 143)) (Off.alloc (Off.refl _ _) _) 3 _ rfl
 have c4 := hc (w.alloc (.cells #[.int .i64 5, .slice (some ⟨b, o, none⟩) 1 c] 143)) (Off.alloc (Off.refl _ _) _) 4 _ rfl
 have c5 := hc (w.alloc (.cells #[.int .i64 5, .slice (some ⟨b, o, none⟩) 1 c] 143)) (Off.alloc (Off.refl _ _) _) 5 _ rfl
 have c6 := hc (w.alloc (.cells #[.int .i64 5, .slice (some ⟨b, o, none⟩) 1 c] 143)) (Off.alloc (Off.refl _ _) _) 6 _ rfl
 have c7 := hc (w.alloc (.cells #[.int .i64 5, .slice (some ⟨b, o, none⟩) 1 c] 143)) (Off.alloc (Off.refl _ _) _) 7 _ rfl
 simp only [Nat.add_zero] at c0
 clear hc hv
 go_enter Tryz.func145, Tryz.ntmps145
 go_wp2_with fail
 go_ret
 exact ⟨rfl, Off.alloc (Off.alloc (Off.refl _ _) _) _⟩
set_option maxHeartbeats 2000000 in
theorem co_lengths_a (w : World) (v : Value) (hv : Rd w (fun _ => True) 8 v 1 el_a) : Calls Tryz.prog 122 #[v] w (RetL w 1 1 [.int .i64 2]) := by
 obtain ⟨i0, hi, hz0, hz1, hz2⟩ := info_parts Tryz.infoI'
 obtain ⟨b, o, c, rfl, hc⟩ := hv.cellsT (by decide)
 have GC : Hid (∀ W, Off Nob w W → W.cell? ⟨b, o, none⟩ = some (.int .i64 1) ∧ W.cell? ⟨b, o + 1, none⟩ = some (.string ⟨#[97, 98]⟩) ∧ W.cell? ⟨b, o + 2, none⟩ = some (.int .u64 0) ∧ W.cell? ⟨b, o + 3, none⟩ = some (.int .u64 0) ∧ W.cell? ⟨b, o + 4, none⟩ = some (.int .u64 0) ∧ W.cell? ⟨b, o + 5, none⟩ = some (.int .u64 0) ∧ W.cell? ⟨b, o + 6, none⟩ = some (.int .i64 0) ∧ W.cell? ⟨b, o + 7, none⟩ = some (.int .i64 0)) := hID (fun W ho => ⟨hc W ho 0 _ rfl, hc W ho 1 _ rfl, hc W ho 2 _ rfl, hc W ho 3 _ rfl, hc W ho 4 _ rfl, hc W ho 5 _ rfl, hc W ho 6 _ rfl, hc W ho 7 _ rfl⟩)
 have X0 : Hid (Off Nob w w) := hID (Off.refl _ _)
 clear hc hv
 obtain ⟨c0, c1, c2, c3, c4, c5, c6, c7⟩ := GC.out _ X0.out
 go_enter Tryz.func122, Tryz.ntmps122
 by_cases hc1 : c = 1
 ·subst hc1
  go_wp2_with fail
  refine (co_lengths_nil _ _ _).mono ?_
  rintro e w1 ⟨v1, rfl, hr, o1⟩
  have X1 := hID (X0.out.also o1)
  obtain ⟨b1, p1, c1', rfl, hd⟩ := hr.cellsT (by decide)
  have HD := hID hd
  clear hr o1 X0 hd c0 c1 c2 c3 c4 c5 c6 c7
  obtain ⟨c0, c1, c2, c3, c4, c5, c6, c7⟩ := GC.out _ X1.out
  go_wp2_with fail
  go_quiet (fail)
  have X2 : Hid (Off Nob w (w1.drewN nq)) := hID (X1.out.drewN nq)
  have Y2 : Hid (Off Nob w1 (w1.drewN nq)) := hID (Off.drewN (Off.refl _ _) nq)
  clear X1 c0 c1 c2 c3 c4 c5 c6 c7
  generalize w1.drewN nq = w2 at *
  go_wp2_with fail
  refine wp_loop_rounds 2 ?_
  rw [rounds_succ]
  go_wp2_with fail
  refine wp_loop_rounds 2 ?_
  rw [rounds_succ]
  have d0 := HD.out _ Y2.out 0 _ rfl
  simp only [Nat.add_zero] at d0
  go_wp2_with (at_builtin; refine @wpList_append_lies _ _ _ _ _ _ _ rfl _ _ 22 rfl w.heap.size 3 i0 (.int .i64 0) 1 8 Tryz.underlying22 hi hz0 hz1 hz2 rfl (by decide) (.slice none 0 0) 0 [] rfl (World.ownsRow_nil _ _ _ _) ⟨w2.heap.size, 0, none⟩ 1 1 [.int .i64 2] rfl rfl (cell_one _ _ _) (by decide) (by decide) (by decide) (by decide) (by have := X2.out.size; simp; omega) _ rfl ?_)
  intro g cap w3 hown hgrow hat hlt3
  have X3 := hID ((OwnL.nilAt X2.out 3 1).grown (Off.alloc (Off.refl Nob w2) (.cells #[.int .i64 2] 3)) hown hgrow)
  clear hown hgrow hat hlt3 X2 Y2 d0
  go_wp2_with fail
  rw [rounds_succ]
  go_wp2_with fail
  rw [rounds_succ]
  go_wp2_with fail
  go_ret
  exact ⟨_, rfl, X3.out.rd, X3.out.2⟩
 ·go_wp2_with fail
  refine (co_lengths_nil _ _ _).mono ?_
  rintro e w1 ⟨v1, rfl, hr, o1⟩
  have X1 := hID (X0.out.also o1)
  obtain ⟨b1, p1, c1', rfl, hd⟩ := hr.cellsT (by decide)
  have HD := hID hd
  clear hr o1 X0 hd c0 c1 c2 c3 c4 c5 c6 c7
  obtain ⟨c0, c1, c2, c3, c4, c5, c6, c7⟩ := GC.out _ X1.out
  go_wp2_with fail
  go_quiet (fail)
  have X2 : Hid (Off Nob w (w1.drewN nq)) := hID (X1.out.drewN nq)
  have Y2 : Hid (Off Nob w1 (w1.drewN nq)) := hID (Off.drewN (Off.refl _ _) nq)
  clear X1 c0 c1 c2 c3 c4 c5 c6 c7
  generalize w1.drewN nq = w2 at *
  go_wp2_with fail
  refine wp_loop_rounds 2 ?_
  rw [rounds_succ]
  go_wp2_with fail
  refine wp_loop_rounds 2 ?_
  rw [rounds_succ]
  have d0 := HD.out _ Y2.out 0 _ rfl
  simp only [Nat.add_zero] at d0
  go_wp2_with (at_builtin; refine @wpList_append_lies _ _ _ _ _ _ _ rfl _ _ 22 rfl w.heap.size 3 i0 (.int .i64 0) 1 8 Tryz.underlying22 hi hz0 hz1 hz2 rfl (by decide) (.slice none 0 0) 0 [] rfl (World.ownsRow_nil _ _ _ _) ⟨w2.heap.size, 0, none⟩ 1 1 [.int .i64 2] rfl rfl (cell_one _ _ _) (by decide) (by decide) (by decide) (by decide) (by have := X2.out.size; simp; omega) _ rfl ?_)
  intro g cap w3 hown hgrow hat hlt3
  have X3 := hID ((OwnL.nilAt X2.out 3 1).grown (Off.alloc (Off.refl Nob w2) (.cells #[.int .i64 2] 3)) hown hgrow)
  clear hown hgrow hat hlt3 X2 Y2 d0
  go_wp2_with fail
  rw [rounds_succ]
  go_wp2_with fail
  rw [rounds_succ]
  go_wp2_with fail
  go_ret
  exact ⟨_, rfl, X3.out.rd, X3.out.2⟩
set_option maxHeartbeats 2000000 in
theorem co_element_b (w : World) (v : Value) (hv : Rd w (fun _ => True) 8 v 1 el_b) : Calls Tryz.prog 145 #[.agg #[.int .i64 9, v], .int .i64 0] w (RetV w (.int .i64 0)) := by
 have hq : ∀ w : World, (binOp .eql 146 (.agg #[.int .u64 0, .int .u64 25769803776, .int .u64 0, .int .u64 0]) (.agg #[.int .u64 0, .int .u64 0, .int .u64 0, .int .u64 0])).run Tryz.prog w = .ok (.bool false) w := fun _ => by kernel_rfl
 obtain ⟨b, o, c, rfl, hc⟩ := hv.cellsT (by decide)
 have HC := hID hc
 have c0 := hc (w.alloc (.cells #[.int .i64 9, .slice (some ⟨b, o, none⟩) 1 c] 143)) (Off.alloc (Off.refl _ _) _) 0 _ rfl
 have c1 := hc (w.alloc (.cells #[.int .i64 9, .slice (some ⟨b, o, none⟩) 1 c] 143)) (Off.alloc (Off.refl _ _) _) 1 _ rfl
 have c2 := hc (w.alloc (.cells #[.int .i64 9, .slice (some ⟨b, o, none⟩) 1 c] 143)) (Off.alloc (Off.refl _ _) _) 2 _ rfl
 have c3 := hc (w.alloc (.cells #[.int .i64 9, .slice (some ⟨b, o, none⟩) 1 c] 143)) (Off.alloc (Off.refl _ _) _) 3 _ rfl
 have c4 := hc (w.alloc (.cells #[.int .i64 9, .slice (some ⟨b, o, none⟩) 1 c] 143)) (Off.alloc (Off.refl _ _) _) 4 _ rfl
 have c5 := hc (w.alloc (.cells #[.int .i64 9, .slice (some ⟨b, o, none⟩) 1 c] 143)) (Off.alloc (Off.refl _ _) _) 5 _ rfl
 have c6 := hc (w.alloc (.cells #[.int .i64 9, .slice (some ⟨b, o, none⟩) 1 c] 143)) (Off.alloc (Off.refl _ _) _) 6 _ rfl
 have c7 := hc (w.alloc (.cells #[.int .i64 9, .slice (some ⟨b, o, none⟩) 1 c] 143)) (Off.alloc (Off.refl _ _) _) 7 _ rfl
 simp only [Nat.add_zero] at c0
 clear hc hv
 go_enter Tryz.func145, Tryz.ntmps145
 go_wp2_with fail
 go_ret
 exact ⟨rfl, Off.alloc (Off.alloc (Off.refl _ _) _) _⟩
set_option maxHeartbeats 2000000 in
theorem co_lengths_b (w : World) (v : Value) (hv : Rd w (fun _ => True) 8 v 1 el_b) : Calls Tryz.prog 122 #[v] w (RetL w 1 1 [.int .i64 1]) := by
 obtain ⟨i0, hi, hz0, hz1, hz2⟩ := info_parts Tryz.infoI'
 obtain ⟨b, o, c, rfl, hc⟩ := hv.cellsT (by decide)
 have GC : Hid (∀ W, Off Nob w W → W.cell? ⟨b, o, none⟩ = some (.int .i64 3) ∧ W.cell? ⟨b, o + 1, none⟩ = some (.string ⟨#[]⟩) ∧ W.cell? ⟨b, o + 2, none⟩ = some (.int .u64 0) ∧ W.cell? ⟨b, o + 3, none⟩ = some (.int .u64 25769803776) ∧ W.cell? ⟨b, o + 4, none⟩ = some (.int .u64 0) ∧ W.cell? ⟨b, o + 5, none⟩ = some (.int .u64 0) ∧ W.cell? ⟨b, o + 6, none⟩ = some (.int .i64 0) ∧ W.cell? ⟨b, o + 7, none⟩ = some (.int .i64 0)) := hID (fun W ho => ⟨hc W ho 0 _ rfl, hc W ho 1 _ rfl, hc W ho 2 _ rfl, hc W ho 3 _ rfl, hc W ho 4 _ rfl, hc W ho 5 _ rfl, hc W ho 6 _ rfl, hc W ho 7 _ rfl⟩)
 have X0 : Hid (Off Nob w w) := hID (Off.refl _ _)
 clear hc hv
 obtain ⟨c0, c1, c2, c3, c4, c5, c6, c7⟩ := GC.out _ X0.out
 go_enter Tryz.func122, Tryz.ntmps122
 by_cases hc1 : c = 1
 ·subst hc1
  go_wp2_with fail
  refine (co_lengths_nil _ _ _).mono ?_
  rintro e w1 ⟨v1, rfl, hr, o1⟩
  have X1 := hID (X0.out.also o1)
  obtain ⟨b1, p1, c1', rfl, hd⟩ := hr.cellsT (by decide)
  have HD := hID hd
  clear hr o1 X0 hd c0 c1 c2 c3 c4 c5 c6 c7
  obtain ⟨c0, c1, c2, c3, c4, c5, c6, c7⟩ := GC.out _ X1.out
  go_wp2_with fail
  skip
  have X2 := X1
  have Y2 : Hid (Off Nob w1 w1) := hID (Off.refl _ _)
  have Z : Hid (∃ W, W = w1) := hID ⟨_, rfl⟩
  clear X1 c0 c1 c2 c3 c4 c5 c6 c7
  refine wp_loop_rounds 2 ?_
  rw [rounds_succ]
  go_wp2_with fail
  refine wp_loop_rounds 2 ?_
  rw [rounds_succ]
  have d0 := HD.out _ Y2.out 0 _ rfl
  simp only [Nat.add_zero] at d0
  go_wp2_with (at_builtin; refine @wpList_append_lies _ _ _ _ _ _ _ rfl _ _ 22 rfl w.heap.size 3 i0 (.int .i64 0) 1 8 Tryz.underlying22 hi hz0 hz1 hz2 rfl (by decide) (.slice none 0 0) 0 [] rfl (World.ownsRow_nil _ _ _ _) ⟨w1.heap.size, 0, none⟩ 1 1 [.int .i64 1] rfl rfl (cell_one _ _ _) (by decide) (by decide) (by decide) (by decide) (by have := X2.out.size; simp; omega) _ rfl ?_)
  intro g cap w3 hown hgrow hat hlt3
  have X3 := hID ((OwnL.nilAt X2.out 3 1).grown (Off.alloc (Off.refl Nob w1) (.cells #[.int .i64 1] 3)) hown hgrow)
  clear hown hgrow hat hlt3 X2 Y2 d0
  go_wp2_with fail
  rw [rounds_succ]
  go_wp2_with fail
  rw [rounds_succ]
  go_wp2_with fail
  go_ret
  exact ⟨_, rfl, X3.out.rd, X3.out.2⟩
 ·go_wp2_with fail
  refine (co_lengths_nil _ _ _).mono ?_
  rintro e w1 ⟨v1, rfl, hr, o1⟩
  have X1 := hID (X0.out.also o1)
  obtain ⟨b1, p1, c1', rfl, hd⟩ := hr.cellsT (by decide)
  have HD := hID hd
  clear hr o1 X0 hd c0 c1 c2 c3 c4 c5 c6 c7
  obtain ⟨c0, c1, c2, c3, c4, c5, c6, c7⟩ := GC.out _ X1.out
  go_wp2_with fail
  skip
  have X2 := X1
  have Y2 : Hid (Off Nob w1 w1) := hID (Off.refl _ _)
  have Z : Hid (∃ W, W = w1) := hID ⟨_, rfl⟩
  clear X1 c0 c1 c2 c3 c4 c5 c6 c7
  refine wp_loop_rounds 2 ?_
  rw [rounds_succ]
  go_wp2_with fail
  refine wp_loop_rounds 2 ?_
  rw [rounds_succ]
  have d0 := HD.out _ Y2.out 0 _ rfl
  simp only [Nat.add_zero] at d0
  go_wp2_with (at_builtin; refine @wpList_append_lies _ _ _ _ _ _ _ rfl _ _ 22 rfl w.heap.size 3 i0 (.int .i64 0) 1 8 Tryz.underlying22 hi hz0 hz1 hz2 rfl (by decide) (.slice none 0 0) 0 [] rfl (World.ownsRow_nil _ _ _ _) ⟨w1.heap.size, 0, none⟩ 1 1 [.int .i64 1] rfl rfl (cell_one _ _ _) (by decide) (by decide) (by decide) (by decide) (by have := X2.out.size; simp; omega) _ rfl ?_)
  intro g cap w3 hown hgrow hat hlt3
  have X3 := hID ((OwnL.nilAt X2.out 3 1).grown (Off.alloc (Off.refl Nob w1) (.cells #[.int .i64 1] 3)) hown hgrow)
  clear hown hgrow hat hlt3 X2 Y2 d0
  go_wp2_with fail
  rw [rounds_succ]
  go_wp2_with fail
  rw [rounds_succ]
  go_wp2_with fail
  go_ret
  exact ⟨_, rfl, X3.out.rd, X3.out.2⟩
theorem co_sum1 (n : Nat) (hn : n ≤ 1000) (w : World) (v : Value) (hv : Rd w (fun _ => True) 1 v 1 [.int .i64 (n : Int)]) : Calls Tryz.prog 121 #[v] w (RetV w (.int .i64 (n : Int))) := by
 obtain ⟨b, o, c, rfl, hc⟩ := hv.cellsT (by decide)
 have c0 := hc w (Off.refl _ _) 0 _ rfl
 simp only [Nat.add_zero] at c0
 clear hc hv
 go_enter Tryz.func121, Tryz.ntmps121
 go_wp2_with fail
 refine wp_loop_rounds 2 ?_
 rw [rounds_succ]
 go_wp2_with fail
 rw [rounds_succ]
 go_wp2_with fail
 go_ret
 exact ⟨rfl, Off.refl _ _⟩
end Go.Proofs.YtkflicifngohcaaGreatDoor

namespace Go.Proofs.YtkflicifngohcaaGreatDoor
open Go.RowKit
set_option maxRecDepth 100000
set_option maxHeartbeats 2000000 in
theorem co_choices_a (w : World) (v : Value) (hv : Rd w (fun _ => True) 8 v 1 el_a) : Calls Tryz.prog 146 #[.agg #[.int .i64 5, v]] w (RetV w (.int .i64 1)) := by
 obtain ⟨b, o, c, rfl, hc⟩ := hv.cellsT (by decide)
 have HC := hID hc
 clear hc hv
 go_enter Tryz.func146, Tryz.ntmps146
 go_wp2_with fail
 have HB0 : Hid (Blk (w.alloc (.cells #[.int .i64 5, .slice (some ⟨b, o, none⟩) 1 c] 143)) w.heap.size 143 #[.int .i64 5, .slice (some ⟨b, o, none⟩) 1 c] ∧ Off Nob w (w.alloc (.cells #[.int .i64 5, .slice (some ⟨b, o, none⟩) 1 c] 143))) := hID ⟨Blk.new _ _ _, Off.alloc (Off.refl _ _) _⟩
 revert HB0
 generalize (w.alloc (.cells #[.int .i64 5, .slice (some ⟨b, o, none⟩) 1 c] 143)) = w0
 intro HB0
 have GC : Hid (∀ W, Off Nob w0 W → W.cell? ⟨w.heap.size, 0, none⟩ = some (.int .i64 5) ∧ W.cell? ⟨w.heap.size, 1, none⟩ = some (.slice (some ⟨b, o, none⟩) 1 c) ∧ W.cell? ⟨b, o, none⟩ = some (.int .i64 1) ∧ W.cell? ⟨b, o + 1, none⟩ = some (.string ⟨#[97, 98]⟩) ∧ W.cell? ⟨b, o + 2, none⟩ = some (.int .u64 0) ∧ W.cell? ⟨b, o + 3, none⟩ = some (.int .u64 0) ∧ W.cell? ⟨b, o + 4, none⟩ = some (.int .u64 0) ∧ W.cell? ⟨b, o + 5, none⟩ = some (.int .u64 0) ∧ W.cell? ⟨b, o + 6, none⟩ = some (.int .i64 0) ∧ W.cell? ⟨b, o + 7, none⟩ = some (.int .i64 0)) := hID (fun W ho => by
  have h := HB0.out.1.to (ho.block _ HB0.out.1.lt (fun h => h))
  have k := HC.out W (HB0.out.2.also ho)
  exact ⟨h.cell 0, h.cell 1, k 0 _ rfl, k 1 _ rfl, k 2 _ rfl, k 3 _ rfl, k 4 _ rfl, k 5 _ rfl, k 6 _ rfl, k 7 _ rfl⟩)
 have X0 : Hid (Off Nob w0 w0) := hID (Off.refl _ _)
 obtain ⟨t0, t1, c0, c1, c2, c3, c4, c5, c6, c7⟩ := GC.out _ X0.out
 go_wp2_with fail
 refine wp_loop_rounds 2 ?_
 rw [rounds_succ]
 clear t0 t1 c0 c1 c2 c3 c4 c5 c6 c7
 obtain ⟨t0, t1, c0, c1, c2, c3, c4, c5, c6, c7⟩ := GC.out _ X0.out
 go_wp2_with fail
 rw [rounds_succ]
 clear t0 t1 c0 c1 c2 c3 c4 c5 c6 c7
 obtain ⟨t0, t1, c0, c1, c2, c3, c4, c5, c6, c7⟩ := GC.out _ X0.out
 go_wp2_with fail
 go_ret
 exact ⟨rfl, HB0.out.2.also X0.out⟩
set_option maxHeartbeats 4000000 in
theorem co_alone_a (w : World) (v : Value) (hv : Rd w (fun _ => True) 8 v 1 el_a) : Calls Tryz.prog 120 #[.agg #[.int .i64 5, v]] w (RetV w (.tuple #[.int .i64 0, .int .i64 0])) := by
 have HV0 := hID hv
 obtain ⟨b, o, c, rfl, hc⟩ := hv.cellsT (by decide)
 have HV := HV0
 have HC := hID hc
 clear hc hv HV0
 go_enter Tryz.func120, Tryz.ntmps120
 go_wp2_with fail
 have HL : Hid (Rd ((w.alloc (.cells #[.int .i64 5, .slice (some ⟨b, o, none⟩) 1 c] 143)).alloc (.cells #[.int .i64 5, .slice (some ⟨b, o, none⟩) 1 c] 143)) (fun _ => True) 2 (.slice (some ⟨w.heap.size + 1, 0, none⟩) 1 1) 1 [.int .i64 5, .slice (some ⟨b, o, none⟩) 1 c]) := hID (by have := Rd.newT (w.alloc (.cells #[.int .i64 5, .slice (some ⟨b, o, none⟩) 1 c] 143)) 143 [.int .i64 5, .slice (some ⟨b, o, none⟩) 1 c] 2 1 rfl (by decide); simpa using this)
 have HB0 : Hid (Blk ((w.alloc (.cells #[.int .i64 5, .slice (some ⟨b, o, none⟩) 1 c] 143)).alloc (.cells #[.int .i64 5, .slice (some ⟨b, o, none⟩) 1 c] 143)) w.heap.size 143 #[.int .i64 5, .slice (some ⟨b, o, none⟩) 1 c] ∧ Off Nob w ((w.alloc (.cells #[.int .i64 5, .slice (some ⟨b, o, none⟩) 1 c] 143)).alloc (.cells #[.int .i64 5, .slice (some ⟨b, o, none⟩) 1 c] 143))) := hID ⟨(Blk.new _ _ _).alloc _, Off.alloc (Off.alloc (Off.refl _ _) _) _⟩
 revert HB0 HL
 generalize ((w.alloc (.cells #[.int .i64 5, .slice (some ⟨b, o, none⟩) 1 c] 143)).alloc (.cells #[.int .i64 5, .slice (some ⟨b, o, none⟩) 1 c] 143)) = w0
 intro HL HB0
 have GC : Hid (∀ W, Off Nob w0 W → W.cell? ⟨w.heap.size, 0, none⟩ = some (.int .i64 5) ∧ W.cell? ⟨w.heap.size, 1, none⟩ = some (.slice (some ⟨b, o, none⟩) 1 c) ∧ W.cell? ⟨b, o, none⟩ = some (.int .i64 1) ∧ W.cell? ⟨b, o + 1, none⟩ = some (.string ⟨#[97, 98]⟩) ∧ W.cell? ⟨b, o + 2, none⟩ = some (.int .u64 0) ∧ W.cell? ⟨b, o + 3, none⟩ = some (.int .u64 0) ∧ W.cell? ⟨b, o + 4, none⟩ = some (.int .u64 0) ∧ W.cell? ⟨b, o + 5, none⟩ = some (.int .u64 0) ∧ W.cell? ⟨b, o + 6, none⟩ = some (.int .i64 0) ∧ W.cell? ⟨b, o + 7, none⟩ = some (.int .i64 0)) := hID (fun W ho => by
  have h := HB0.out.1.to (ho.block _ HB0.out.1.lt (fun h => h))
  have k := HC.out W (HB0.out.2.also ho)
  exact ⟨h.cell 0, h.cell 1, k 0 _ rfl, k 1 _ rfl, k 2 _ rfl, k 3 _ rfl, k 4 _ rfl, k 5 _ rfl, k 6 _ rfl, k 7 _ rfl⟩)
 have X0 : Hid (Off Nob w0 w0) := hID (Off.refl _ _)
 obtain ⟨t0, t1, c0, c1, c2, c3, c4, c5, c6, c7⟩ := GC.out _ X0.out
 go_wp2_with fail
 refine (co_ck12_a _ _ _ HL.out (HV.out.keepT HB0.out.2)).mono ?_
 rintro e w1 ⟨rfl, o1⟩
 have X1 := hID (X0.out.also o1)
 clear HL
 clear o1 X0
 clear t0 t1 c0 c1 c2 c3 c4 c5 c6 c7
 obtain ⟨t0, t1, c0, c1, c2, c3, c4, c5, c6, c7⟩ := GC.out _ X1.out
 go_wp2_with fail
 refine wp_loop_rounds 2 ?_
 rw [rounds_succ]
 clear t0 t1 c0 c1 c2 c3 c4 c5 c6 c7
 obtain ⟨t0, t1, c0, c1, c2, c3, c4, c5, c6, c7⟩ := GC.out _ X1.out
 go_wp2_with fail
 refine (co_element_a _ _ (HV.out.keepT (HB0.out.2.also X1.out))).mono ?_
 rintro e w2 ⟨rfl, o1⟩
 have X2 := hID (X1.out.also o1)
 clear o1 X1
 clear t0 t1 c0 c1 c2 c3 c4 c5 c6 c7
 obtain ⟨t0, t1, c0, c1, c2, c3, c4, c5, c6, c7⟩ := GC.out _ X2.out
 go_wp2_with fail
 rw [rounds_succ]
 clear t0 t1 c0 c1 c2 c3 c4 c5 c6 c7
 obtain ⟨t0, t1, c0, c1, c2, c3, c4, c5, c6, c7⟩ := GC.out _ X2.out
 go_wp2_with fail
 refine (co_choices_a _ _ (HV.out.keepT (HB0.out.2.also X2.out))).mono ?_
 rintro e w3 ⟨rfl, o1⟩
 have X3 := hID (X2.out.also o1)
 clear o1 X2
 clear t0 t1 c0 c1 c2 c3 c4 c5 c6 c7
 obtain ⟨t0, t1, c0, c1, c2, c3, c4, c5, c6, c7⟩ := GC.out _ X3.out
 go_wp2_with fail
 refine (co_lengths_a _ _ (HV.out.keepT (HB0.out.2.also X3.out))).mono ?_
 rintro e w4 ⟨v1, rfl, hr, o1⟩
 have X4 := hID (X3.out.also o1)
 have HT := hID hr
 obtain ⟨AA, cc, rfl, _⟩ := hr.form
 clear hr
 clear o1 X3
 clear t0 t1 c0 c1 c2 c3 c4 c5 c6 c7
 obtain ⟨t0, t1, c0, c1, c2, c3, c4, c5, c6, c7⟩ := GC.out _ X4.out
 go_wp2_with fail
 refine Calls.mono (R := RetV _ (.int .i64 2)) (co_sum1 2 (by decide) _ _ HT.out) ?_
 rintro e w5 ⟨rfl, o1⟩
 have X5 := hID (X4.out.also o1)
 clear HT
 clear o1 X4
 clear t0 t1 c0 c1 c2 c3 c4 c5 c6 c7
 obtain ⟨t0, t1, c0, c1, c2, c3, c4, c5, c6, c7⟩ := GC.out _ X5.out
 go_wp2_with fail
 go_ret2
 exact ⟨rfl, HB0.out.2.also X5.out⟩
set_option maxHeartbeats 2000000 in
theorem co_choices_b (w : World) (v : Value) (hv : Rd w (fun _ => True) 8 v 1 el_b) : Calls Tryz.prog 146 #[.agg #[.int .i64 9, v]] w (RetV w (.int .i64 1)) := by
 obtain ⟨b, o, c, rfl, hc⟩ := hv.cellsT (by decide)
 have HC := hID hc
 clear hc hv
 go_enter Tryz.func146, Tryz.ntmps146
 go_wp2_with fail
 have HB0 : Hid (Blk (w.alloc (.cells #[.int .i64 9, .slice (some ⟨b, o, none⟩) 1 c] 143)) w.heap.size 143 #[.int .i64 9, .slice (some ⟨b, o, none⟩) 1 c] ∧ Off Nob w (w.alloc (.cells #[.int .i64 9, .slice (some ⟨b, o, none⟩) 1 c] 143))) := hID ⟨Blk.new _ _ _, Off.alloc (Off.refl _ _) _⟩
 revert HB0
 generalize (w.alloc (.cells #[.int .i64 9, .slice (some ⟨b, o, none⟩) 1 c] 143)) = w0
 intro HB0
 have GC : Hid (∀ W, Off Nob w0 W → W.cell? ⟨w.heap.size, 0, none⟩ = some (.int .i64 9) ∧ W.cell? ⟨w.heap.size, 1, none⟩ = some (.slice (some ⟨b, o, none⟩) 1 c) ∧ W.cell? ⟨b, o, none⟩ = some (.int .i64 3) ∧ W.cell? ⟨b, o + 1, none⟩ = some (.string ⟨#[]⟩) ∧ W.cell? ⟨b, o + 2, none⟩ = some (.int .u64 0) ∧ W.cell? ⟨b, o + 3, none⟩ = some (.int .u64 25769803776) ∧ W.cell? ⟨b, o + 4, none⟩ = some (.int .u64 0) ∧ W.cell? ⟨b, o + 5, none⟩ = some (.int .u64 0) ∧ W.cell? ⟨b, o + 6, none⟩ = some (.int .i64 0) ∧ W.cell? ⟨b, o + 7, none⟩ = some (.int .i64 0)) := hID (fun W ho => by
  have h := HB0.out.1.to (ho.block _ HB0.out.1.lt (fun h => h))
  have k := HC.out W (HB0.out.2.also ho)
  exact ⟨h.cell 0, h.cell 1, k 0 _ rfl, k 1 _ rfl, k 2 _ rfl, k 3 _ rfl, k 4 _ rfl, k 5 _ rfl, k 6 _ rfl, k 7 _ rfl⟩)
 have X0 : Hid (Off Nob w0 w0) := hID (Off.refl _ _)
 obtain ⟨t0, t1, c0, c1, c2, c3, c4, c5, c6, c7⟩ := GC.out _ X0.out
 go_wp2_with fail
 refine wp_loop_rounds 2 ?_
 rw [rounds_succ]
 clear t0 t1 c0 c1 c2 c3 c4 c5 c6 c7
 obtain ⟨t0, t1, c0, c1, c2, c3, c4, c5, c6, c7⟩ := GC.out _ X0.out
 go_wp2_with fail
 rw [rounds_succ]
 clear t0 t1 c0 c1 c2 c3 c4 c5 c6 c7
 obtain ⟨t0, t1, c0, c1, c2, c3, c4, c5, c6, c7⟩ := GC.out _ X0.out
 go_wp2_with fail
 go_ret
 exact ⟨rfl, HB0.out.2.also X0.out⟩
set_option maxHeartbeats 4000000 in
theorem co_alone_b (w : World) (v : Value) (hv : Rd w (fun _ => True) 8 v 1 el_b) : Calls Tryz.prog 120 #[.agg #[.int .i64 9, v]] w (RetV w (.tuple #[.int .i64 0, .int .i64 0])) := by
 have HV0 := hID hv
 obtain ⟨b, o, c, rfl, hc⟩ := hv.cellsT (by decide)
 have HV := HV0
 have HC := hID hc
 clear hc hv HV0
 go_enter Tryz.func120, Tryz.ntmps120
 go_wp2_with fail
 have HL : Hid (Rd ((w.alloc (.cells #[.int .i64 9, .slice (some ⟨b, o, none⟩) 1 c] 143)).alloc (.cells #[.int .i64 9, .slice (some ⟨b, o, none⟩) 1 c] 143)) (fun _ => True) 2 (.slice (some ⟨w.heap.size + 1, 0, none⟩) 1 1) 1 [.int .i64 9, .slice (some ⟨b, o, none⟩) 1 c]) := hID (by have := Rd.newT (w.alloc (.cells #[.int .i64 9, .slice (some ⟨b, o, none⟩) 1 c] 143)) 143 [.int .i64 9, .slice (some ⟨b, o, none⟩) 1 c] 2 1 rfl (by decide); simpa using this)
 have HB0 : Hid (Blk ((w.alloc (.cells #[.int .i64 9, .slice (some ⟨b, o, none⟩) 1 c] 143)).alloc (.cells #[.int .i64 9, .slice (some ⟨b, o, none⟩) 1 c] 143)) w.heap.size 143 #[.int .i64 9, .slice (some ⟨b, o, none⟩) 1 c] ∧ Off Nob w ((w.alloc (.cells #[.int .i64 9, .slice (some ⟨b, o, none⟩) 1 c] 143)).alloc (.cells #[.int .i64 9, .slice (some ⟨b, o, none⟩) 1 c] 143))) := hID ⟨(Blk.new _ _ _).alloc _, Off.alloc (Off.alloc (Off.refl _ _) _) _⟩
 revert HB0 HL
 generalize ((w.alloc (.cells #[.int .i64 9, .slice (some ⟨b, o, none⟩) 1 c] 143)).alloc (.cells #[.int .i64 9, .slice (some ⟨b, o, none⟩) 1 c] 143)) = w0
 intro HL HB0
 have GC : Hid (∀ W, Off Nob w0 W → W.cell? ⟨w.heap.size, 0, none⟩ = some (.int .i64 9) ∧ W.cell? ⟨w.heap.size, 1, none⟩ = some (.slice (some ⟨b, o, none⟩) 1 c) ∧ W.cell? ⟨b, o, none⟩ = some (.int .i64 3) ∧ W.cell? ⟨b, o + 1, none⟩ = some (.string ⟨#[]⟩) ∧ W.cell? ⟨b, o + 2, none⟩ = some (.int .u64 0) ∧ W.cell? ⟨b, o + 3, none⟩ = some (.int .u64 25769803776) ∧ W.cell? ⟨b, o + 4, none⟩ = some (.int .u64 0) ∧ W.cell? ⟨b, o + 5, none⟩ = some (.int .u64 0) ∧ W.cell? ⟨b, o + 6, none⟩ = some (.int .i64 0) ∧ W.cell? ⟨b, o + 7, none⟩ = some (.int .i64 0)) := hID (fun W ho => by
  have h := HB0.out.1.to (ho.block _ HB0.out.1.lt (fun h => h))
  have k := HC.out W (HB0.out.2.also ho)
  exact ⟨h.cell 0, h.cell 1, k 0 _ rfl, k 1 _ rfl, k 2 _ rfl, k 3 _ rfl, k 4 _ rfl, k 5 _ rfl, k 6 _ rfl, k 7 _ rfl⟩)
 have X0 : Hid (Off Nob w0 w0) := hID (Off.refl _ _)
 obtain ⟨t0, t1, c0, c1, c2, c3, c4, c5, c6, c7⟩ := GC.out _ X0.out
 go_wp2_with fail
 refine (co_ck12_b _ _ _ HL.out (HV.out.keepT HB0.out.2)).mono ?_
 rintro e w1 ⟨rfl, o1⟩
 have X1 := hID (X0.out.also o1)
 clear HL
 clear o1 X0
 clear t0 t1 c0 c1 c2 c3 c4 c5 c6 c7
 obtain ⟨t0, t1, c0, c1, c2, c3, c4, c5, c6, c7⟩ := GC.out _ X1.out
 go_wp2_with fail
 refine wp_loop_rounds 2 ?_
 rw [rounds_succ]
 clear t0 t1 c0 c1 c2 c3 c4 c5 c6 c7
 obtain ⟨t0, t1, c0, c1, c2, c3, c4, c5, c6, c7⟩ := GC.out _ X1.out
 go_wp2_with fail
 refine (co_element_b _ _ (HV.out.keepT (HB0.out.2.also X1.out))).mono ?_
 rintro e w2 ⟨rfl, o1⟩
 have X2 := hID (X1.out.also o1)
 clear o1 X1
 clear t0 t1 c0 c1 c2 c3 c4 c5 c6 c7
 obtain ⟨t0, t1, c0, c1, c2, c3, c4, c5, c6, c7⟩ := GC.out _ X2.out
 go_wp2_with fail
 rw [rounds_succ]
 clear t0 t1 c0 c1 c2 c3 c4 c5 c6 c7
 obtain ⟨t0, t1, c0, c1, c2, c3, c4, c5, c6, c7⟩ := GC.out _ X2.out
 go_wp2_with fail
 refine (co_choices_b _ _ (HV.out.keepT (HB0.out.2.also X2.out))).mono ?_
 rintro e w3 ⟨rfl, o1⟩
 have X3 := hID (X2.out.also o1)
 clear o1 X2
 clear t0 t1 c0 c1 c2 c3 c4 c5 c6 c7
 obtain ⟨t0, t1, c0, c1, c2, c3, c4, c5, c6, c7⟩ := GC.out _ X3.out
 go_wp2_with fail
 refine (co_lengths_b _ _ (HV.out.keepT (HB0.out.2.also X3.out))).mono ?_
 rintro e w4 ⟨v1, rfl, hr, o1⟩
 have X4 := hID (X3.out.also o1)
 have HT := hID hr
 obtain ⟨AA, cc, rfl, _⟩ := hr.form
 clear hr
 clear o1 X3
 clear t0 t1 c0 c1 c2 c3 c4 c5 c6 c7
 obtain ⟨t0, t1, c0, c1, c2, c3, c4, c5, c6, c7⟩ := GC.out _ X4.out
 go_wp2_with fail
 refine Calls.mono (R := RetV _ (.int .i64 1)) (co_sum1 1 (by decide) _ _ HT.out) ?_
 rintro e w5 ⟨rfl, o1⟩
 have X5 := hID (X4.out.also o1)
 clear HT
 clear o1 X4
 clear t0 t1 c0 c1 c2 c3 c4 c5 c6 c7
 obtain ⟨t0, t1, c0, c1, c2, c3, c4, c5, c6, c7⟩ := GC.out _ X5.out
 go_wp2_with fail
 go_ret2
 exact ⟨rfl, HB0.out.2.also X5.out⟩
set_option maxHeartbeats 8000000 in
theorem co_ck13_ab (w : World) (v va vb : Value) (hv : Rd w (fun _ => True) 2 v 2 [.int .i64 5, va, .int .i64 9, vb]) (ha : Rd w (fun _ => True) 8 va 1 el_a) (hb : Rd w (fun _ => True) 8 vb 1 el_b) : Calls Tryz.prog 81 #[v] w (RetV w (.tuple #[.int .i64 0, .int .i64 0, .int .i64 0])) := by
 have HV := hID hv
 have Ha := hID ha
 have Hb := hID hb
 obtain ⟨b, o, c, rfl, hc⟩ := hv.cellsT (by decide)
 have HC := hID hc
 clear hc hv ha hb
 go_enter Tryz.func81, Tryz.ntmps81
 have GC : Hid (∀ W, Off Nob w W → W.cell? ⟨b, o, none⟩ = some (.int .i64 5) ∧ W.cell? ⟨b, o + 1, none⟩ = some (va) ∧ W.cell? ⟨b, o + 2, none⟩ = some (.int .i64 9) ∧ W.cell? ⟨b, o + 3, none⟩ = some (vb)) := hID (fun W ho => ⟨HC.out W ho 0 _ rfl, HC.out W ho 1 _ rfl, HC.out W ho 2 _ rfl, HC.out W ho 3 _ rfl⟩)
 have X0 : Hid (Off Nob w w) := hID (Off.refl _ _)
 obtain ⟨c0, c1, c2, c3⟩ := GC.out _ X0.out
 go_wp2_with fail
 refine (co_ck12_ab _ _ _ _ HV.out Ha.out Hb.out).mono ?_
 rintro e w1 ⟨rfl, o1⟩
 have X1 := hID (X0.out.also o1)
 clear o1 X0
 clear c0 c1 c2 c3
 obtain ⟨c0, c1, c2, c3⟩ := GC.out _ X1.out
 go_wp2_with fail
 refine wp_loop_rounds 3 ?_
 rw [rounds_succ]
 clear c0 c1 c2 c3
 obtain ⟨c0, c1, c2, c3⟩ := GC.out _ X1.out
 go_wp2_with fail
 refine (co_alone_a _ _ (Ha.out.keepT X1.out)).mono ?_
 rintro e w2 ⟨rfl, o1⟩
 have X2 := hID (X1.out.also o1)
 clear o1 X1
 clear c0 c1 c2 c3
 obtain ⟨c0, c1, c2, c3⟩ := GC.out _ X2.out
 go_wp2_with fail
 refine wp_loop_rounds 1 ?_
 rw [rounds_succ]
 clear c0 c1 c2 c3
 obtain ⟨c0, c1, c2, c3⟩ := GC.out _ X2.out
 go_wp2_with fail
 go_quiet (fail)
 have X3 := hID (X2.out.drewN nq)
 clear X2
 clear c0 c1 c2 c3
 generalize w2.drewN nq = w3 at *
 obtain ⟨c0, c1, c2, c3⟩ := GC.out _ X3.out
 go_wp2_with fail
 refine (co_lengths_a _ _ (Ha.out.keepT X3.out)).mono ?_
 rintro e w4 ⟨v1, rfl, hr, o1⟩
 have X4 := hID (X3.out.also o1)
 have HT := hID hr
 obtain ⟨AA, cc, rfl, _⟩ := hr.form
 clear hr
 clear o1 X3
 clear c0 c1 c2 c3
 obtain ⟨c0, c1, c2, c3⟩ := GC.out _ X4.out
 go_wp2_with fail
 refine Calls.mono (R := RetV _ (.int .i64 2)) (co_sum1 2 (by decide) _ _ HT.out) ?_
 rintro e w5 ⟨rfl, o1⟩
 have X5 := hID (X4.out.also o1)
 clear HT
 clear o1 X4
 clear c0 c1 c2 c3
 obtain ⟨c0, c1, c2, c3⟩ := GC.out _ X5.out
 go_wp2_with fail
 rw [rounds_succ]
 clear c0 c1 c2 c3
 obtain ⟨c0, c1, c2, c3⟩ := GC.out _ X5.out
 go_wp2_with fail
 refine (co_alone_b _ _ (Hb.out.keepT X5.out)).mono ?_
 rintro e w6 ⟨rfl, o1⟩
 have X6 := hID (X5.out.also o1)
 clear o1 X5
 clear c0 c1 c2 c3
 obtain ⟨c0, c1, c2, c3⟩ := GC.out _ X6.out
 go_wp2_with fail
 refine wp_loop_rounds 2 ?_
 rw [rounds_succ]
 clear c0 c1 c2 c3
 obtain ⟨c0, c1, c2, c3⟩ := GC.out _ X6.out
 go_wp2_with fail
 go_quiet (fail)
 have X7 := hID (X6.out.drewN nq)
 clear X6
 clear c0 c1 c2 c3
 generalize w6.drewN nq = w7 at *
 obtain ⟨c0, c1, c2, c3⟩ := GC.out _ X7.out
 go_wp2_with fail
 rw [rounds_succ]
 clear c0 c1 c2 c3
 obtain ⟨c0, c1, c2, c3⟩ := GC.out _ X7.out
 go_wp2_with fail
 go_quiet (fail)
 have X8 := hID (X7.out.drewN nq)
 clear X7
 clear c0 c1 c2 c3
 generalize w7.drewN nq = w8 at *
 obtain ⟨c0, c1, c2, c3⟩ := GC.out _ X8.out
 go_wp2_with fail
 refine (co_lengths_b _ _ (Hb.out.keepT X8.out)).mono ?_
 rintro e w9 ⟨v1, rfl, hr, o1⟩
 have X9 := hID (X8.out.also o1)
 have HT := hID hr
 obtain ⟨AA, cc, rfl, _⟩ := hr.form
 clear hr
 clear o1 X8
 clear c0 c1 c2 c3
 obtain ⟨c0, c1, c2, c3⟩ := GC.out _ X9.out
 go_wp2_with fail
 refine Calls.mono (R := RetV _ (.int .i64 1)) (co_sum1 1 (by decide) _ _ HT.out) ?_
 rintro e w10 ⟨rfl, o1⟩
 have X10 := hID (X9.out.also o1)
 clear HT
 clear o1 X9
 clear c0 c1 c2 c3
 obtain ⟨c0, c1, c2, c3⟩ := GC.out _ X10.out
 go_wp2_with fail
 rw [rounds_succ]
 clear c0 c1 c2 c3
 obtain ⟨c0, c1, c2, c3⟩ := GC.out _ X10.out
 go_wp2_with fail
 go_ret3
 exact ⟨rfl, X10.out⟩
end Go.Proofs.YtkflicifngohcaaGreatDoor

namespace Go.Proofs.YtkflicifngohcaaGreatDoor
open Go.RowKit
set_option maxRecDepth 100000
def pa_a : List Value := [.bool false, .int .u64 0, .int .u64 8589934592, .int .u64 0, .int .u64 0, .int .i64 0, .int .i64 0, .bool false, .int .u64 0, .int .u64 17179869184, .int .u64 0, .int .u64 0, .int .i64 0, .int .i64 0]
set_option maxHeartbeats 2000000 in
theorem co_pcheck_a (w : World) (v : Value) (hv : Rd w (fun _ => True) 7 v 2 pa_a) : Calls Tryz.prog 124 #[v] w (RetV w (.tuple #[.int .i64 0, .int .i64 0])) := by
 obtain ⟨b, o, c, rfl, hc⟩ := hv.cellsT (by decide)
 have GC : Hid (∀ W, Off Nob w W → W.cell? ⟨b, o, none⟩ = some (.bool false) ∧ W.cell? ⟨b, o + 1, none⟩ = some (.int .u64 0) ∧ W.cell? ⟨b, o + 2, none⟩ = some (.int .u64 8589934592) ∧ W.cell? ⟨b, o + 3, none⟩ = some (.int .u64 0) ∧ W.cell? ⟨b, o + 4, none⟩ = some (.int .u64 0) ∧ W.cell? ⟨b, o + 5, none⟩ = some (.int .i64 0) ∧ W.cell? ⟨b, o + 6, none⟩ = some (.int .i64 0) ∧ W.cell? ⟨b, o + 7, none⟩ = some (.bool false) ∧ W.cell? ⟨b, o + 8, none⟩ = some (.int .u64 0) ∧ W.cell? ⟨b, o + 9, none⟩ = some (.int .u64 17179869184) ∧ W.cell? ⟨b, o + 10, none⟩ = some (.int .u64 0) ∧ W.cell? ⟨b, o + 11, none⟩ = some (.int .u64 0) ∧ W.cell? ⟨b, o + 12, none⟩ = some (.int .i64 0) ∧ W.cell? ⟨b, o + 13, none⟩ = some (.int .i64 0)) := hID (fun W ho => ⟨hc W ho 0 _ rfl, hc W ho 1 _ rfl, hc W ho 2 _ rfl, hc W ho 3 _ rfl, hc W ho 4 _ rfl, hc W ho 5 _ rfl, hc W ho 6 _ rfl, hc W ho 7 _ rfl, hc W ho 8 _ rfl, hc W ho 9 _ rfl, hc W ho 10 _ rfl, hc W ho 11 _ rfl, hc W ho 12 _ rfl, hc W ho 13 _ rfl⟩)
 clear hc hv
 go_enter Tryz.func124, Tryz.ntmps124
 have X0 : Hid (Off Nob w w) := hID (Off.refl _ _)
 obtain ⟨c0, c1, c2, c3, c4, c5, c6, c7, c8, c9, c10, c11, c12, c13⟩ := GC.out _ X0.out
 go_wp2_with fail
 refine wp_loop_rounds 3 ?_
 rw [rounds_succ]
 clear c0 c1 c2 c3 c4 c5 c6 c7 c8 c9 c10 c11 c12 c13
 obtain ⟨c0, c1, c2, c3, c4, c5, c6, c7, c8, c9, c10, c11, c12, c13⟩ := GC.out _ X0.out
 go_wp2_with fail
 have X1 := hID (X0.out.alloc (.cells #[.bool false, .int .u64 0, .int .u64 8589934592, .int .u64 0, .int .u64 0, .int .i64 0, .int .i64 0] 197))
 clear X0
 clear c0 c1 c2 c3 c4 c5 c6 c7 c8 c9 c10 c11 c12 c13
 generalize w.alloc (.cells #[.bool false, .int .u64 0, .int .u64 8589934592, .int .u64 0, .int .u64 0, .int .i64 0, .int .i64 0] 197) = w1 at *
 rw [rounds_succ]
 obtain ⟨c0, c1, c2, c3, c4, c5, c6, c7, c8, c9, c10, c11, c12, c13⟩ := GC.out _ X1.out
 go_wp2_with fail
 have X2 := hID (X1.out.alloc (.cells #[.bool false, .int .u64 0, .int .u64 17179869184, .int .u64 0, .int .u64 0, .int .i64 0, .int .i64 0] 197))
 clear X1
 clear c0 c1 c2 c3 c4 c5 c6 c7 c8 c9 c10 c11 c12 c13
 generalize w1.alloc (.cells #[.bool false, .int .u64 0, .int .u64 17179869184, .int .u64 0, .int .u64 0, .int .i64 0, .int .i64 0] 197) = w2 at *
 rw [rounds_succ]
 obtain ⟨c0, c1, c2, c3, c4, c5, c6, c7, c8, c9, c10, c11, c12, c13⟩ := GC.out _ X2.out
 go_wp2_with fail
 go_ret2
 exact ⟨rfl, X2.out⟩
def pa_b : List Value := [.bool false, .int .u64 0, .int .u64 25769803776, .int .u64 0, .int .u64 0, .int .i64 0, .int .i64 0]
set_option maxHeartbeats 2000000 in
theorem co_pcheck_b (w : World) (v : Value) (hv : Rd w (fun _ => True) 7 v 1 pa_b) : Calls Tryz.prog 124 #[v] w (RetV w (.tuple #[.int .i64 0, .int .i64 0])) := by
 obtain ⟨b, o, c, rfl, hc⟩ := hv.cellsT (by decide)
 have GC : Hid (∀ W, Off Nob w W → W.cell? ⟨b, o, none⟩ = some (.bool false) ∧ W.cell? ⟨b, o + 1, none⟩ = some (.int .u64 0) ∧ W.cell? ⟨b, o + 2, none⟩ = some (.int .u64 25769803776) ∧ W.cell? ⟨b, o + 3, none⟩ = some (.int .u64 0) ∧ W.cell? ⟨b, o + 4, none⟩ = some (.int .u64 0) ∧ W.cell? ⟨b, o + 5, none⟩ = some (.int .i64 0) ∧ W.cell? ⟨b, o + 6, none⟩ = some (.int .i64 0)) := hID (fun W ho => ⟨hc W ho 0 _ rfl, hc W ho 1 _ rfl, hc W ho 2 _ rfl, hc W ho 3 _ rfl, hc W ho 4 _ rfl, hc W ho 5 _ rfl, hc W ho 6 _ rfl⟩)
 clear hc hv
 go_enter Tryz.func124, Tryz.ntmps124
 have X0 : Hid (Off Nob w w) := hID (Off.refl _ _)
 obtain ⟨c0, c1, c2, c3, c4, c5, c6⟩ := GC.out _ X0.out
 go_wp2_with fail
 refine wp_loop_rounds 2 ?_
 rw [rounds_succ]
 clear c0 c1 c2 c3 c4 c5 c6
 obtain ⟨c0, c1, c2, c3, c4, c5, c6⟩ := GC.out _ X0.out
 go_wp2_with fail
 have X1 := hID (X0.out.alloc (.cells #[.bool false, .int .u64 0, .int .u64 25769803776, .int .u64 0, .int .u64 0, .int .i64 0, .int .i64 0] 197))
 clear X0
 clear c0 c1 c2 c3 c4 c5 c6
 generalize w.alloc (.cells #[.bool false, .int .u64 0, .int .u64 25769803776, .int .u64 0, .int .u64 0, .int .i64 0, .int .i64 0] 197) = w1 at *
 rw [rounds_succ]
 obtain ⟨c0, c1, c2, c3, c4, c5, c6⟩ := GC.out _ X1.out
 go_wp2_with fail
 go_ret2
 exact ⟨rfl, X1.out⟩
theorem Tryz.infoPa : (Tryz.prog.info? 197).map (fun i => (i.zero, i.size, i.bytes)) = some (some (.agg #[.bool false, .int .u64 0, .int .u64 0, .int .u64 0, .int .u64 0, .int .i64 0, .int .i64 0]), 7, 56) := by kernel_rfl
set_option maxHeartbeats 8000000 in
theorem co_pof_a (w : World) (v : Value) (hv : Rd w (fun _ => True) 8 v 1 el_a) : Calls Tryz.prog 82 #[.agg #[.int .i64 5, v]] w (fun e w' => ∃ u, e = .returned (.tuple #[u, .int .i64 0]) ∧ Rd w' (fun k => w.heap.size ≤ k) 7 u 2 pa_a ∧ Off Nob w w') := by
 obtain ⟨i0, hi, hz0, hz1, hz2⟩ := info_parts Tryz.infoPa
 have hx0 : (⟨#[97, 98]⟩ : ByteArray)[0]'(by decide) = 97 := rfl
 have hx1 : (⟨#[97, 98]⟩ : ByteArray)[1]'(by decide) = 98 := rfl
 obtain ⟨b, o, c, rfl, hc⟩ := hv.cellsT (by decide)
 have HC := hID hc
 clear hc hv
 go_enter Tryz.func82, Tryz.ntmps82
 go_wp2_with fail
 have HB0 : Hid (Blk (w.alloc (.cells #[.int .i64 5, .slice (some ⟨b, o, none⟩) 1 c] 143)) w.heap.size 143 #[.int .i64 5, .slice (some ⟨b, o, none⟩) 1 c] ∧ Off Nob w (w.alloc (.cells #[.int .i64 5, .slice (some ⟨b, o, none⟩) 1 c] 143))) := hID ⟨Blk.new _ _ _, Off.alloc (Off.refl _ _) _⟩
 revert HB0
 generalize (w.alloc (.cells #[.int .i64 5, .slice (some ⟨b, o, none⟩) 1 c] 143)) = w0
 intro HB0
 refine wp_loop_rounds 2 ?_
 rw [rounds_succ]
 have t0 := HB0.out.1.cell 0
 have t1 := HB0.out.1.cell 1
 simp only [List.getElem?_toArray, List.getElem?_cons_succ, List.getElem?_cons_zero] at t0 t1
 have c0 := HC.out _ HB0.out.2 0 _ rfl
 have c1 := HC.out _ HB0.out.2 1 _ rfl
 have c2 := HC.out _ HB0.out.2 2 _ rfl
 have c3 := HC.out _ HB0.out.2 3 _ rfl
 have c4 := HC.out _ HB0.out.2 4 _ rfl
 have c5 := HC.out _ HB0.out.2 5 _ rfl
 have c6 := HC.out _ HB0.out.2 6 _ rfl
 have c7 := HC.out _ HB0.out.2 7 _ rfl
 simp only [Nat.add_zero] at c0
 go_wp2_with fail
 have GC : Hid (∀ W, Off Nob (w0.alloc (.cells #[.int .i64 1, .string ⟨#[97, 98]⟩, .int .u64 0, .int .u64 0, .int .u64 0, .int .u64 0, .int .i64 0, .int .i64 0] 148)) W → W.cell? ⟨w.heap.size, 0, none⟩ = some (.int .i64 5) ∧ W.cell? ⟨w.heap.size, 1, none⟩ = some (.slice (some ⟨b, o, none⟩) 1 c) ∧ W.cell? ⟨w0.heap.size, 0, none⟩ = some (.int .i64 1) ∧ W.cell? ⟨w0.heap.size, 1, none⟩ = some (.string ⟨#[97, 98]⟩)) := hID (fun W ho => by
  have h := (HB0.out.1.alloc (.cells #[.int .i64 1, .string ⟨#[97, 98]⟩, .int .u64 0, .int .u64 0, .int .u64 0, .int .u64 0, .int .i64 0, .int .i64 0] 148)).to (ho.block _ (HB0.out.1.alloc _).lt (fun h => h))
  have k := Blk.to (Blk.new w0 148 #[.int .i64 1, .string ⟨#[97, 98]⟩, .int .u64 0, .int .u64 0, .int .u64 0, .int .u64 0, .int .i64 0, .int .i64 0]) (ho.block _ (Blk.new w0 148 #[.int .i64 1, .string ⟨#[97, 98]⟩, .int .u64 0, .int .u64 0, .int .u64 0, .int .u64 0, .int .i64 0, .int .i64 0]).lt (fun h => h))
  exact ⟨h.cell 0, h.cell 1, k.cell 0, k.cell 1⟩)
 have Y1 : Hid (Off Nob w (w0.alloc (.cells #[.int .i64 1, .string ⟨#[97, 98]⟩, .int .u64 0, .int .u64 0, .int .u64 0, .int .u64 0, .int .i64 0, .int .i64 0] 148))) := hID (HB0.out.2.alloc _)
 clear t0 t1 c0 c1 c2 c3 c4 c5 c6 c7
 revert GC Y1
 generalize (w0.alloc (.cells #[.int .i64 1, .string ⟨#[97, 98]⟩, .int .u64 0, .int .u64 0, .int .u64 0, .int .u64 0, .int .i64 0, .int .i64 0] 148)) = w1
 intro GC Y1
 have X1 : Hid (Off Nob w1 w1) := hID (Off.refl _ _)
 refine wp_loop_rounds 3 ?_
 rw [rounds_succ]
 obtain ⟨t0, t1, x0, x1⟩ := GC.out _ X1.out
 go_wp2_with fail
 refine (co_of_a _ _ (Rd.newT w1 5 [.int .u8 97] 1 1 rfl (by decide))).mono ?_
 rintro e w2 ⟨rfl, o1⟩
 have X2 := hID ((X1.out.alloc (.cells #[.int .u8 97] 5)).also o1)
 have OW2 := hID (OwnL.nilAt (Y1.out.also X2.out) 197 7)
 clear o1 X1 t0 t1 x0 x1
 obtain ⟨t0, t1, x0, x1⟩ := GC.out _ (X2.out.alloc (.cells #[.int .u64 0, .int .u64 8589934592, .int .u64 0, .int .u64 0] 146))
 go_wp2_with (at_builtin; refine @wpList_append_lies _ _ _ _ _ _ _ rfl _ _ 138 rfl w.heap.size 197 i0 (.agg #[.bool false, .int .u64 0, .int .u64 0, .int .u64 0, .int .u64 0, .int .i64 0, .int .i64 0]) 7 56 Tryz.underlying138 hi hz0 hz1 hz2 rfl (by decide) (.slice none 0 0) 0 [] rfl ((OW2.out.off (Off.alloc (Off.refl Nob w2) (.cells #[.int .u64 0, .int .u64 8589934592, .int .u64 0, .int .u64 0] 146))).1.alloc _) ⟨w2.heap.size + 1, 0, none⟩ 1 1 [.bool false, .int .u64 0, .int .u64 8589934592, .int .u64 0, .int .u64 0, .int .i64 0, .int .i64 0] rfl rfl ?c1 (by decide) (by decide) (by decide) (by decide) (by have := OW2.out.2.size; simp; omega) _ rfl ?_)
 case c1 =>
  intro j u hj
  have := cell_lit (w2.alloc (.cells #[.int .u64 0, .int .u64 8589934592, .int .u64 0, .int .u64 0] 146)) [.bool false, .int .u64 0, .int .u64 8589934592, .int .u64 0, .int .u64 0, .int .i64 0, .int .i64 0] 197 j u hj
  simpa using this
 intro g1 cap1 w3 hown hgrow hat hlt
 have OW3 := hID ((OW2.out.off (Off.alloc (Off.refl Nob w2) (.cells #[.int .u64 0, .int .u64 8589934592, .int .u64 0, .int .u64 0] 146))).grown (Off.alloc (Off.refl _ _) (.cells #[.bool false, .int .u64 0, .int .u64 8589934592, .int .u64 0, .int .u64 0, .int .i64 0, .int .i64 0] 197)) hown hgrow)
 have X3 : Hid (Off Nob w1 w3) := hID ((X2.out.alloc (.cells #[.int .u64 0, .int .u64 8589934592, .int .u64 0, .int .u64 0] 146)).alloc (.cells #[.bool false, .int .u64 0, .int .u64 8589934592, .int .u64 0, .int .u64 0, .int .i64 0, .int .i64 0] 197) |>.grown hgrow (fun k hk => by cases hk))
 have KG : Hid (w1.heap.size ≤ g1) := hID (by
  rcases hat with h | h
  ·cases h
  ·have := X2.out.size
   rw [h]; simp; omega)
 clear hown hgrow hat hlt X2 OW2 t0 t1 x0 x1
 obtain ⟨t0, t1, x0, x1⟩ := GC.out _ X3.out
 go_wp2_with fail
 rw [rounds_succ]
 go_wp2_with fail
 refine (co_of_b _ _ (Rd.newT w3 5 [.int .u8 98] 1 1 rfl (by decide))).mono ?_
 rintro e w4 ⟨rfl, o1⟩
 have X4 := hID ((X3.out.alloc (.cells #[.int .u8 98] 5)).also o1)
 have OW4 := hID ((OW3.out.off (Off.alloc (Off.refl Nob w3) (.cells #[.int .u8 98] 5))).off o1)
 clear o1 X3 OW3 t0 t1 x0 x1
 obtain ⟨t0, t1, x0, x1⟩ := GC.out _ (X4.out.alloc (.cells #[.int .u64 0, .int .u64 17179869184, .int .u64 0, .int .u64 0] 146))
 go_wp2_with (at_builtin; refine @wpList_append_lies _ _ _ _ _ _ _ rfl _ _ 138 rfl w.heap.size 197 i0 (.agg #[.bool false, .int .u64 0, .int .u64 0, .int .u64 0, .int .u64 0, .int .i64 0, .int .i64 0]) 7 56 Tryz.underlying138 hi hz0 hz1 hz2 rfl (by decide) (.slice (some ⟨g1, 0, none⟩) (0 + 1) cap1) (0 + 1) ([] ++ [.bool false, .int .u64 0, .int .u64 8589934592, .int .u64 0, .int .u64 0, .int .i64 0, .int .i64 0]) rfl ((OW4.out.off (Off.alloc (Off.refl Nob w4) (.cells #[.int .u64 0, .int .u64 17179869184, .int .u64 0, .int .u64 0] 146))).1.alloc _) ⟨w4.heap.size + 1, 0, none⟩ 1 1 [.bool false, .int .u64 0, .int .u64 17179869184, .int .u64 0, .int .u64 0, .int .i64 0, .int .i64 0] rfl rfl ?c1 (by decide) (by decide) (by decide) (by decide) (by have := OW4.out.2.size; simp; omega) _ rfl ?_)
 case c1 =>
  intro j u hj
  have := cell_lit (w4.alloc (.cells #[.int .u64 0, .int .u64 17179869184, .int .u64 0, .int .u64 0] 146)) [.bool false, .int .u64 0, .int .u64 17179869184, .int .u64 0, .int .u64 0, .int .i64 0, .int .i64 0] 197 j u hj
  simpa using this
 intro g2 cap2 w5 hown hgrow hat hlt
 have OW5 := hID ((OW4.out.off (Off.alloc (Off.refl Nob w4) (.cells #[.int .u64 0, .int .u64 17179869184, .int .u64 0, .int .u64 0] 146))).grown (Off.alloc (Off.refl _ _) (.cells #[.bool false, .int .u64 0, .int .u64 17179869184, .int .u64 0, .int .u64 0, .int .i64 0, .int .i64 0] 197)) hown hgrow)
 have X5 : Hid (Off Nob w1 w5) := hID ((X4.out.alloc (.cells #[.int .u64 0, .int .u64 17179869184, .int .u64 0, .int .u64 0] 146)).alloc (.cells #[.bool false, .int .u64 0, .int .u64 17179869184, .int .u64 0, .int .u64 0, .int .i64 0, .int .i64 0] 197) |>.grown hgrow (fun k hk => .inr (by injection hk with hk; rw [← hk]; exact KG.out)))
 clear hown hgrow hat hlt X4 OW4 t0 t1 x0 x1
 obtain ⟨t0, t1, x0, x1⟩ := GC.out _ X5.out
 go_wp2_with fail
 rw [rounds_succ]
 go_wp2_with fail
 rw [rounds_succ]
 go_wp2_with fail
 refine (co_pcheck_a _ _ (show Rd w5 (fun _ => True) 7 _ 2 pa_a from OW5.out.rd)).mono ?_
 rintro e w6 ⟨rfl, o1⟩
 have OW6 := hID (OW5.out.off o1)
 clear o1
 go_wp2_with fail
 go_ret2
 exact ⟨_, rfl, Rd.own OW6.out.1 (fun k hk => (OW6.out.1.lt k hk).1), OW6.out.2⟩
set_option maxHeartbeats 8000000 in
theorem co_pof_b (w : World) (v : Value) (hv : Rd w (fun _ => True) 8 v 1 el_b) : Calls Tryz.prog 82 #[.agg #[.int .i64 9, v]] w (fun e w' => ∃ u, e = .returned (.tuple #[u, .int .i64 0]) ∧ Rd w' (fun k => w.heap.size ≤ k) 7 u 1 pa_b ∧ Off Nob w w') := by
 obtain ⟨i0, hi, hz0, hz1, hz2⟩ := info_parts Tryz.infoPa
 have hx0 : (⟨#[97, 98]⟩ : ByteArray)[0]'(by decide) = 97 := rfl
 have hx1 : (⟨#[97, 98]⟩ : ByteArray)[1]'(by decide) = 98 := rfl
 obtain ⟨b, o, c, rfl, hc⟩ := hv.cellsT (by decide)
 have HC := hID hc
 clear hc hv
 go_enter Tryz.func82, Tryz.ntmps82
 go_wp2_with fail
 have HB0 : Hid (Blk (w.alloc (.cells #[.int .i64 9, .slice (some ⟨b, o, none⟩) 1 c] 143)) w.heap.size 143 #[.int .i64 9, .slice (some ⟨b, o, none⟩) 1 c] ∧ Off Nob w (w.alloc (.cells #[.int .i64 9, .slice (some ⟨b, o, none⟩) 1 c] 143))) := hID ⟨Blk.new _ _ _, Off.alloc (Off.refl _ _) _⟩
 revert HB0
 generalize (w.alloc (.cells #[.int .i64 9, .slice (some ⟨b, o, none⟩) 1 c] 143)) = w0
 intro HB0
 refine wp_loop_rounds 2 ?_
 rw [rounds_succ]
 have t0 := HB0.out.1.cell 0
 have t1 := HB0.out.1.cell 1
 simp only [List.getElem?_toArray, List.getElem?_cons_succ, List.getElem?_cons_zero] at t0 t1
 have c0 := HC.out _ HB0.out.2 0 _ rfl
 have c1 := HC.out _ HB0.out.2 1 _ rfl
 have c2 := HC.out _ HB0.out.2 2 _ rfl
 have c3 := HC.out _ HB0.out.2 3 _ rfl
 have c4 := HC.out _ HB0.out.2 4 _ rfl
 have c5 := HC.out _ HB0.out.2 5 _ rfl
 have c6 := HC.out _ HB0.out.2 6 _ rfl
 have c7 := HC.out _ HB0.out.2 7 _ rfl
 simp only [Nat.add_zero] at c0
 go_wp2_with (at_builtin; refine @wpList_append_lies _ _ _ _ _ _ _ rfl _ _ 138 rfl w.heap.size 197 i0 (.agg #[.bool false, .int .u64 0, .int .u64 0, .int .u64 0, .int .u64 0, .int .i64 0, .int .i64 0]) 7 56 Tryz.underlying138 hi hz0 hz1 hz2 rfl (by decide) (.slice none 0 0) 0 [] rfl (((OwnL.nilAt HB0.out.2 197 7).off (Off.alloc (Off.refl Nob w0) (.cells #[.int .i64 3, .string ⟨#[]⟩, .int .u64 0, .int .u64 25769803776, .int .u64 0, .int .u64 0, .int .i64 0, .int .i64 0] 148))).1.alloc _) ⟨w0.heap.size + 1, 0, none⟩ 1 1 [.bool false, .int .u64 0, .int .u64 25769803776, .int .u64 0, .int .u64 0, .int .i64 0, .int .i64 0] rfl rfl ?c1 (by decide) (by decide) (by decide) (by decide) (by have := (OwnL.nilAt HB0.out.2 197 7).2.size; simp; omega) _ rfl ?_)
 case c1 =>
  intro j u hj
  have := cell_lit (w0.alloc (.cells #[.int .i64 3, .string ⟨#[]⟩, .int .u64 0, .int .u64 25769803776, .int .u64 0, .int .u64 0, .int .i64 0, .int .i64 0] 148)) [.bool false, .int .u64 0, .int .u64 25769803776, .int .u64 0, .int .u64 0, .int .i64 0, .int .i64 0] 197 j u hj
  simpa using this
 intro g1 cap1 w3 hown hgrow hat hlt
 have OW3 := hID (((OwnL.nilAt HB0.out.2 197 7).off (Off.alloc (Off.refl Nob w0) (.cells #[.int .i64 3, .string ⟨#[]⟩, .int .u64 0, .int .u64 25769803776, .int .u64 0, .int .u64 0, .int .i64 0, .int .i64 0] 148))).grown (Off.alloc (Off.refl _ _) (.cells #[.bool false, .int .u64 0, .int .u64 25769803776, .int .u64 0, .int .u64 0, .int .i64 0, .int .i64 0] 197)) hown hgrow)
 have X3 : Hid (Off Nob w0 w3) := hID (Off.grown (Off.alloc (Off.alloc (Off.refl _ _) _) _) hgrow (fun k hk => by cases hk))
 have HB3 := hID (HB0.out.1.to (X3.out.block _ HB0.out.1.lt (fun h => h)))
 clear hown hgrow hat hlt t0 t1 c0 c1 c2 c3 c4 c5 c6 c7
 have t0 := HB3.out.cell 0
 have t1 := HB3.out.cell 1
 simp only [List.getElem?_toArray, List.getElem?_cons_succ, List.getElem?_cons_zero] at t0 t1
 go_wp2_with fail
 rw [rounds_succ]
 go_wp2_with fail
 refine (co_pcheck_b _ _ (show Rd w3 (fun _ => True) 7 _ 1 pa_b from OW3.out.rd)).mono ?_
 rintro e w6 ⟨rfl, o1⟩
 have OW6 := hID (OW3.out.off o1)
 clear o1
 go_wp2_with fail
 go_ret2
 exact ⟨_, rfl, Rd.own OW6.out.1 (fun k hk => (OW6.out.1.lt k hk).1), OW6.out.2⟩
end Go.Proofs.YtkflicifngohcaaGreatDoor
