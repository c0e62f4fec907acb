/-
  dragnetref12.text and Check at lists of the rules of the example.
-/
import Derived.Test.YtkflicifngohcaaGreatDoorJ13
namespace Go.Proofs.YtkflicifngohcaaGreatDoor
open Go.RowKit
set_option linter.unusedVariables false
set_option linter.unusedSimpArgs false
set_option maxRecDepth 100000
set_option maxHeartbeats 4000000 in
theorem co_rtext_ab (w : World) (v va vb : Value) (hv : Rd w (fun _ => True) 2 v 2 [.int .i64 5, va, .int .i64 9, vb]) (ha : Rd w (fun _ => True) 8 va 1 el_a) (hb : Rd w (fun _ => True) 8 vb 1 el_b) : Calls Tryz.prog 144 #[v] w (RetV w (.string ⟨#[114, 117, 108, 101, 32, 53, 32, 34, 97, 98, 34, 10, 114, 117, 108, 101, 32, 57, 32, 91, 97, 98, 93, 10]⟩)) := by
  have s_0_11_5740 : (⟨#[]⟩ : ByteArray) ++ ⟨#[114, 117, 108, 101, 32, 53, 32, 34, 97, 98, 34]⟩ = ⟨#[114, 117, 108, 101, 32, 53, 32, 34, 97, 98, 34]⟩ := by decide
  have s_11_1_890 : (⟨#[114, 117, 108, 101, 32, 53, 32, 34, 97, 98, 34]⟩ : ByteArray) ++ ⟨#[10]⟩ = ⟨#[114, 117, 108, 101, 32, 53, 32, 34, 97, 98, 34, 10]⟩ := by decide
  have s_12_11_7410 : (⟨#[114, 117, 108, 101, 32, 53, 32, 34, 97, 98, 34, 10]⟩ : ByteArray) ++ ⟨#[114, 117, 108, 101, 32, 57, 32, 91, 97, 98, 93]⟩ = ⟨#[114, 117, 108, 101, 32, 53, 32, 34, 97, 98, 34, 10, 114, 117, 108, 101, 32, 57, 32, 91, 97, 98, 93]⟩ := by decide
  have s_23_1_1840 : (⟨#[114, 117, 108, 101, 32, 53, 32, 34, 97, 98, 34, 10, 114, 117, 108, 101, 32, 57, 32, 91, 97, 98, 93]⟩ : ByteArray) ++ ⟨#[10]⟩ = ⟨#[114, 117, 108, 101, 32, 53, 32, 34, 97, 98, 34, 10, 114, 117, 108, 101, 32, 57, 32, 91, 97, 98, 93, 10]⟩ := by decide
  obtain ⟨b, o, c, rfl, hc⟩ := hv.cellsT (by decide)
  have HC := Lib.hid hc
  have Ha := Lib.hid ha
  have Hb := Lib.hid hb
  clear hc hv ha hb
  go_enter Tryz.func144, Tryz.ntmps144
  have GC : Hid (∀ W, Off Nob w W → W.cell? ⟨b, o, none⟩ = some (.int .i64 5) ∧ W.cell? ⟨b, o + 1, none⟩ = some (va) ∧ W.cell? ⟨b, o + 2, none⟩ = some (.int .i64 9) ∧ W.cell? ⟨b, o + 3, none⟩ = some (vb)) := Lib.hid (fun W ho => ⟨HC.out W ho 0 _ rfl, HC.out W ho 1 _ rfl, HC.out W ho 2 _ rfl, HC.out W ho 3 _ rfl⟩)
  have X0 : Hid (Off Nob w w) := Lib.hid (Off.refl _ _)
  obtain ⟨c0, c1, c2, c3⟩ := GC.out _ X0.out
  go_wp2_with fail
  refine wp_loop_rounds 3 ?_
  rw [rounds_succ]
  clear c0 c1 c2 c3
  obtain ⟨c0, c1, c2, c3⟩ := GC.out _ X0.out
  go_wp2_with fail
  refine (co_tokens_a _ _ (Ha.out.keepT X0.out)).mono ?_
  rintro e w1 ⟨v1, rfl, hr, o1⟩
  have X1 := Lib.hid (X0.out.also o1)
  have HT := Lib.hid hr
  obtain ⟨AA, cc, rfl, _⟩ := hr.form
  clear hr
  clear o1 X0
  clear c0 c1 c2 c3
  obtain ⟨c0, c1, c2, c3⟩ := GC.out _ X1.out
  go_wp2_with fail
  refine (co_pr_a _ _ HT.out).mono ?_
  rintro e w2 ⟨rfl, o1⟩
  have X2 := Lib.hid (X1.out.also o1)
  clear HT
  clear o1 X1
  clear c0 c1 c2 c3
  obtain ⟨c0, c1, c2, c3⟩ := GC.out _ X2.out
  go_wp2_with fail
  rw [rounds_succ]
  clear c0 c1 c2 c3
  obtain ⟨c0, c1, c2, c3⟩ := GC.out _ X2.out
  go_wp2_with fail
  refine (co_tokens_b _ _ (Hb.out.keepT X2.out)).mono ?_
  rintro e w3 ⟨v1, rfl, hr, o1⟩
  have X3 := Lib.hid (X2.out.also o1)
  have HT := Lib.hid hr
  obtain ⟨AA, cc, rfl, _⟩ := hr.form
  clear hr
  clear o1 X2
  clear c0 c1 c2 c3
  obtain ⟨c0, c1, c2, c3⟩ := GC.out _ X3.out
  go_wp2_with fail
  refine (co_pr_b _ _ HT.out).mono ?_
  rintro e w4 ⟨rfl, o1⟩
  have X4 := Lib.hid (X3.out.also o1)
  clear HT
  clear o1 X3
  clear c0 c1 c2 c3
  obtain ⟨c0, c1, c2, c3⟩ := GC.out _ X4.out
  go_wp2_with fail
  rw [rounds_succ]
  clear c0 c1 c2 c3
  obtain ⟨c0, c1, c2, c3⟩ := GC.out _ X4.out
  go_wp2_with fail
  go_ret
  exact ⟨rfl, X4.out⟩
set_option maxHeartbeats 4000000 in
theorem co_ck12_ab (w : World) (v va vb : Value) (hv : Rd w (fun _ => True) 2 v 2 [.int .i64 5, va, .int .i64 9, vb]) (ha : Rd w (fun _ => True) 8 va 1 el_a) (hb : Rd w (fun _ => True) 8 vb 1 el_b) : Calls Tryz.prog 119 #[v] w (RetV w (.tuple #[.int .i64 0, .int .i64 0, .int .i64 0])) := by
  have HV := Lib.hid hv
  obtain ⟨b, o, c, rfl, hc⟩ := hv.cellsT (by decide)
  have HC := Lib.hid hc
  have Ha := Lib.hid ha
  have Hb := Lib.hid hb
  clear hc hv ha hb
  go_enter Tryz.func119, Tryz.ntmps119
  have GC : Hid (∀ W, Off Nob w W → W.cell? ⟨b, o, none⟩ = some (.int .i64 5) ∧ W.cell? ⟨b, o + 1, none⟩ = some (va) ∧ W.cell? ⟨b, o + 2, none⟩ = some (.int .i64 9) ∧ W.cell? ⟨b, o + 3, none⟩ = some (vb)) := Lib.hid (fun W ho => ⟨HC.out W ho 0 _ rfl, HC.out W ho 1 _ rfl, HC.out W ho 2 _ rfl, HC.out W ho 3 _ rfl⟩)
  have X0 : Hid (Off Nob w w) := Lib.hid (Off.refl _ _)
  obtain ⟨c0, c1, c2, c3⟩ := GC.out _ X0.out
  go_wp2_with fail
  refine wp_loop_rounds 3 ?_
  rw [rounds_succ]
  clear c0 c1 c2 c3
  obtain ⟨c0, c1, c2, c3⟩ := GC.out _ X0.out
  go_wp2_with fail
  refine (co_one_a _ _ (Ha.out.keepT X0.out)).mono ?_
  rintro e w1 ⟨rfl, o1⟩
  have X1 := Lib.hid (X0.out.also o1)
  clear o1 X0
  clear c0 c1 c2 c3
  obtain ⟨c0, c1, c2, c3⟩ := GC.out _ X1.out
  go_wp2_with fail
  rw [rounds_succ]
  clear c0 c1 c2 c3
  obtain ⟨c0, c1, c2, c3⟩ := GC.out _ X1.out
  go_wp2_with fail
  refine (co_one_b _ _ (Hb.out.keepT X1.out)).mono ?_
  rintro e w2 ⟨rfl, o1⟩
  have X2 := Lib.hid (X1.out.also o1)
  clear o1 X1
  clear c0 c1 c2 c3
  obtain ⟨c0, c1, c2, c3⟩ := GC.out _ X2.out
  go_wp2_with fail
  rw [rounds_succ]
  clear c0 c1 c2 c3
  obtain ⟨c0, c1, c2, c3⟩ := GC.out _ X2.out
  go_wp2_with fail
  refine (co_rtext_ab _ _ _ _ (HV.out.keepT X2.out) (Ha.out.keepT X2.out) (Hb.out.keepT X2.out)).mono ?_
  rintro e w3 ⟨rfl, o1⟩
  have X3 := Lib.hid (X2.out.also o1)
  clear o1 X2
  clear c0 c1 c2 c3
  obtain ⟨c0, c1, c2, c3⟩ := GC.out _ X3.out
  go_wp2_with fail
  go_ret3
  exact ⟨rfl, X3.out⟩
set_option maxHeartbeats 4000000 in
theorem co_rtext_a (w : World) (v va : Value) (hv : Rd w (fun _ => True) 2 v 1 [.int .i64 5, va]) (ha : Rd w (fun _ => True) 8 va 1 el_a) : Calls Tryz.prog 144 #[v] w (RetV w (.string ⟨#[114, 117, 108, 101, 32, 53, 32, 34, 97, 98, 34, 10]⟩)) := by
  have s_0_11_5740 : (⟨#[]⟩ : ByteArray) ++ ⟨#[114, 117, 108, 101, 32, 53, 32, 34, 97, 98, 34]⟩ = ⟨#[114, 117, 108, 101, 32, 53, 32, 34, 97, 98, 34]⟩ := by decide
  have s_11_1_890 : (⟨#[114, 117, 108, 101, 32, 53, 32, 34, 97, 98, 34]⟩ : ByteArray) ++ ⟨#[10]⟩ = ⟨#[114, 117, 108, 101, 32, 53, 32, 34, 97, 98, 34, 10]⟩ := by decide
  obtain ⟨b, o, c, rfl, hc⟩ := hv.cellsT (by decide)
  have HC := Lib.hid hc
  have Ha := Lib.hid ha
  clear hc hv ha
  go_enter Tryz.func144, Tryz.ntmps144
  have GC : Hid (∀ W, Off Nob w W → W.cell? ⟨b, o, none⟩ = some (.int .i64 5) ∧ W.cell? ⟨b, o + 1, none⟩ = some (va)) := Lib.hid (fun W ho => ⟨HC.out W ho 0 _ rfl, HC.out W ho 1 _ rfl⟩)
  have X0 : Hid (Off Nob w w) := Lib.hid (Off.refl _ _)
  obtain ⟨c0, c1⟩ := GC.out _ X0.out
  go_wp2_with fail
  refine wp_loop_rounds 2 ?_
  rw [rounds_succ]
  clear c0 c1
  obtain ⟨c0, c1⟩ := GC.out _ X0.out
  go_wp2_with fail
  refine (co_tokens_a _ _ (Ha.out.keepT X0.out)).mono ?_
  rintro e w1 ⟨v1, rfl, hr, o1⟩
  have X1 := Lib.hid (X0.out.also o1)
  have HT := Lib.hid hr
  obtain ⟨AA, cc, rfl, _⟩ := hr.form
  clear hr
  clear o1 X0
  clear c0 c1
  obtain ⟨c0, c1⟩ := GC.out _ X1.out
  go_wp2_with fail
  refine (co_pr_a _ _ HT.out).mono ?_
  rintro e w2 ⟨rfl, o1⟩
  have X2 := Lib.hid (X1.out.also o1)
  clear HT
  clear o1 X1
  clear c0 c1
  obtain ⟨c0, c1⟩ := GC.out _ X2.out
  go_wp2_with fail
  rw [rounds_succ]
  clear c0 c1
  obtain ⟨c0, c1⟩ := GC.out _ X2.out
  go_wp2_with fail
  go_ret
  exact ⟨rfl, X2.out⟩
set_option maxHeartbeats 4000000 in
theorem co_ck12_a (w : World) (v va : Value) (hv : Rd w (fun _ => True) 2 v 1 [.int .i64 5, va]) (ha : Rd w (fun _ => True) 8 va 1 el_a) : Calls Tryz.prog 119 #[v] w (RetV w (.tuple #[.int .i64 0, .int .i64 0, .int .i64 0])) := by
  have HV := Lib.hid hv
  obtain ⟨b, o, c, rfl, hc⟩ := hv.cellsT (by decide)
  have HC := Lib.hid hc
  have Ha := Lib.hid ha
  clear hc hv ha
  go_enter Tryz.func119, Tryz.ntmps119
  have GC : Hid (∀ W, Off Nob w W → W.cell? ⟨b, o, none⟩ = some (.int .i64 5) ∧ W.cell? ⟨b, o + 1, none⟩ = some (va)) := Lib.hid (fun W ho => ⟨HC.out W ho 0 _ rfl, HC.out W ho 1 _ rfl⟩)
  have X0 : Hid (Off Nob w w) := Lib.hid (Off.refl _ _)
  obtain ⟨c0, c1⟩ := GC.out _ X0.out
  go_wp2_with fail
  refine wp_loop_rounds 2 ?_
  rw [rounds_succ]
  clear c0 c1
  obtain ⟨c0, c1⟩ := GC.out _ X0.out
  go_wp2_with fail
  refine (co_one_a _ _ (Ha.out.keepT X0.out)).mono ?_
  rintro e w1 ⟨rfl, o1⟩
  have X1 := Lib.hid (X0.out.also o1)
  clear o1 X0
  clear c0 c1
  obtain ⟨c0, c1⟩ := GC.out _ X1.out
  go_wp2_with fail
  rw [rounds_succ]
  clear c0 c1
  obtain ⟨c0, c1⟩ := GC.out _ X1.out
  go_wp2_with fail
  refine (co_rtext_a _ _ _ (HV.out.keepT X1.out) (Ha.out.keepT X1.out)).mono ?_
  rintro e w2 ⟨rfl, o1⟩
  have X2 := Lib.hid (X1.out.also o1)
  clear o1 X1
  clear c0 c1
  obtain ⟨c0, c1⟩ := GC.out _ X2.out
  go_wp2_with fail
  go_ret3
  exact ⟨rfl, X2.out⟩
set_option maxHeartbeats 4000000 in
theorem co_rtext_b (w : World) (v vb : Value) (hv : Rd w (fun _ => True) 2 v 1 [.int .i64 9, vb]) (hb : Rd w (fun _ => True) 8 vb 1 el_b) : Calls Tryz.prog 144 #[v] w (RetV w (.string ⟨#[114, 117, 108, 101, 32, 57, 32, 91, 97, 98, 93, 10]⟩)) := by
  have s_0_11_6580 : (⟨#[]⟩ : ByteArray) ++ ⟨#[114, 117, 108, 101, 32, 57, 32, 91, 97, 98, 93]⟩ = ⟨#[114, 117, 108, 101, 32, 57, 32, 91, 97, 98, 93]⟩ := by decide
  have s_11_1_1010 : (⟨#[114, 117, 108, 101, 32, 57, 32, 91, 97, 98, 93]⟩ : ByteArray) ++ ⟨#[10]⟩ = ⟨#[114, 117, 108, 101, 32, 57, 32, 91, 97, 98, 93, 10]⟩ := by decide
  obtain ⟨b, o, c, rfl, hc⟩ := hv.cellsT (by decide)
  have HC := Lib.hid hc
  have Hb := Lib.hid hb
  clear hc hv hb
  go_enter Tryz.func144, Tryz.ntmps144
  have GC : Hid (∀ W, Off Nob w W → W.cell? ⟨b, o, none⟩ = some (.int .i64 9) ∧ W.cell? ⟨b, o + 1, none⟩ = some (vb)) := Lib.hid (fun W ho => ⟨HC.out W ho 0 _ rfl, HC.out W ho 1 _ rfl⟩)
  have X0 : Hid (Off Nob w w) := Lib.hid (Off.refl _ _)
  obtain ⟨c0, c1⟩ := GC.out _ X0.out
  go_wp2_with fail
  refine wp_loop_rounds 2 ?_
  rw [rounds_succ]
  clear c0 c1
  obtain ⟨c0, c1⟩ := GC.out _ X0.out
  go_wp2_with fail
  refine (co_tokens_b _ _ (Hb.out.keepT X0.out)).mono ?_
  rintro e w1 ⟨v1, rfl, hr, o1⟩
  have X1 := Lib.hid (X0.out.also o1)
  have HT := Lib.hid hr
  obtain ⟨AA, cc, rfl, _⟩ := hr.form
  clear hr
  clear o1 X0
  clear c0 c1
  obtain ⟨c0, c1⟩ := GC.out _ X1.out
  go_wp2_with fail
  refine (co_pr_b _ _ HT.out).mono ?_
  rintro e w2 ⟨rfl, o1⟩
  have X2 := Lib.hid (X1.out.also o1)
  clear HT
  clear o1 X1
  clear c0 c1
  obtain ⟨c0, c1⟩ := GC.out _ X2.out
  go_wp2_with fail
  rw [rounds_succ]
  clear c0 c1
  obtain ⟨c0, c1⟩ := GC.out _ X2.out
  go_wp2_with fail
  go_ret
  exact ⟨rfl, X2.out⟩
set_option maxHeartbeats 4000000 in
theorem co_ck12_b (w : World) (v vb : Value) (hv : Rd w (fun _ => True) 2 v 1 [.int .i64 9, vb]) (hb : Rd w (fun _ => True) 8 vb 1 el_b) : Calls Tryz.prog 119 #[v] w (RetV w (.tuple #[.int .i64 0, .int .i64 0, .int .i64 0])) := by
  have HV := Lib.hid hv
  obtain ⟨b, o, c, rfl, hc⟩ := hv.cellsT (by decide)
  have HC := Lib.hid hc
  have Hb := Lib.hid hb
  clear hc hv hb
  go_enter Tryz.func119, Tryz.ntmps119
  have GC : Hid (∀ W, Off Nob w W → W.cell? ⟨b, o, none⟩ = some (.int .i64 9) ∧ W.cell? ⟨b, o + 1, none⟩ = some (vb)) := Lib.hid (fun W ho => ⟨HC.out W ho 0 _ rfl, HC.out W ho 1 _ rfl⟩)
  have X0 : Hid (Off Nob w w) := Lib.hid (Off.refl _ _)
  obtain ⟨c0, c1⟩ := GC.out _ X0.out
  go_wp2_with fail
  refine wp_loop_rounds 2 ?_
  rw [rounds_succ]
  clear c0 c1
  obtain ⟨c0, c1⟩ := GC.out _ X0.out
  go_wp2_with fail
  refine (co_one_b _ _ (Hb.out.keepT X0.out)).mono ?_
  rintro e w1 ⟨rfl, o1⟩
  have X1 := Lib.hid (X0.out.also o1)
  clear o1 X0
  clear c0 c1
  obtain ⟨c0, c1⟩ := GC.out _ X1.out
  go_wp2_with fail
  rw [rounds_succ]
  clear c0 c1
  obtain ⟨c0, c1⟩ := GC.out _ X1.out
  go_wp2_with fail
  refine (co_rtext_b _ _ _ (HV.out.keepT X1.out) (Hb.out.keepT X1.out)).mono ?_
  rintro e w2 ⟨rfl, o1⟩
  have X2 := Lib.hid (X1.out.also o1)
  clear o1 X1
  clear c0 c1
  obtain ⟨c0, c1⟩ := GC.out _ X2.out
  go_wp2_with fail
  go_ret3
  exact ⟨rfl, X2.out⟩
end Go.Proofs.YtkflicifngohcaaGreatDoor

/-
  dragnetref13.element, choices, lengths and sum at the rules of the example.
-/
namespace Go.Proofs.YtkflicifngohcaaGreatDoor
open Go.RowKit
set_option linter.unusedVariables false
set_option linter.unusedSimpArgs false
set_option maxRecDepth 100000
theorem co_lengths_nil (w : World) (A : Option Addr) (c : Nat) : Calls Tryz.prog 122 #[.slice A 0 c] w (RetL w 1 1 [.int .i64 0]) := by
  go_enter Tryz.func122, Tryz.ntmps122
  go_wp2_with fail
  go_ret
  exact ⟨_, rfl, Rd.newT w 3 [.int .i64 0] 1 1 rfl (by decide), Off.alloc (Off.refl _ _) _⟩
set_option maxHeartbeats 2000000 in
theorem co_element_a (w : World) (v : Value) (hv : Rd w (fun _ => True) 8 v 1 el_a) : Calls Tryz.prog 145 #[.agg #[.int .i64 5, v], .int .i64 0] w (RetV w (.int .i64 0)) := by
  have hq : ∀ w : World, (binOp .eql 146 (.agg #[.int .u64 0, .int .u64 25769803776, .int .u64 0, .int .u64 0]) (.agg #[.int .u64 0, .int .u64 0, .int .u64 0, .int .u64 0])).run Tryz.prog w = .ok (.bool false) w := fun _ => by kernel_rfl
  obtain ⟨b, o, c, rfl, hc⟩ := hv.cellsT (by decide)
  have HC := Lib.hid hc
  have c0 := hc (w.alloc (.cells #[.int .i64 5, .slice (some ⟨b, o, none⟩) 1 c] 143)) (Off.alloc (Off.refl _ _) _) 0 _ rfl
  have c1 := hc (w.alloc (.cells #[.int .i64 5, .slice (some ⟨b, o, none⟩) 1 c] 143)) (Off.alloc (Off.refl _ _) _) 1 _ rfl
  have c2 := hc (w.alloc (.cells #[.int .i64 5, .slice (some ⟨b, o, none⟩) 1 c] 143)) (Off.alloc (Off.refl _ _) _) 2 _ rfl
  have c3 := hc (w.alloc (.cells #[.int .i64 5, .slice (some ⟨b, o, none⟩) 1 c] 143)) (Off.alloc (Off.refl _ _) _) 3 _ rfl
  have c4 := hc (w.alloc (.cells #[.int .i64 5, .slice (some ⟨b, o, none⟩) 1 c] 143)) (Off.alloc (Off.refl _ _) _) 4 _ rfl
  have c5 := hc (w.alloc (.cells #[.int .i64 5, .slice (some ⟨b, o, none⟩) 1 c] 143)) (Off.alloc (Off.refl _ _) _) 5 _ rfl
  have c6 := hc (w.alloc (.cells #[.int .i64 5, .slice (some ⟨b, o, none⟩) 1 c] 143)) (Off.alloc (Off.refl _ _) _) 6 _ rfl
  have c7 := hc (w.alloc (.cells #[.int .i64 5, .slice (some ⟨b, o, none⟩) 1 c] 143)) (Off.alloc (Off.refl _ _) _) 7 _ rfl
  simp only [Nat.add_zero] at c0
  clear hc hv
  go_enter Tryz.func145, Tryz.ntmps145
  go_wp2_with fail
  go_ret
  exact ⟨rfl, Off.alloc (Off.alloc (Off.refl _ _) _) _⟩
set_option maxHeartbeats 2000000 in
theorem co_lengths_a (w : World) (v : Value) (hv : Rd w (fun _ => True) 8 v 1 el_a) : Calls Tryz.prog 122 #[v] w (RetL w 1 1 [.int .i64 2]) := by
  obtain ⟨i0, hi, hz0, hz1, hz2⟩ := info_parts Tryz.infoI'
  obtain ⟨b, o, c, rfl, hc⟩ := hv.cellsT (by decide)
  have GC : Hid (∀ W, Off Nob w W → W.cell? ⟨b, o, none⟩ = some (.int .i64 1) ∧ W.cell? ⟨b, o + 1, none⟩ = some (.string ⟨#[97, 98]⟩) ∧ W.cell? ⟨b, o + 2, none⟩ = some (.int .u64 0) ∧ W.cell? ⟨b, o + 3, none⟩ = some (.int .u64 0) ∧ W.cell? ⟨b, o + 4, none⟩ = some (.int .u64 0) ∧ W.cell? ⟨b, o + 5, none⟩ = some (.int .u64 0) ∧ W.cell? ⟨b, o + 6, none⟩ = some (.int .i64 0) ∧ W.cell? ⟨b, o + 7, none⟩ = some (.int .i64 0)) := Lib.hid (fun W ho => ⟨hc W ho 0 _ rfl, hc W ho 1 _ rfl, hc W ho 2 _ rfl, hc W ho 3 _ rfl, hc W ho 4 _ rfl, hc W ho 5 _ rfl, hc W ho 6 _ rfl, hc W ho 7 _ rfl⟩)
  have X0 : Hid (Off Nob w w) := Lib.hid (Off.refl _ _)
  clear hc hv
  obtain ⟨c0, c1, c2, c3, c4, c5, c6, c7⟩ := GC.out _ X0.out
  go_enter Tryz.func122, Tryz.ntmps122
  by_cases hc1 : c = 1
  · subst hc1
    go_wp2_with fail
    refine (co_lengths_nil _ _ _).mono ?_
    rintro e w1 ⟨v1, rfl, hr, o1⟩
    have X1 := Lib.hid (X0.out.also o1)
    obtain ⟨b1, p1, c1', rfl, hd⟩ := hr.cellsT (by decide)
    have HD := Lib.hid hd
    clear hr o1 X0 hd c0 c1 c2 c3 c4 c5 c6 c7
    obtain ⟨c0, c1, c2, c3, c4, c5, c6, c7⟩ := GC.out _ X1.out
    go_wp2_with fail
    go_quiet (fail)
    have X2 : Hid (Off Nob w (w1.drewN nq)) := Lib.hid (X1.out.drewN nq)
    have Y2 : Hid (Off Nob w1 (w1.drewN nq)) := Lib.hid (Off.drewN (Off.refl _ _) nq)
    clear X1 c0 c1 c2 c3 c4 c5 c6 c7
    generalize w1.drewN nq = w2 at *
    go_wp2_with fail
    refine wp_loop_rounds 2 ?_
    rw [rounds_succ]
    go_wp2_with fail
    refine wp_loop_rounds 2 ?_
    rw [rounds_succ]
    have d0 := HD.out _ Y2.out 0 _ rfl
    simp only [Nat.add_zero] at d0
    go_wp2_with (at_builtin; refine @wpList_append_lies _ _ _ _ _ _ _ rfl _ _ 22 rfl w.heap.size 3 i0 (.int .i64 0) 1 8 Tryz.underlying22 hi hz0 hz1 hz2 rfl (by decide) (.slice none 0 0) 0 [] rfl (World.ownsRow_nil _ _ _ _) ⟨w2.heap.size, 0, none⟩ 1 1 [.int .i64 2] rfl rfl (cell_one _ _ _) (by decide) (by decide) (by decide) (by decide) (by have := X2.out.size; simp; omega) _ rfl ?_)
    intro g cap w3 hown hgrow hat hlt3
    have X3 := Lib.hid ((OwnL.nilAt X2.out 3 1).grown (Off.alloc (Off.refl Nob w2) (.cells #[.int .i64 2] 3)) hown hgrow)
    clear hown hgrow hat hlt3 X2 Y2 d0
    go_wp2_with fail
    rw [rounds_succ]
    go_wp2_with fail
    rw [rounds_succ]
    go_wp2_with fail
    go_ret
    exact ⟨_, rfl, X3.out.rd, X3.out.2⟩
  · go_wp2_with fail
    refine (co_lengths_nil _ _ _).mono ?_
    rintro e w1 ⟨v1, rfl, hr, o1⟩
    have X1 := Lib.hid (X0.out.also o1)
    obtain ⟨b1, p1, c1', rfl, hd⟩ := hr.cellsT (by decide)
    have HD := Lib.hid hd
    clear hr o1 X0 hd c0 c1 c2 c3 c4 c5 c6 c7
    obtain ⟨c0, c1, c2, c3, c4, c5, c6, c7⟩ := GC.out _ X1.out
    go_wp2_with fail
    go_quiet (fail)
    have X2 : Hid (Off Nob w (w1.drewN nq)) := Lib.hid (X1.out.drewN nq)
    have Y2 : Hid (Off Nob w1 (w1.drewN nq)) := Lib.hid (Off.drewN (Off.refl _ _) nq)
    clear X1 c0 c1 c2 c3 c4 c5 c6 c7
    generalize w1.drewN nq = w2 at *
    go_wp2_with fail
    refine wp_loop_rounds 2 ?_
    rw [rounds_succ]
    go_wp2_with fail
    refine wp_loop_rounds 2 ?_
    rw [rounds_succ]
    have d0 := HD.out _ Y2.out 0 _ rfl
    simp only [Nat.add_zero] at d0
    go_wp2_with (at_builtin; refine @wpList_append_lies _ _ _ _ _ _ _ rfl _ _ 22 rfl w.heap.size 3 i0 (.int .i64 0) 1 8 Tryz.underlying22 hi hz0 hz1 hz2 rfl (by decide) (.slice none 0 0) 0 [] rfl (World.ownsRow_nil _ _ _ _) ⟨w2.heap.size, 0, none⟩ 1 1 [.int .i64 2] rfl rfl (cell_one _ _ _) (by decide) (by decide) (by decide) (by decide) (by have := X2.out.size; simp; omega) _ rfl ?_)
    intro g cap w3 hown hgrow hat hlt3
    have X3 := Lib.hid ((OwnL.nilAt X2.out 3 1).grown (Off.alloc (Off.refl Nob w2) (.cells #[.int .i64 2] 3)) hown hgrow)
    clear hown hgrow hat hlt3 X2 Y2 d0
    go_wp2_with fail
    rw [rounds_succ]
    go_wp2_with fail
    rw [rounds_succ]
    go_wp2_with fail
    go_ret
    exact ⟨_, rfl, X3.out.rd, X3.out.2⟩
set_option maxHeartbeats 2000000 in
theorem co_element_b (w : World) (v : Value) (hv : Rd w (fun _ => True) 8 v 1 el_b) : Calls Tryz.prog 145 #[.agg #[.int .i64 9, v], .int .i64 0] w (RetV w (.int .i64 0)) := by
  have hq : ∀ w : World, (binOp .eql 146 (.agg #[.int .u64 0, .int .u64 25769803776, .int .u64 0, .int .u64 0]) (.agg #[.int .u64 0, .int .u64 0, .int .u64 0, .int .u64 0])).run Tryz.prog w = .ok (.bool false) w := fun _ => by kernel_rfl
  obtain ⟨b, o, c, rfl, hc⟩ := hv.cellsT (by decide)
  have HC := Lib.hid hc
  have c0 := hc (w.alloc (.cells #[.int .i64 9, .slice (some ⟨b, o, none⟩) 1 c] 143)) (Off.alloc (Off.refl _ _) _) 0 _ rfl
  have c1 := hc (w.alloc (.cells #[.int .i64 9, .slice (some ⟨b, o, none⟩) 1 c] 143)) (Off.alloc (Off.refl _ _) _) 1 _ rfl
  have c2 := hc (w.alloc (.cells #[.int .i64 9, .slice (some ⟨b, o, none⟩) 1 c] 143)) (Off.alloc (Off.refl _ _) _) 2 _ rfl
  have c3 := hc (w.alloc (.cells #[.int .i64 9, .slice (some ⟨b, o, none⟩) 1 c] 143)) (Off.alloc (Off.refl _ _) _) 3 _ rfl
  have c4 := hc (w.alloc (.cells #[.int .i64 9, .slice (some ⟨b, o, none⟩) 1 c] 143)) (Off.alloc (Off.refl _ _) _) 4 _ rfl
  have c5 := hc (w.alloc (.cells #[.int .i64 9, .slice (some ⟨b, o, none⟩) 1 c] 143)) (Off.alloc (Off.refl _ _) _) 5 _ rfl
  have c6 := hc (w.alloc (.cells #[.int .i64 9, .slice (some ⟨b, o, none⟩) 1 c] 143)) (Off.alloc (Off.refl _ _) _) 6 _ rfl
  have c7 := hc (w.alloc (.cells #[.int .i64 9, .slice (some ⟨b, o, none⟩) 1 c] 143)) (Off.alloc (Off.refl _ _) _) 7 _ rfl
  simp only [Nat.add_zero] at c0
  clear hc hv
  go_enter Tryz.func145, Tryz.ntmps145
  go_wp2_with fail
  go_ret
  exact ⟨rfl, Off.alloc (Off.alloc (Off.refl _ _) _) _⟩
set_option maxHeartbeats 2000000 in
theorem co_lengths_b (w : World) (v : Value) (hv : Rd w (fun _ => True) 8 v 1 el_b) : Calls Tryz.prog 122 #[v] w (RetL w 1 1 [.int .i64 1]) := by
  obtain ⟨i0, hi, hz0, hz1, hz2⟩ := info_parts Tryz.infoI'
  obtain ⟨b, o, c, rfl, hc⟩ := hv.cellsT (by decide)
  have GC : Hid (∀ W, Off Nob w W → W.cell? ⟨b, o, none⟩ = some (.int .i64 3) ∧ W.cell? ⟨b, o + 1, none⟩ = some (.string ⟨#[]⟩) ∧ W.cell? ⟨b, o + 2, none⟩ = some (.int .u64 0) ∧ W.cell? ⟨b, o + 3, none⟩ = some (.int .u64 25769803776) ∧ W.cell? ⟨b, o + 4, none⟩ = some (.int .u64 0) ∧ W.cell? ⟨b, o + 5, none⟩ = some (.int .u64 0) ∧ W.cell? ⟨b, o + 6, none⟩ = some (.int .i64 0) ∧ W.cell? ⟨b, o + 7, none⟩ = some (.int .i64 0)) := Lib.hid (fun W ho => ⟨hc W ho 0 _ rfl, hc W ho 1 _ rfl, hc W ho 2 _ rfl, hc W ho 3 _ rfl, hc W ho 4 _ rfl, hc W ho 5 _ rfl, hc W ho 6 _ rfl, hc W ho 7 _ rfl⟩)
  have X0 : Hid (Off Nob w w) := Lib.hid (Off.refl _ _)
  clear hc hv
  obtain ⟨c0, c1, c2, c3, c4, c5, c6, c7⟩ := GC.out _ X0.out
  go_enter Tryz.func122, Tryz.ntmps122
  by_cases hc1 : c = 1
  · subst hc1
    go_wp2_with fail
    refine (co_lengths_nil _ _ _).mono ?_
    rintro e w1 ⟨v1, rfl, hr, o1⟩
    have X1 := Lib.hid (X0.out.also o1)
    obtain ⟨b1, p1, c1', rfl, hd⟩ := hr.cellsT (by decide)
    have HD := Lib.hid hd
    clear hr o1 X0 hd c0 c1 c2 c3 c4 c5 c6 c7
    obtain ⟨c0, c1, c2, c3, c4, c5, c6, c7⟩ := GC.out _ X1.out
    go_wp2_with fail
    skip
    have X2 := X1
    have Y2 : Hid (Off Nob w1 w1) := Lib.hid (Off.refl _ _)
    have Z : Hid (∃ W, W = w1) := Lib.hid ⟨_, rfl⟩
    clear X1 c0 c1 c2 c3 c4 c5 c6 c7
    refine wp_loop_rounds 2 ?_
    rw [rounds_succ]
    go_wp2_with fail
    refine wp_loop_rounds 2 ?_
    rw [rounds_succ]
    have d0 := HD.out _ Y2.out 0 _ rfl
    simp only [Nat.add_zero] at d0
    go_wp2_with (at_builtin; refine @wpList_append_lies _ _ _ _ _ _ _ rfl _ _ 22 rfl w.heap.size 3 i0 (.int .i64 0) 1 8 Tryz.underlying22 hi hz0 hz1 hz2 rfl (by decide) (.slice none 0 0) 0 [] rfl (World.ownsRow_nil _ _ _ _) ⟨w1.heap.size, 0, none⟩ 1 1 [.int .i64 1] rfl rfl (cell_one _ _ _) (by decide) (by decide) (by decide) (by decide) (by have := X2.out.size; simp; omega) _ rfl ?_)
    intro g cap w3 hown hgrow hat hlt3
    have X3 := Lib.hid ((OwnL.nilAt X2.out 3 1).grown (Off.alloc (Off.refl Nob w1) (.cells #[.int .i64 1] 3)) hown hgrow)
    clear hown hgrow hat hlt3 X2 Y2 d0
    go_wp2_with fail
    rw [rounds_succ]
    go_wp2_with fail
    rw [rounds_succ]
    go_wp2_with fail
    go_ret
    exact ⟨_, rfl, X3.out.rd, X3.out.2⟩
  · go_wp2_with fail
    refine (co_lengths_nil _ _ _).mono ?_
    rintro e w1 ⟨v1, rfl, hr, o1⟩
    have X1 := Lib.hid (X0.out.also o1)
    obtain ⟨b1, p1, c1', rfl, hd⟩ := hr.cellsT (by decide)
    have HD := Lib.hid hd
    clear hr o1 X0 hd c0 c1 c2 c3 c4 c5 c6 c7
    obtain ⟨c0, c1, c2, c3, c4, c5, c6, c7⟩ := GC.out _ X1.out
    go_wp2_with fail
    skip
    have X2 := X1
    have Y2 : Hid (Off Nob w1 w1) := Lib.hid (Off.refl _ _)
    have Z : Hid (∃ W, W = w1) := Lib.hid ⟨_, rfl⟩
    clear X1 c0 c1 c2 c3 c4 c5 c6 c7
    refine wp_loop_rounds 2 ?_
    rw [rounds_succ]
    go_wp2_with fail
    refine wp_loop_rounds 2 ?_
    rw [rounds_succ]
    have d0 := HD.out _ Y2.out 0 _ rfl
    simp only [Nat.add_zero] at d0
    go_wp2_with (at_builtin; refine @wpList_append_lies _ _ _ _ _ _ _ rfl _ _ 22 rfl w.heap.size 3 i0 (.int .i64 0) 1 8 Tryz.underlying22 hi hz0 hz1 hz2 rfl (by decide) (.slice none 0 0) 0 [] rfl (World.ownsRow_nil _ _ _ _) ⟨w1.heap.size, 0, none⟩ 1 1 [.int .i64 1] rfl rfl (cell_one _ _ _) (by decide) (by decide) (by decide) (by decide) (by have := X2.out.size; simp; omega) _ rfl ?_)
    intro g cap w3 hown hgrow hat hlt3
    have X3 := Lib.hid ((OwnL.nilAt X2.out 3 1).grown (Off.alloc (Off.refl Nob w1) (.cells #[.int .i64 1] 3)) hown hgrow)
    clear hown hgrow hat hlt3 X2 Y2 d0
    go_wp2_with fail
    rw [rounds_succ]
    go_wp2_with fail
    rw [rounds_succ]
    go_wp2_with fail
    go_ret
    exact ⟨_, rfl, X3.out.rd, X3.out.2⟩
theorem co_sum1 (n : Nat) (hn : n ≤ 1000) (w : World) (v : Value) (hv : Rd w (fun _ => True) 1 v 1 [.int .i64 (n : Int)]) : Calls Tryz.prog 121 #[v] w (RetV w (.int .i64 (n : Int))) := by
  obtain ⟨b, o, c, rfl, hc⟩ := hv.cellsT (by decide)
  have c0 := hc w (Off.refl _ _) 0 _ rfl
  simp only [Nat.add_zero] at c0
  clear hc hv
  go_enter Tryz.func121, Tryz.ntmps121
  go_wp2_with fail
  refine wp_loop_rounds 2 ?_
  rw [rounds_succ]
  go_wp2_with fail
  rw [rounds_succ]
  go_wp2_with fail
  go_ret
  exact ⟨rfl, Off.refl _ _⟩
end Go.Proofs.YtkflicifngohcaaGreatDoor

/-
  dragnetref13.choices, Alone and Check at the rules of the example.
-/
namespace Go.Proofs.YtkflicifngohcaaGreatDoor
open Go.RowKit
set_option linter.unusedVariables false
set_option linter.unusedSimpArgs false
set_option maxRecDepth 100000
set_option maxHeartbeats 2000000 in
theorem co_choices_a (w : World) (v : Value) (hv : Rd w (fun _ => True) 8 v 1 el_a) : Calls Tryz.prog 146 #[.agg #[.int .i64 5, v]] w (RetV w (.int .i64 1)) := by
  obtain ⟨b, o, c, rfl, hc⟩ := hv.cellsT (by decide)
  have HC := Lib.hid hc
  clear hc hv
  go_enter Tryz.func146, Tryz.ntmps146
  go_wp2_with fail
  have HB0 : Hid (Blk (w.alloc (.cells #[.int .i64 5, .slice (some ⟨b, o, none⟩) 1 c] 143)) w.heap.size 143 #[.int .i64 5, .slice (some ⟨b, o, none⟩) 1 c] ∧ Off Nob w (w.alloc (.cells #[.int .i64 5, .slice (some ⟨b, o, none⟩) 1 c] 143))) := Lib.hid ⟨Blk.new _ _ _, Off.alloc (Off.refl _ _) _⟩
  revert HB0
  generalize (w.alloc (.cells #[.int .i64 5, .slice (some ⟨b, o, none⟩) 1 c] 143)) = w0
  intro HB0
  have GC : Hid (∀ W, Off Nob w0 W → W.cell? ⟨w.heap.size, 0, none⟩ = some (.int .i64 5) ∧ W.cell? ⟨w.heap.size, 1, none⟩ = some (.slice (some ⟨b, o, none⟩) 1 c) ∧ W.cell? ⟨b, o, none⟩ = some (.int .i64 1) ∧ W.cell? ⟨b, o + 1, none⟩ = some (.string ⟨#[97, 98]⟩) ∧ W.cell? ⟨b, o + 2, none⟩ = some (.int .u64 0) ∧ W.cell? ⟨b, o + 3, none⟩ = some (.int .u64 0) ∧ W.cell? ⟨b, o + 4, none⟩ = some (.int .u64 0) ∧ W.cell? ⟨b, o + 5, none⟩ = some (.int .u64 0) ∧ W.cell? ⟨b, o + 6, none⟩ = some (.int .i64 0) ∧ W.cell? ⟨b, o + 7, none⟩ = some (.int .i64 0)) := Lib.hid (fun W ho => by
    have h := HB0.out.1.to (ho.block _ HB0.out.1.lt (fun h => h))
    have k := HC.out W (HB0.out.2.also ho)
    exact ⟨h.cell 0, h.cell 1, k 0 _ rfl, k 1 _ rfl, k 2 _ rfl, k 3 _ rfl, k 4 _ rfl, k 5 _ rfl, k 6 _ rfl, k 7 _ rfl⟩)
  have X0 : Hid (Off Nob w0 w0) := Lib.hid (Off.refl _ _)
  obtain ⟨t0, t1, c0, c1, c2, c3, c4, c5, c6, c7⟩ := GC.out _ X0.out
  go_wp2_with fail
  refine wp_loop_rounds 2 ?_
  rw [rounds_succ]
  clear t0 t1 c0 c1 c2 c3 c4 c5 c6 c7
  obtain ⟨t0, t1, c0, c1, c2, c3, c4, c5, c6, c7⟩ := GC.out _ X0.out
  go_wp2_with fail
  rw [rounds_succ]
  clear t0 t1 c0 c1 c2 c3 c4 c5 c6 c7
  obtain ⟨t0, t1, c0, c1, c2, c3, c4, c5, c6, c7⟩ := GC.out _ X0.out
  go_wp2_with fail
  go_ret
  exact ⟨rfl, HB0.out.2.also X0.out⟩
set_option maxHeartbeats 4000000 in
theorem co_alone_a (w : World) (v : Value) (hv : Rd w (fun _ => True) 8 v 1 el_a) : Calls Tryz.prog 120 #[.agg #[.int .i64 5, v]] w (RetV w (.tuple #[.int .i64 0, .int .i64 0])) := by
  have HV0 := Lib.hid hv
  obtain ⟨b, o, c, rfl, hc⟩ := hv.cellsT (by decide)
  have HV := HV0
  have HC := Lib.hid hc
  clear hc hv HV0
  go_enter Tryz.func120, Tryz.ntmps120
  go_wp2_with fail
  have HL : Hid (Rd ((w.alloc (.cells #[.int .i64 5, .slice (some ⟨b, o, none⟩) 1 c] 143)).alloc (.cells #[.int .i64 5, .slice (some ⟨b, o, none⟩) 1 c] 143)) (fun _ => True) 2 (.slice (some ⟨w.heap.size + 1, 0, none⟩) 1 1) 1 [.int .i64 5, .slice (some ⟨b, o, none⟩) 1 c]) := Lib.hid (by have := Rd.newT (w.alloc (.cells #[.int .i64 5, .slice (some ⟨b, o, none⟩) 1 c] 143)) 143 [.int .i64 5, .slice (some ⟨b, o, none⟩) 1 c] 2 1 rfl (by decide); simpa using this)
  have HB0 : Hid (Blk ((w.alloc (.cells #[.int .i64 5, .slice (some ⟨b, o, none⟩) 1 c] 143)).alloc (.cells #[.int .i64 5, .slice (some ⟨b, o, none⟩) 1 c] 143)) w.heap.size 143 #[.int .i64 5, .slice (some ⟨b, o, none⟩) 1 c] ∧ Off Nob w ((w.alloc (.cells #[.int .i64 5, .slice (some ⟨b, o, none⟩) 1 c] 143)).alloc (.cells #[.int .i64 5, .slice (some ⟨b, o, none⟩) 1 c] 143))) := Lib.hid ⟨(Blk.new _ _ _).alloc _, Off.alloc (Off.alloc (Off.refl _ _) _) _⟩
  revert HB0 HL
  generalize ((w.alloc (.cells #[.int .i64 5, .slice (some ⟨b, o, none⟩) 1 c] 143)).alloc (.cells #[.int .i64 5, .slice (some ⟨b, o, none⟩) 1 c] 143)) = w0
  intro HL HB0
  have GC : Hid (∀ W, Off Nob w0 W → W.cell? ⟨w.heap.size, 0, none⟩ = some (.int .i64 5) ∧ W.cell? ⟨w.heap.size, 1, none⟩ = some (.slice (some ⟨b, o, none⟩) 1 c) ∧ W.cell? ⟨b, o, none⟩ = some (.int .i64 1) ∧ W.cell? ⟨b, o + 1, none⟩ = some (.string ⟨#[97, 98]⟩) ∧ W.cell? ⟨b, o + 2, none⟩ = some (.int .u64 0) ∧ W.cell? ⟨b, o + 3, none⟩ = some (.int .u64 0) ∧ W.cell? ⟨b, o + 4, none⟩ = some (.int .u64 0) ∧ W.cell? ⟨b, o + 5, none⟩ = some (.int .u64 0) ∧ W.cell? ⟨b, o + 6, none⟩ = some (.int .i64 0) ∧ W.cell? ⟨b, o + 7, none⟩ = some (.int .i64 0)) := Lib.hid (fun W ho => by
    have h := HB0.out.1.to (ho.block _ HB0.out.1.lt (fun h => h))
    have k := HC.out W (HB0.out.2.also ho)
    exact ⟨h.cell 0, h.cell 1, k 0 _ rfl, k 1 _ rfl, k 2 _ rfl, k 3 _ rfl, k 4 _ rfl, k 5 _ rfl, k 6 _ rfl, k 7 _ rfl⟩)
  have X0 : Hid (Off Nob w0 w0) := Lib.hid (Off.refl _ _)
  obtain ⟨t0, t1, c0, c1, c2, c3, c4, c5, c6, c7⟩ := GC.out _ X0.out
  go_wp2_with fail
  refine (co_ck12_a _ _ _ HL.out (HV.out.keepT HB0.out.2)).mono ?_
  rintro e w1 ⟨rfl, o1⟩
  have X1 := Lib.hid (X0.out.also o1)
  clear HL
  clear o1 X0
  clear t0 t1 c0 c1 c2 c3 c4 c5 c6 c7
  obtain ⟨t0, t1, c0, c1, c2, c3, c4, c5, c6, c7⟩ := GC.out _ X1.out
  go_wp2_with fail
  refine wp_loop_rounds 2 ?_
  rw [rounds_succ]
  clear t0 t1 c0 c1 c2 c3 c4 c5 c6 c7
  obtain ⟨t0, t1, c0, c1, c2, c3, c4, c5, c6, c7⟩ := GC.out _ X1.out
  go_wp2_with fail
  refine (co_element_a _ _ (HV.out.keepT (HB0.out.2.also X1.out))).mono ?_
  rintro e w2 ⟨rfl, o1⟩
  have X2 := Lib.hid (X1.out.also o1)
  clear o1 X1
  clear t0 t1 c0 c1 c2 c3 c4 c5 c6 c7
  obtain ⟨t0, t1, c0, c1, c2, c3, c4, c5, c6, c7⟩ := GC.out _ X2.out
  go_wp2_with fail
  rw [rounds_succ]
  clear t0 t1 c0 c1 c2 c3 c4 c5 c6 c7
  obtain ⟨t0, t1, c0, c1, c2, c3, c4, c5, c6, c7⟩ := GC.out _ X2.out
  go_wp2_with fail
  refine (co_choices_a _ _ (HV.out.keepT (HB0.out.2.also X2.out))).mono ?_
  rintro e w3 ⟨rfl, o1⟩
  have X3 := Lib.hid (X2.out.also o1)
  clear o1 X2
  clear t0 t1 c0 c1 c2 c3 c4 c5 c6 c7
  obtain ⟨t0, t1, c0, c1, c2, c3, c4, c5, c6, c7⟩ := GC.out _ X3.out
  go_wp2_with fail
  refine (co_lengths_a _ _ (HV.out.keepT (HB0.out.2.also X3.out))).mono ?_
  rintro e w4 ⟨v1, rfl, hr, o1⟩
  have X4 := Lib.hid (X3.out.also o1)
  have HT := Lib.hid hr
  obtain ⟨AA, cc, rfl, _⟩ := hr.form
  clear hr
  clear o1 X3
  clear t0 t1 c0 c1 c2 c3 c4 c5 c6 c7
  obtain ⟨t0, t1, c0, c1, c2, c3, c4, c5, c6, c7⟩ := GC.out _ X4.out
  go_wp2_with fail
  refine Calls.mono (R := RetV _ (.int .i64 2)) (co_sum1 2 (by decide) _ _ HT.out) ?_
  rintro e w5 ⟨rfl, o1⟩
  have X5 := Lib.hid (X4.out.also o1)
  clear HT
  clear o1 X4
  clear t0 t1 c0 c1 c2 c3 c4 c5 c6 c7
  obtain ⟨t0, t1, c0, c1, c2, c3, c4, c5, c6, c7⟩ := GC.out _ X5.out
  go_wp2_with fail
  go_ret2
  exact ⟨rfl, HB0.out.2.also X5.out⟩
set_option maxHeartbeats 2000000 in
theorem co_choices_b (w : World) (v : Value) (hv : Rd w (fun _ => True) 8 v 1 el_b) : Calls Tryz.prog 146 #[.agg #[.int .i64 9, v]] w (RetV w (.int .i64 1)) := by
  obtain ⟨b, o, c, rfl, hc⟩ := hv.cellsT (by decide)
  have HC := Lib.hid hc
  clear hc hv
  go_enter Tryz.func146, Tryz.ntmps146
  go_wp2_with fail
  have HB0 : Hid (Blk (w.alloc (.cells #[.int .i64 9, .slice (some ⟨b, o, none⟩) 1 c] 143)) w.heap.size 143 #[.int .i64 9, .slice (some ⟨b, o, none⟩) 1 c] ∧ Off Nob w (w.alloc (.cells #[.int .i64 9, .slice (some ⟨b, o, none⟩) 1 c] 143))) := Lib.hid ⟨Blk.new _ _ _, Off.alloc (Off.refl _ _) _⟩
  revert HB0
  generalize (w.alloc (.cells #[.int .i64 9, .slice (some ⟨b, o, none⟩) 1 c] 143)) = w0
  intro HB0
  have GC : Hid (∀ W, Off Nob w0 W → W.cell? ⟨w.heap.size, 0, none⟩ = some (.int .i64 9) ∧ W.cell? ⟨w.heap.size, 1, none⟩ = some (.slice (some ⟨b, o, none⟩) 1 c) ∧ W.cell? ⟨b, o, none⟩ = some (.int .i64 3) ∧ W.cell? ⟨b, o + 1, none⟩ = some (.string ⟨#[]⟩) ∧ W.cell? ⟨b, o + 2, none⟩ = some (.int .u64 0) ∧ W.cell? ⟨b, o + 3, none⟩ = some (.int .u64 25769803776) ∧ W.cell? ⟨b, o + 4, none⟩ = some (.int .u64 0) ∧ W.cell? ⟨b, o + 5, none⟩ = some (.int .u64 0) ∧ W.cell? ⟨b, o + 6, none⟩ = some (.int .i64 0) ∧ W.cell? ⟨b, o + 7, none⟩ = some (.int .i64 0)) := Lib.hid (fun W ho => by
    have h := HB0.out.1.to (ho.block _ HB0.out.1.lt (fun h => h))
    have k := HC.out W (HB0.out.2.also ho)
    exact ⟨h.cell 0, h.cell 1, k 0 _ rfl, k 1 _ rfl, k 2 _ rfl, k 3 _ rfl, k 4 _ rfl, k 5 _ rfl, k 6 _ rfl, k 7 _ rfl⟩)
  have X0 : Hid (Off Nob w0 w0) := Lib.hid (Off.refl _ _)
  obtain ⟨t0, t1, c0, c1, c2, c3, c4, c5, c6, c7⟩ := GC.out _ X0.out
  go_wp2_with fail
  refine wp_loop_rounds 2 ?_
  rw [rounds_succ]
  clear t0 t1 c0 c1 c2 c3 c4 c5 c6 c7
  obtain ⟨t0, t1, c0, c1, c2, c3, c4, c5, c6, c7⟩ := GC.out _ X0.out
  go_wp2_with fail
  rw [rounds_succ]
  clear t0 t1 c0 c1 c2 c3 c4 c5 c6 c7
  obtain ⟨t0, t1, c0, c1, c2, c3, c4, c5, c6, c7⟩ := GC.out _ X0.out
  go_wp2_with fail
  go_ret
  exact ⟨rfl, HB0.out.2.also X0.out⟩
set_option maxHeartbeats 4000000 in
theorem co_alone_b (w : World) (v : Value) (hv : Rd w (fun _ => True) 8 v 1 el_b) : Calls Tryz.prog 120 #[.agg #[.int .i64 9, v]] w (RetV w (.tuple #[.int .i64 0, .int .i64 0])) := by
  have HV0 := Lib.hid hv
  obtain ⟨b, o, c, rfl, hc⟩ := hv.cellsT (by decide)
  have HV := HV0
  have HC := Lib.hid hc
  clear hc hv HV0
  go_enter Tryz.func120, Tryz.ntmps120
  go_wp2_with fail
  have HL : Hid (Rd ((w.alloc (.cells #[.int .i64 9, .slice (some ⟨b, o, none⟩) 1 c] 143)).alloc (.cells #[.int .i64 9, .slice (some ⟨b, o, none⟩) 1 c] 143)) (fun _ => True) 2 (.slice (some ⟨w.heap.size + 1, 0, none⟩) 1 1) 1 [.int .i64 9, .slice (some ⟨b, o, none⟩) 1 c]) := Lib.hid (by have := Rd.newT (w.alloc (.cells #[.int .i64 9, .slice (some ⟨b, o, none⟩) 1 c] 143)) 143 [.int .i64 9, .slice (some ⟨b, o, none⟩) 1 c] 2 1 rfl (by decide); simpa using this)
  have HB0 : Hid (Blk ((w.alloc (.cells #[.int .i64 9, .slice (some ⟨b, o, none⟩) 1 c] 143)).alloc (.cells #[.int .i64 9, .slice (some ⟨b, o, none⟩) 1 c] 143)) w.heap.size 143 #[.int .i64 9, .slice (some ⟨b, o, none⟩) 1 c] ∧ Off Nob w ((w.alloc (.cells #[.int .i64 9, .slice (some ⟨b, o, none⟩) 1 c] 143)).alloc (.cells #[.int .i64 9, .slice (some ⟨b, o, none⟩) 1 c] 143))) := Lib.hid ⟨(Blk.new _ _ _).alloc _, Off.alloc (Off.alloc (Off.refl _ _) _) _⟩
  revert HB0 HL
  generalize ((w.alloc (.cells #[.int .i64 9, .slice (some ⟨b, o, none⟩) 1 c] 143)).alloc (.cells #[.int .i64 9, .slice (some ⟨b, o, none⟩) 1 c] 143)) = w0
  intro HL HB0
  have GC : Hid (∀ W, Off Nob w0 W → W.cell? ⟨w.heap.size, 0, none⟩ = some (.int .i64 9) ∧ W.cell? ⟨w.heap.size, 1, none⟩ = some (.slice (some ⟨b, o, none⟩) 1 c) ∧ W.cell? ⟨b, o, none⟩ = some (.int .i64 3) ∧ W.cell? ⟨b, o + 1, none⟩ = some (.string ⟨#[]⟩) ∧ W.cell? ⟨b, o + 2, none⟩ = some (.int .u64 0) ∧ W.cell? ⟨b, o + 3, none⟩ = some (.int .u64 25769803776) ∧ W.cell? ⟨b, o + 4, none⟩ = some (.int .u64 0) ∧ W.cell? ⟨b, o + 5, none⟩ = some (.int .u64 0) ∧ W.cell? ⟨b, o + 6, none⟩ = some (.int .i64 0) ∧ W.cell? ⟨b, o + 7, none⟩ = some (.int .i64 0)) := Lib.hid (fun W ho => by
    have h := HB0.out.1.to (ho.block _ HB0.out.1.lt (fun h => h))
    have k := HC.out W (HB0.out.2.also ho)
    exact ⟨h.cell 0, h.cell 1, k 0 _ rfl, k 1 _ rfl, k 2 _ rfl, k 3 _ rfl, k 4 _ rfl, k 5 _ rfl, k 6 _ rfl, k 7 _ rfl⟩)
  have X0 : Hid (Off Nob w0 w0) := Lib.hid (Off.refl _ _)
  obtain ⟨t0, t1, c0, c1, c2, c3, c4, c5, c6, c7⟩ := GC.out _ X0.out
  go_wp2_with fail
  refine (co_ck12_b _ _ _ HL.out (HV.out.keepT HB0.out.2)).mono ?_
  rintro e w1 ⟨rfl, o1⟩
  have X1 := Lib.hid (X0.out.also o1)
  clear HL
  clear o1 X0
  clear t0 t1 c0 c1 c2 c3 c4 c5 c6 c7
  obtain ⟨t0, t1, c0, c1, c2, c3, c4, c5, c6, c7⟩ := GC.out _ X1.out
  go_wp2_with fail
  refine wp_loop_rounds 2 ?_
  rw [rounds_succ]
  clear t0 t1 c0 c1 c2 c3 c4 c5 c6 c7
  obtain ⟨t0, t1, c0, c1, c2, c3, c4, c5, c6, c7⟩ := GC.out _ X1.out
  go_wp2_with fail
  refine (co_element_b _ _ (HV.out.keepT (HB0.out.2.also X1.out))).mono ?_
  rintro e w2 ⟨rfl, o1⟩
  have X2 := Lib.hid (X1.out.also o1)
  clear o1 X1
  clear t0 t1 c0 c1 c2 c3 c4 c5 c6 c7
  obtain ⟨t0, t1, c0, c1, c2, c3, c4, c5, c6, c7⟩ := GC.out _ X2.out
  go_wp2_with fail
  rw [rounds_succ]
  clear t0 t1 c0 c1 c2 c3 c4 c5 c6 c7
  obtain ⟨t0, t1, c0, c1, c2, c3, c4, c5, c6, c7⟩ := GC.out _ X2.out
  go_wp2_with fail
  refine (co_choices_b _ _ (HV.out.keepT (HB0.out.2.also X2.out))).mono ?_
  rintro e w3 ⟨rfl, o1⟩
  have X3 := Lib.hid (X2.out.also o1)
  clear o1 X2
  clear t0 t1 c0 c1 c2 c3 c4 c5 c6 c7
  obtain ⟨t0, t1, c0, c1, c2, c3, c4, c5, c6, c7⟩ := GC.out _ X3.out
  go_wp2_with fail
  refine (co_lengths_b _ _ (HV.out.keepT (HB0.out.2.also X3.out))).mono ?_
  rintro e w4 ⟨v1, rfl, hr, o1⟩
  have X4 := Lib.hid (X3.out.also o1)
  have HT := Lib.hid hr
  obtain ⟨AA, cc, rfl, _⟩ := hr.form
  clear hr
  clear o1 X3
  clear t0 t1 c0 c1 c2 c3 c4 c5 c6 c7
  obtain ⟨t0, t1, c0, c1, c2, c3, c4, c5, c6, c7⟩ := GC.out _ X4.out
  go_wp2_with fail
  refine Calls.mono (R := RetV _ (.int .i64 1)) (co_sum1 1 (by decide) _ _ HT.out) ?_
  rintro e w5 ⟨rfl, o1⟩
  have X5 := Lib.hid (X4.out.also o1)
  clear HT
  clear o1 X4
  clear t0 t1 c0 c1 c2 c3 c4 c5 c6 c7
  obtain ⟨t0, t1, c0, c1, c2, c3, c4, c5, c6, c7⟩ := GC.out _ X5.out
  go_wp2_with fail
  go_ret2
  exact ⟨rfl, HB0.out.2.also X5.out⟩
set_option maxHeartbeats 8000000 in
theorem co_ck13_ab (w : World) (v va vb : Value) (hv : Rd w (fun _ => True) 2 v 2 [.int .i64 5, va, .int .i64 9, vb]) (ha : Rd w (fun _ => True) 8 va 1 el_a) (hb : Rd w (fun _ => True) 8 vb 1 el_b) : Calls Tryz.prog 81 #[v] w (RetV w (.tuple #[.int .i64 0, .int .i64 0, .int .i64 0])) := by
  have HV := Lib.hid hv
  have Ha := Lib.hid ha
  have Hb := Lib.hid hb
  obtain ⟨b, o, c, rfl, hc⟩ := hv.cellsT (by decide)
  have HC := Lib.hid hc
  clear hc hv ha hb
  go_enter Tryz.func81, Tryz.ntmps81
  have GC : Hid (∀ W, Off Nob w W → W.cell? ⟨b, o, none⟩ = some (.int .i64 5) ∧ W.cell? ⟨b, o + 1, none⟩ = some (va) ∧ W.cell? ⟨b, o + 2, none⟩ = some (.int .i64 9) ∧ W.cell? ⟨b, o + 3, none⟩ = some (vb)) := Lib.hid (fun W ho => ⟨HC.out W ho 0 _ rfl, HC.out W ho 1 _ rfl, HC.out W ho 2 _ rfl, HC.out W ho 3 _ rfl⟩)
  have X0 : Hid (Off Nob w w) := Lib.hid (Off.refl _ _)
  obtain ⟨c0, c1, c2, c3⟩ := GC.out _ X0.out
  go_wp2_with fail
  refine (co_ck12_ab _ _ _ _ HV.out Ha.out Hb.out).mono ?_
  rintro e w1 ⟨rfl, o1⟩
  have X1 := Lib.hid (X0.out.also o1)
  clear o1 X0
  clear c0 c1 c2 c3
  obtain ⟨c0, c1, c2, c3⟩ := GC.out _ X1.out
  go_wp2_with fail
  refine wp_loop_rounds 3 ?_
  rw [rounds_succ]
  clear c0 c1 c2 c3
  obtain ⟨c0, c1, c2, c3⟩ := GC.out _ X1.out
  go_wp2_with fail
  refine (co_alone_a _ _ (Ha.out.keepT X1.out)).mono ?_
  rintro e w2 ⟨rfl, o1⟩
  have X2 := Lib.hid (X1.out.also o1)
  clear o1 X1
  clear c0 c1 c2 c3
  obtain ⟨c0, c1, c2, c3⟩ := GC.out _ X2.out
  go_wp2_with fail
  refine wp_loop_rounds 1 ?_
  rw [rounds_succ]
  clear c0 c1 c2 c3
  obtain ⟨c0, c1, c2, c3⟩ := GC.out _ X2.out
  go_wp2_with fail
  go_quiet (fail)
  have X3 := Lib.hid (X2.out.drewN nq)
  clear X2
  clear c0 c1 c2 c3
  generalize w2.drewN nq = w3 at *
  obtain ⟨c0, c1, c2, c3⟩ := GC.out _ X3.out
  go_wp2_with fail
  refine (co_lengths_a _ _ (Ha.out.keepT X3.out)).mono ?_
  rintro e w4 ⟨v1, rfl, hr, o1⟩
  have X4 := Lib.hid (X3.out.also o1)
  have HT := Lib.hid hr
  obtain ⟨AA, cc, rfl, _⟩ := hr.form
  clear hr
  clear o1 X3
  clear c0 c1 c2 c3
  obtain ⟨c0, c1, c2, c3⟩ := GC.out _ X4.out
  go_wp2_with fail
  refine Calls.mono (R := RetV _ (.int .i64 2)) (co_sum1 2 (by decide) _ _ HT.out) ?_
  rintro e w5 ⟨rfl, o1⟩
  have X5 := Lib.hid (X4.out.also o1)
  clear HT
  clear o1 X4
  clear c0 c1 c2 c3
  obtain ⟨c0, c1, c2, c3⟩ := GC.out _ X5.out
  go_wp2_with fail
  rw [rounds_succ]
  clear c0 c1 c2 c3
  obtain ⟨c0, c1, c2, c3⟩ := GC.out _ X5.out
  go_wp2_with fail
  refine (co_alone_b _ _ (Hb.out.keepT X5.out)).mono ?_
  rintro e w6 ⟨rfl, o1⟩
  have X6 := Lib.hid (X5.out.also o1)
  clear o1 X5
  clear c0 c1 c2 c3
  obtain ⟨c0, c1, c2, c3⟩ := GC.out _ X6.out
  go_wp2_with fail
  refine wp_loop_rounds 2 ?_
  rw [rounds_succ]
  clear c0 c1 c2 c3
  obtain ⟨c0, c1, c2, c3⟩ := GC.out _ X6.out
  go_wp2_with fail
  go_quiet (fail)
  have X7 := Lib.hid (X6.out.drewN nq)
  clear X6
  clear c0 c1 c2 c3
  generalize w6.drewN nq = w7 at *
  obtain ⟨c0, c1, c2, c3⟩ := GC.out _ X7.out
  go_wp2_with fail
  rw [rounds_succ]
  clear c0 c1 c2 c3
  obtain ⟨c0, c1, c2, c3⟩ := GC.out _ X7.out
  go_wp2_with fail
  go_quiet (fail)
  have X8 := Lib.hid (X7.out.drewN nq)
  clear X7
  clear c0 c1 c2 c3
  generalize w7.drewN nq = w8 at *
  obtain ⟨c0, c1, c2, c3⟩ := GC.out _ X8.out
  go_wp2_with fail
  refine (co_lengths_b _ _ (Hb.out.keepT X8.out)).mono ?_
  rintro e w9 ⟨v1, rfl, hr, o1⟩
  have X9 := Lib.hid (X8.out.also o1)
  have HT := Lib.hid hr
  obtain ⟨AA, cc, rfl, _⟩ := hr.form
  clear hr
  clear o1 X8
  clear c0 c1 c2 c3
  obtain ⟨c0, c1, c2, c3⟩ := GC.out _ X9.out
  go_wp2_with fail
  refine Calls.mono (R := RetV _ (.int .i64 1)) (co_sum1 1 (by decide) _ _ HT.out) ?_
  rintro e w10 ⟨rfl, o1⟩
  have X10 := Lib.hid (X9.out.also o1)
  clear HT
  clear o1 X9
  clear c0 c1 c2 c3
  obtain ⟨c0, c1, c2, c3⟩ := GC.out _ X10.out
  go_wp2_with fail
  rw [rounds_succ]
  clear c0 c1 c2 c3
  obtain ⟨c0, c1, c2, c3⟩ := GC.out _ X10.out
  go_wp2_with fail
  go_ret3
  exact ⟨rfl, X10.out⟩
end Go.Proofs.YtkflicifngohcaaGreatDoor
