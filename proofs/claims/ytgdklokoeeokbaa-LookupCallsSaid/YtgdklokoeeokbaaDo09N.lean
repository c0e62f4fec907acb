/-
  dragnetlaw09.do without arenas.
-/
import Derived.Test.YtgdklokoeeokbaaDo09
namespace Go.Proofs.Ytgdklokoeeokbaa
open Go.RowKit
attribute [local go_sem] bits_and_u64 bits_or_u64 bits_xor_u64 bits_andNot_u64 wrap_u64 bv_add bv_neg bv_sub bv_mul
set_option linter.unusedVariables false
set_option maxRecDepth 100000
theorem lcheck_nil1 (w : World) : Calls Try.prog 28 #[.pointer none, .int .i64 0, .int .i64 1, .int .i64 1] w fun e w' => e = .returned (.int .i64 1) ∧ w = w' := by
  go_enter Try.func28, Try.ntmps28
  go_wp2_with fail
  refine (has_nil w 0 1).mono ?_
  rintro e w' ⟨rfl, rfl⟩
  go_wp2
  go_ret
  exact ⟨rfl, rfl⟩
theorem rtable_nil1 (w : World) : Calls Try.prog 58 #[.pointer none, .int .i64 0, .int .i64 1, .int .i64 1] w fun e w' => e = .returned (.int .i64 1) ∧ w = w' := by
  go_enter Try.func58, Try.ntmps58
  go_wp2_with fail
  refine (rhas_nil w 0 1).mono ?_
  rintro e w' ⟨rfl, rfl⟩
  go_wp2
  go_ret
  exact ⟨rfl, rfl⟩
theorem lcheck_nil2 (w : World) : Calls Try.prog 28 #[.pointer none, .int .i64 0, .int .i64 1, .int .i64 2] w fun e w' => e = .returned (.int .i64 1) ∧ w = w' := by
  go_enter Try.func28, Try.ntmps28
  go_wp2_with fail
  refine (has_nil w 0 1).mono ?_
  rintro e w' ⟨rfl, rfl⟩
  go_wp2
  go_ret
  exact ⟨rfl, rfl⟩
theorem rtable_nil2 (w : World) : Calls Try.prog 58 #[.pointer none, .int .i64 0, .int .i64 1, .int .i64 2] w fun e w' => e = .returned (.int .i64 1) ∧ w = w' := by
  go_enter Try.func58, Try.ntmps58
  go_wp2_with fail
  refine (rhas_nil w 0 1).mono ?_
  rintro e w' ⟨rfl, rfl⟩
  go_wp2
  go_ret
  exact ⟨rfl, rfl⟩
theorem get_nil (w : World) : Calls Try.prog 11 #[.pointer none, .int .i64 0, .int .i64 1, .int .u64 0] w fun e w' => e = .returned (.tuple #[.int .u64 0, .int .i64 1]) ∧ Off Nob w w' := by
  go_enter Try.func11, Try.ntmps11
  go_wp2_with fail
  refine (lcheck_nil1 _).mono ?_
  rintro e w' ⟨rfl, rfl⟩
  go_wp2_with fail
  exact bodyPost_ret (v := .tuple #[.int .u64 0, .int .i64 1]) (by simp [results, Try.f11, go_sem]) rfl ⟨rfl, ((Off.refl Nob w).alloc _).alloc _⟩
theorem find_nil (w : World) : Calls Try.prog 12 #[.pointer none, .int .i64 0, .int .i64 1, .int .u64 0] w fun e w' => e = .returned (.tuple #[.int .u64 0, .int .i64 1]) ∧ Off Nob w w' := by
  go_enter Try.func12, Try.ntmps12
  go_wp2_with fail
  refine (lcheck_nil1 _).mono ?_
  rintro e w' ⟨rfl, rfl⟩
  go_wp2_with fail
  exact bodyPost_ret (v := .tuple #[.int .u64 0, .int .i64 1]) (by simp [results, Try.f12, go_sem]) rfl ⟨rfl, (((Off.refl Nob w).alloc _).alloc _).alloc _⟩
theorem row_nil (w : World) : Calls Try.prog 10 #[.pointer none, .int .i64 0, .int .i64 1, .int .i64 1, .int .u64 0] w fun e w' => e = .returned (.tuple #[.slice none 0 0, .int .i64 1]) ∧ Off Nob w w' := by
  go_enter Try.func10, Try.ntmps10
  go_wp2_with fail
  refine (lcheck_nil1 _).mono ?_
  rintro e w' ⟨rfl, rfl⟩
  go_wp2_with fail
  exact bodyPost_ret (v := .tuple #[.slice none 0 0, .int .i64 1]) (by simp [results, Try.f10, go_sem]) rfl ⟨rfl, ((Off.refl Nob w).alloc _).alloc _⟩
theorem do_nil (fv : Value) (hf : fv.cells = #[fv]) (w : World) : Calls Try.prog 34 #[.agg #[.int .u64 0, .int .u64 0, fv], .pointer none, .int .i64 0, .int .i64 1] w fun e w' => e = .returned (.int .i64 1) ∧ Off Nob w w' := by
  go_enter Try.func34, Try.ntmps34
  go_wp2_with fail
  refine Calls.mono (R := fun e w' => e = .returned (.bool true) ∧ _ = w') (is_any 0#64 _) ?_
  rintro e w' ⟨rfl, rfl⟩
  go_wp2_with fail
  refine (lcheck_nil2 _).mono ?_
  rintro e w' ⟨rfl, rfl⟩
  go_wp2_with fail
  exact bodyPost_ret (v := .int .i64 1) (by simp [results, Try.f34, go_sem]) rfl ⟨rfl, (((Off.refl Nob w).alloc _).alloc _).alloc _⟩
theorem put_nil (w : World) : Calls Try.prog 15 #[.pointer none, .int .i64 0, .int .i64 1, .int .u64 0, .int .u64 0, .int .u64 0] w fun e w' => e = .returned (.int .i64 1) ∧ Off Nob w w' := by
  go_enter Try.func15, Try.ntmps15
  go_wp2_with fail
  refine (do_nil _ rfl _).mono ?_
  rintro e w1 ⟨rfl, o1⟩
  have O1 := Lib.hid ((Off.alloc (Off.refl Nob w) _).also o1)
  clear o1
  go_wp2
  go_ret
  exact ⟨rfl, O1.out⟩
theorem add_nil (w : World) : Calls Try.prog 17 #[.pointer none, .int .i64 0, .int .i64 1, .int .u64 0, .int .u64 0, .int .u64 0] w fun e w' => e = .returned (.int .i64 1) ∧ Off Nob w w' := by
  go_enter Try.func17, Try.ntmps17
  go_wp2_with fail
  refine (do_nil _ rfl _).mono ?_
  rintro e w1 ⟨rfl, o1⟩
  have O1 := Lib.hid ((Off.alloc (Off.refl Nob w) _).also o1)
  clear o1
  go_wp2
  go_ret
  exact ⟨rfl, O1.out⟩
theorem fill_nil (A : Option Addr) (c : Nat) (w : World) : Calls Try.prog 44 #[.pointer none, .int .i64 0, .slice A 1 c] w fun e w' => e = .returned (.int .i64 1) ∧ Off Nob w w' := by
  go_enter Try.func44, Try.ntmps44
  go_wp2_with fail
  refine (lcheck_nil1 _).mono ?_
  rintro e w' ⟨rfl, rfl⟩
  go_wp2_with fail
  go_ret
  exact ⟨rfl, Off.refl _ _⟩
theorem rfill_nil (A : Option Addr) (c : Nat) (w : World) : Calls Try.prog 45 #[.pointer none, .int .i64 0, .slice A 1 c] w fun e w' => e = .returned (.int .i64 1) ∧ Off Nob w w' := by
  go_enter Try.func45, Try.ntmps45
  go_wp2_with fail
  refine (rtable_nil1 _).mono ?_
  rintro e w' ⟨rfl, rfl⟩
  go_wp2_with fail
  go_loop [8] (fun i => i = .int .i64 0) (fun i => 0)
  case atStart => rfl
  case round =>
    obtain rfl := hrel
    go_wp2
    go_ret
    exact ⟨rfl, Off.refl _ _⟩
theorem rchanged_nil (kp : Int) (w : World) : Calls Try.prog 60 #[.pointer none, .int .i64 0, .int .i64 1, .int .u64 0, .int .u64 0, .int .u64 kp, .int .u64 0] w fun e w' => e = .returned (.int .i64 1) ∧ w = w' := by
  go_enter Try.func60, Try.ntmps60
  go_wp2_with fail
  refine Calls.mono (R := fun e w' => e = .returned (.bool true) ∧ _ = w') (ris_any 0#64 _) ?_
  rintro e w' ⟨rfl, rfl⟩
  go_wp2_with fail
  refine (rtable_nil2 _).mono ?_
  rintro e w' ⟨rfl, rfl⟩
  go_wp2_with fail
  go_loop [16] (fun i => i = .int .i64 0) (fun i => 0)
  case atStart => rfl
  case round =>
    obtain rfl := hrel
    go_wp2
    go_ret
    exact ⟨rfl, rfl⟩
theorem rget_nil (w : World) : Calls Try.prog 39 #[.pointer none, .int .i64 0, .int .i64 1, .int .u64 0] w fun e w' => e = .returned (.tuple #[.int .u64 0, .int .i64 1]) ∧ Off Nob w w' := by
  go_enter Try.func39, Try.ntmps39
  go_wp2_with fail
  refine (rtable_nil1 _).mono ?_
  rintro e w' ⟨rfl, rfl⟩
  go_wp2_with fail
  go_ret2
  exact ⟨rfl, Off.refl _ _⟩
theorem rfind_nil (w : World) : Calls Try.prog 43 #[.pointer none, .int .i64 0, .int .i64 1, .int .u64 0] w fun e w' => e = .returned (.tuple #[.int .u64 0, .int .i64 1]) ∧ Off Nob w w' := by
  go_enter Try.func43, Try.ntmps43
  go_wp2_with fail
  refine (rtable_nil1 _).mono ?_
  rintro e w' ⟨rfl, rfl⟩
  go_wp2_with fail
  go_ret2
  exact ⟨rfl, Off.refl _ _⟩
theorem rrow_nil (w : World) : Calls Try.prog 40 #[.pointer none, .int .i64 0, .int .i64 1, .int .i64 1, .int .u64 0] w fun e w' => e = .returned (.tuple #[.slice none 0 0, .int .i64 1]) ∧ Off Nob w w' := by
  go_enter Try.func40, Try.ntmps40
  go_wp2_with fail
  refine (rtable_nil1 _).mono ?_
  rintro e w' ⟨rfl, rfl⟩
  go_wp2_with fail
  go_ret2
  exact ⟨rfl, Off.refl _ _⟩
theorem rput_nil (w : World) : Calls Try.prog 41 #[.pointer none, .int .i64 0, .int .i64 1, .int .u64 0, .int .u64 0, .int .u64 0] w fun e w' => e = .returned (.int .i64 1) ∧ Off Nob w w' := by
  go_enter Try.func41, Try.ntmps41
  go_wp2_with fail
  refine (rchanged_nil _ _).mono ?_
  rintro e w' ⟨rfl, rfl⟩
  go_wp2_with fail
  go_ret
  exact ⟨rfl, Off.refl _ _⟩
theorem radd_nil (w : World) : Calls Try.prog 42 #[.pointer none, .int .i64 0, .int .i64 1, .int .u64 0, .int .u64 0, .int .u64 0] w fun e w' => e = .returned (.int .i64 1) ∧ Off Nob w w' := by
  go_enter Try.func42, Try.ntmps42
  go_wp2_with fail
  refine (rchanged_nil _ _).mono ?_
  rintro e w' ⟨rfl, rfl⟩
  go_wp2_with fail
  go_ret
  exact ⟨rfl, Off.refl _ _⟩
set_option maxHeartbeats 4000000 in
theorem doNil_0 (w : World) : Calls Try.prog 20 #[.pointer none, .pointer none, .int .u8 0, .agg #[.int .i64 0, .int .i64 1, .int .i64 1, .int .u64 0, .int .u64 0, .int .u64 0]] w (BoolNew true w) := by
  have HP := Lib.hid (Solo.new w 25 (pcs 0 1 1 0#64 0#64 0#64))
  have k0 : (w.alloc (.cells #[.int .i64 0, .int .i64 1, .int .i64 1, .int .u64 0, .int .u64 0, .int .u64 0] 25)).cell? ⟨w.heap.size, 0, none⟩ = some (.int .i64 0) ∧ (w.alloc (.cells #[.int .i64 0, .int .i64 1, .int .i64 1, .int .u64 0, .int .u64 0, .int .u64 0] 25)).cell? ⟨w.heap.size, 1, none⟩ = some (.int .i64 1) ∧ (w.alloc (.cells #[.int .i64 0, .int .i64 1, .int .i64 1, .int .u64 0, .int .u64 0, .int .u64 0] 25)).cell? ⟨w.heap.size, 2, none⟩ = some (.int .i64 1) ∧ (w.alloc (.cells #[.int .i64 0, .int .i64 1, .int .i64 1, .int .u64 0, .int .u64 0, .int .u64 0] 25)).cell? ⟨w.heap.size, 3, none⟩ = some (.int .u64 0) ∧ (w.alloc (.cells #[.int .i64 0, .int .i64 1, .int .i64 1, .int .u64 0, .int .u64 0, .int .u64 0] 25)).cell? ⟨w.heap.size, 4, none⟩ = some (.int .u64 0) ∧ (w.alloc (.cells #[.int .i64 0, .int .i64 1, .int .i64 1, .int .u64 0, .int .u64 0, .int .u64 0] 25)).cell? ⟨w.heap.size, 5, none⟩ = some (.int .u64 0) := HP.out.p6
  go_enter Try.func20, Try.ntmps20
  go_wp2_with fail
  refine (get_nil _).mono ?_
  rintro e w1 ⟨rfl, o1⟩
  have H1 := Lib.hid (HP.out.off o1)
  have k1 : w1.cell? ⟨w.heap.size, 0, none⟩ = some (.int .i64 0) ∧ w1.cell? ⟨w.heap.size, 1, none⟩ = some (.int .i64 1) ∧ w1.cell? ⟨w.heap.size, 2, none⟩ = some (.int .i64 1) ∧ w1.cell? ⟨w.heap.size, 3, none⟩ = some (.int .u64 0) ∧ w1.cell? ⟨w.heap.size, 4, none⟩ = some (.int .u64 0) ∧ w1.cell? ⟨w.heap.size, 5, none⟩ = some (.int .u64 0) := H1.out.p6
  clear o1 k0
  go_wp2_with fail
  refine (rget_nil _).mono ?_
  rintro e w2 ⟨rfl, o2⟩
  have H2 := Lib.hid (H1.out.off o2)
  clear o2 k1
  go_wp2
  go_ret
  exact ⟨rfl, H2.out.1⟩
set_option maxHeartbeats 4000000 in
theorem doNil_1 (w : World) : Calls Try.prog 20 #[.pointer none, .pointer none, .int .u8 1, .agg #[.int .i64 0, .int .i64 1, .int .i64 1, .int .u64 0, .int .u64 0, .int .u64 0]] w (BoolNew true w) := by
  have HP := Lib.hid (Solo.new w 25 (pcs 0 1 1 0#64 0#64 0#64))
  have k0 : (w.alloc (.cells #[.int .i64 0, .int .i64 1, .int .i64 1, .int .u64 0, .int .u64 0, .int .u64 0] 25)).cell? ⟨w.heap.size, 0, none⟩ = some (.int .i64 0) ∧ (w.alloc (.cells #[.int .i64 0, .int .i64 1, .int .i64 1, .int .u64 0, .int .u64 0, .int .u64 0] 25)).cell? ⟨w.heap.size, 1, none⟩ = some (.int .i64 1) ∧ (w.alloc (.cells #[.int .i64 0, .int .i64 1, .int .i64 1, .int .u64 0, .int .u64 0, .int .u64 0] 25)).cell? ⟨w.heap.size, 2, none⟩ = some (.int .i64 1) ∧ (w.alloc (.cells #[.int .i64 0, .int .i64 1, .int .i64 1, .int .u64 0, .int .u64 0, .int .u64 0] 25)).cell? ⟨w.heap.size, 3, none⟩ = some (.int .u64 0) ∧ (w.alloc (.cells #[.int .i64 0, .int .i64 1, .int .i64 1, .int .u64 0, .int .u64 0, .int .u64 0] 25)).cell? ⟨w.heap.size, 4, none⟩ = some (.int .u64 0) ∧ (w.alloc (.cells #[.int .i64 0, .int .i64 1, .int .i64 1, .int .u64 0, .int .u64 0, .int .u64 0] 25)).cell? ⟨w.heap.size, 5, none⟩ = some (.int .u64 0) := HP.out.p6
  go_enter Try.func20, Try.ntmps20
  go_wp2_with fail
  refine (row_nil _).mono ?_
  rintro e w1 ⟨rfl, o1⟩
  have H1 := Lib.hid (HP.out.off o1)
  have k1 : w1.cell? ⟨w.heap.size, 0, none⟩ = some (.int .i64 0) ∧ w1.cell? ⟨w.heap.size, 1, none⟩ = some (.int .i64 1) ∧ w1.cell? ⟨w.heap.size, 2, none⟩ = some (.int .i64 1) ∧ w1.cell? ⟨w.heap.size, 3, none⟩ = some (.int .u64 0) ∧ w1.cell? ⟨w.heap.size, 4, none⟩ = some (.int .u64 0) ∧ w1.cell? ⟨w.heap.size, 5, none⟩ = some (.int .u64 0) := H1.out.p6
  clear o1 k0
  go_wp2_with fail
  refine (rrow_nil _).mono ?_
  rintro e w2 ⟨rfl, o2⟩
  have H2 := Lib.hid (H1.out.off o2)
  clear o2 k1
  go_wp2_with fail
  refine (same_nil _).mono ?_
  rintro e w3 ⟨rfl, o3⟩
  have H3 := Lib.hid (H2.out.off o3)
  clear o3
  go_wp2
  go_ret
  exact ⟨rfl, H3.out.1⟩
set_option maxHeartbeats 4000000 in
theorem doNil_4 (w : World) : Calls Try.prog 20 #[.pointer none, .pointer none, .int .u8 4, .agg #[.int .i64 0, .int .i64 1, .int .i64 1, .int .u64 0, .int .u64 0, .int .u64 0]] w (BoolNew true w) := by
  have HP := Lib.hid (Solo.new w 25 (pcs 0 1 1 0#64 0#64 0#64))
  have k0 : (w.alloc (.cells #[.int .i64 0, .int .i64 1, .int .i64 1, .int .u64 0, .int .u64 0, .int .u64 0] 25)).cell? ⟨w.heap.size, 0, none⟩ = some (.int .i64 0) ∧ (w.alloc (.cells #[.int .i64 0, .int .i64 1, .int .i64 1, .int .u64 0, .int .u64 0, .int .u64 0] 25)).cell? ⟨w.heap.size, 1, none⟩ = some (.int .i64 1) ∧ (w.alloc (.cells #[.int .i64 0, .int .i64 1, .int .i64 1, .int .u64 0, .int .u64 0, .int .u64 0] 25)).cell? ⟨w.heap.size, 2, none⟩ = some (.int .i64 1) ∧ (w.alloc (.cells #[.int .i64 0, .int .i64 1, .int .i64 1, .int .u64 0, .int .u64 0, .int .u64 0] 25)).cell? ⟨w.heap.size, 3, none⟩ = some (.int .u64 0) ∧ (w.alloc (.cells #[.int .i64 0, .int .i64 1, .int .i64 1, .int .u64 0, .int .u64 0, .int .u64 0] 25)).cell? ⟨w.heap.size, 4, none⟩ = some (.int .u64 0) ∧ (w.alloc (.cells #[.int .i64 0, .int .i64 1, .int .i64 1, .int .u64 0, .int .u64 0, .int .u64 0] 25)).cell? ⟨w.heap.size, 5, none⟩ = some (.int .u64 0) := HP.out.p6
  go_enter Try.func20, Try.ntmps20
  go_wp2_with fail
  refine (find_nil _).mono ?_
  rintro e w1 ⟨rfl, o1⟩
  have H1 := Lib.hid (HP.out.off o1)
  have k1 : w1.cell? ⟨w.heap.size, 0, none⟩ = some (.int .i64 0) ∧ w1.cell? ⟨w.heap.size, 1, none⟩ = some (.int .i64 1) ∧ w1.cell? ⟨w.heap.size, 2, none⟩ = some (.int .i64 1) ∧ w1.cell? ⟨w.heap.size, 3, none⟩ = some (.int .u64 0) ∧ w1.cell? ⟨w.heap.size, 4, none⟩ = some (.int .u64 0) ∧ w1.cell? ⟨w.heap.size, 5, none⟩ = some (.int .u64 0) := H1.out.p6
  clear o1 k0
  go_wp2_with fail
  refine (rfind_nil _).mono ?_
  rintro e w2 ⟨rfl, o2⟩
  have H2 := Lib.hid (H1.out.off o2)
  clear o2 k1
  go_wp2
  go_ret
  exact ⟨rfl, H2.out.1⟩
set_option maxHeartbeats 4000000 in
theorem doNil_2 (w : World) : Calls Try.prog 20 #[.pointer none, .pointer none, .int .u8 2, .agg #[.int .i64 0, .int .i64 1, .int .i64 1, .int .u64 0, .int .u64 0, .int .u64 0]] w (BoolNew true w) := by
  have HP := Lib.hid (Solo.new w 25 (pcs 0 1 1 0#64 0#64 0#64))
  have k0 : (w.alloc (.cells #[.int .i64 0, .int .i64 1, .int .i64 1, .int .u64 0, .int .u64 0, .int .u64 0] 25)).cell? ⟨w.heap.size, 0, none⟩ = some (.int .i64 0) ∧ (w.alloc (.cells #[.int .i64 0, .int .i64 1, .int .i64 1, .int .u64 0, .int .u64 0, .int .u64 0] 25)).cell? ⟨w.heap.size, 1, none⟩ = some (.int .i64 1) ∧ (w.alloc (.cells #[.int .i64 0, .int .i64 1, .int .i64 1, .int .u64 0, .int .u64 0, .int .u64 0] 25)).cell? ⟨w.heap.size, 2, none⟩ = some (.int .i64 1) ∧ (w.alloc (.cells #[.int .i64 0, .int .i64 1, .int .i64 1, .int .u64 0, .int .u64 0, .int .u64 0] 25)).cell? ⟨w.heap.size, 3, none⟩ = some (.int .u64 0) ∧ (w.alloc (.cells #[.int .i64 0, .int .i64 1, .int .i64 1, .int .u64 0, .int .u64 0, .int .u64 0] 25)).cell? ⟨w.heap.size, 4, none⟩ = some (.int .u64 0) ∧ (w.alloc (.cells #[.int .i64 0, .int .i64 1, .int .i64 1, .int .u64 0, .int .u64 0, .int .u64 0] 25)).cell? ⟨w.heap.size, 5, none⟩ = some (.int .u64 0) := HP.out.p6
  go_enter Try.func20, Try.ntmps20
  go_wp2_with fail
  go_region_held3 (fun w' => w'.cell? ⟨w.heap.size, 0, none⟩ = some (.int .i64 0) ∧ w'.cell? ⟨w.heap.size, 1, none⟩ = some (.int .i64 1) ∧ w'.cell? ⟨w.heap.size, 2, none⟩ = some (.int .i64 1) ∧ w'.cell? ⟨w.heap.size, 3, none⟩ = some (.int .u64 0) ∧ w'.cell? ⟨w.heap.size, 4, none⟩ = some (.int .u64 0) ∧ w'.cell? ⟨w.heap.size, 5, none⟩ = some (.int .u64 0))
    (first | with_reducible assumption | go_keep)
    (first
      | (go_at_call 15; refine (put_nil _).mono ?_; rintro e w1 ⟨rfl, o1⟩; have H1 := Lib.hid (HP.out.off (Off.also (by first | with_reducible exact Off.refl _ _ | with_reducible exact Off.drew (Off.refl _ _) | with_reducible exact Off.drewN (Off.refl _ _) _) o1)); have k1 : w1.cell? ⟨w.heap.size, 0, none⟩ = some (.int .i64 0) ∧ w1.cell? ⟨w.heap.size, 1, none⟩ = some (.int .i64 1) ∧ w1.cell? ⟨w.heap.size, 2, none⟩ = some (.int .i64 1) ∧ w1.cell? ⟨w.heap.size, 3, none⟩ = some (.int .u64 0) ∧ w1.cell? ⟨w.heap.size, 4, none⟩ = some (.int .u64 0) ∧ w1.cell? ⟨w.heap.size, 5, none⟩ = some (.int .u64 0) := H1.out.p6; clear o1)
      | (go_at_call 41; refine (rput_nil _).mono ?_; rintro e w2 ⟨rfl, o2⟩; have H2 := Lib.hid (H1.out.off (Off.also (by first | with_reducible exact Off.refl _ _ | with_reducible exact Off.drew (Off.refl _ _) | with_reducible exact Off.drewN (Off.refl _ _) _) o2)); have k2 : w2.cell? ⟨w.heap.size, 0, none⟩ = some (.int .i64 0) ∧ w2.cell? ⟨w.heap.size, 1, none⟩ = some (.int .i64 1) ∧ w2.cell? ⟨w.heap.size, 2, none⟩ = some (.int .i64 1) ∧ w2.cell? ⟨w.heap.size, 3, none⟩ = some (.int .u64 0) ∧ w2.cell? ⟨w.heap.size, 4, none⟩ = some (.int .u64 0) ∧ w2.cell? ⟨w.heap.size, 5, none⟩ = some (.int .u64 0) := H2.out.p6; clear o2))
  go_wp2
  go_ret
  exact ⟨rfl, H2.out.1⟩
set_option maxHeartbeats 4000000 in
theorem doNil_3 (w : World) : Calls Try.prog 20 #[.pointer none, .pointer none, .int .u8 3, .agg #[.int .i64 0, .int .i64 1, .int .i64 1, .int .u64 0, .int .u64 0, .int .u64 0]] w (BoolNew true w) := by
  have HP := Lib.hid (Solo.new w 25 (pcs 0 1 1 0#64 0#64 0#64))
  have k0 : (w.alloc (.cells #[.int .i64 0, .int .i64 1, .int .i64 1, .int .u64 0, .int .u64 0, .int .u64 0] 25)).cell? ⟨w.heap.size, 0, none⟩ = some (.int .i64 0) ∧ (w.alloc (.cells #[.int .i64 0, .int .i64 1, .int .i64 1, .int .u64 0, .int .u64 0, .int .u64 0] 25)).cell? ⟨w.heap.size, 1, none⟩ = some (.int .i64 1) ∧ (w.alloc (.cells #[.int .i64 0, .int .i64 1, .int .i64 1, .int .u64 0, .int .u64 0, .int .u64 0] 25)).cell? ⟨w.heap.size, 2, none⟩ = some (.int .i64 1) ∧ (w.alloc (.cells #[.int .i64 0, .int .i64 1, .int .i64 1, .int .u64 0, .int .u64 0, .int .u64 0] 25)).cell? ⟨w.heap.size, 3, none⟩ = some (.int .u64 0) ∧ (w.alloc (.cells #[.int .i64 0, .int .i64 1, .int .i64 1, .int .u64 0, .int .u64 0, .int .u64 0] 25)).cell? ⟨w.heap.size, 4, none⟩ = some (.int .u64 0) ∧ (w.alloc (.cells #[.int .i64 0, .int .i64 1, .int .i64 1, .int .u64 0, .int .u64 0, .int .u64 0] 25)).cell? ⟨w.heap.size, 5, none⟩ = some (.int .u64 0) := HP.out.p6
  go_enter Try.func20, Try.ntmps20
  go_wp2_with fail
  go_region_held3 (fun w' => w'.cell? ⟨w.heap.size, 0, none⟩ = some (.int .i64 0) ∧ w'.cell? ⟨w.heap.size, 1, none⟩ = some (.int .i64 1) ∧ w'.cell? ⟨w.heap.size, 2, none⟩ = some (.int .i64 1) ∧ w'.cell? ⟨w.heap.size, 3, none⟩ = some (.int .u64 0) ∧ w'.cell? ⟨w.heap.size, 4, none⟩ = some (.int .u64 0) ∧ w'.cell? ⟨w.heap.size, 5, none⟩ = some (.int .u64 0))
    (first | with_reducible assumption | go_keep)
    (first
      | (go_at_call 17; refine (add_nil _).mono ?_; rintro e w1 ⟨rfl, o1⟩; have H1 := Lib.hid (HP.out.off (Off.also (by first | with_reducible exact Off.refl _ _ | with_reducible exact Off.drew (Off.refl _ _) | with_reducible exact Off.drewN (Off.refl _ _) _) o1)); have k1 : w1.cell? ⟨w.heap.size, 0, none⟩ = some (.int .i64 0) ∧ w1.cell? ⟨w.heap.size, 1, none⟩ = some (.int .i64 1) ∧ w1.cell? ⟨w.heap.size, 2, none⟩ = some (.int .i64 1) ∧ w1.cell? ⟨w.heap.size, 3, none⟩ = some (.int .u64 0) ∧ w1.cell? ⟨w.heap.size, 4, none⟩ = some (.int .u64 0) ∧ w1.cell? ⟨w.heap.size, 5, none⟩ = some (.int .u64 0) := H1.out.p6; clear o1)
      | (go_at_call 42; refine (radd_nil _).mono ?_; rintro e w2 ⟨rfl, o2⟩; have H2 := Lib.hid (H1.out.off (Off.also (by first | with_reducible exact Off.refl _ _ | with_reducible exact Off.drew (Off.refl _ _) | with_reducible exact Off.drewN (Off.refl _ _) _) o2)); have k2 : w2.cell? ⟨w.heap.size, 0, none⟩ = some (.int .i64 0) ∧ w2.cell? ⟨w.heap.size, 1, none⟩ = some (.int .i64 1) ∧ w2.cell? ⟨w.heap.size, 2, none⟩ = some (.int .i64 1) ∧ w2.cell? ⟨w.heap.size, 3, none⟩ = some (.int .u64 0) ∧ w2.cell? ⟨w.heap.size, 4, none⟩ = some (.int .u64 0) ∧ w2.cell? ⟨w.heap.size, 5, none⟩ = some (.int .u64 0) := H2.out.p6; clear o2))
  go_wp2
  go_ret
  exact ⟨rfl, H2.out.1⟩
set_option maxHeartbeats 4000000 in
theorem doNil_5 (w : World) : Calls Try.prog 20 #[.pointer none, .pointer none, .int .u8 5, .agg #[.int .i64 0, .int .i64 1, .int .i64 1, .int .u64 0, .int .u64 0, .int .u64 0]] w (BoolNew true w) := by
  have HP := Lib.hid (Solo.new w 25 (pcs 0 1 1 0#64 0#64 0#64))
  have k0 : (w.alloc (.cells #[.int .i64 0, .int .i64 1, .int .i64 1, .int .u64 0, .int .u64 0, .int .u64 0] 25)).cell? ⟨w.heap.size, 0, none⟩ = some (.int .i64 0) ∧ (w.alloc (.cells #[.int .i64 0, .int .i64 1, .int .i64 1, .int .u64 0, .int .u64 0, .int .u64 0] 25)).cell? ⟨w.heap.size, 1, none⟩ = some (.int .i64 1) ∧ (w.alloc (.cells #[.int .i64 0, .int .i64 1, .int .i64 1, .int .u64 0, .int .u64 0, .int .u64 0] 25)).cell? ⟨w.heap.size, 2, none⟩ = some (.int .i64 1) ∧ (w.alloc (.cells #[.int .i64 0, .int .i64 1, .int .i64 1, .int .u64 0, .int .u64 0, .int .u64 0] 25)).cell? ⟨w.heap.size, 3, none⟩ = some (.int .u64 0) ∧ (w.alloc (.cells #[.int .i64 0, .int .i64 1, .int .i64 1, .int .u64 0, .int .u64 0, .int .u64 0] 25)).cell? ⟨w.heap.size, 4, none⟩ = some (.int .u64 0) ∧ (w.alloc (.cells #[.int .i64 0, .int .i64 1, .int .i64 1, .int .u64 0, .int .u64 0, .int .u64 0] 25)).cell? ⟨w.heap.size, 5, none⟩ = some (.int .u64 0) := HP.out.p6
  go_enter Try.func20, Try.ntmps20
  obtain ⟨i0, hi, hz0, hz1, hz2⟩ := info_parts Try.infoU
  go_wp2_with fail
  obtain ⟨W, hW⟩ : ∃ W, w.alloc (.cells #[.int .i64 0, .int .i64 1, .int .i64 1, .int .u64 0, .int .u64 0, .int .u64 0] 25) = W := ⟨_, rfl⟩
  have HP2 : Hid (Solo w W w.heap.size 25 (pcs 0 1 1 0#64 0#64 0#64)) := Lib.hid (by rw [← hW]; exact HP.out)
  rw [hW]
  clear hW k0 HP
  go_loopw [21, 22] (fun l i wr => ∃ (k : Nat) (u : Value), k ≤ 1 ∧ i = .int .i64 k ∧ l = u ∧ wr.ownsRow W.heap.size 23 1 u k (u64s (fvL 0#64 k)) ∧ Off Nob W wr) (fun _ i _ => 1 - (intOf i).toNat)
  case atStart => exact ⟨0, _, Nat.zero_le _, rfl, rfl, (World.ownsRow_nil _ _ _ _ : W.ownsRow W.heap.size 23 1 (.slice none 0 0) 0 []), Off.refl _ _⟩
  case round =>
    obtain ⟨k, u, hk, rfl, rfl, hw, ho⟩ := hrel
    have HW := Lib.hid hw
    have HO := Lib.hid ho
    have HS := Lib.hid (HP2.out.off ho)
    have kk : wr.cell? ⟨w.heap.size, 0, none⟩ = some (.int .i64 0) ∧ wr.cell? ⟨w.heap.size, 1, none⟩ = some (.int .i64 1) ∧ wr.cell? ⟨w.heap.size, 2, none⟩ = some (.int .i64 1) ∧ wr.cell? ⟨w.heap.size, 3, none⟩ = some (.int .u64 0) ∧ wr.cell? ⟨w.heap.size, 4, none⟩ = some (.int .u64 0) ∧ wr.cell? ⟨w.heap.size, 5, none⟩ = some (.int .u64 0) := HS.out.p6
    clear hw ho
    have hk2 : k = 0 ∨ k = 1 := by omega
    rcases hk2 with rfl | rfl
    · go_wp2_with (at_builtin; refine wpList_append_own_at _ rfl _ _ 22 rfl W.heap.size 23 i0 (.int .u64 0) 1 8 Try.underlying22 hi hz0 hz1 hz2 rfl (by decide) u21 0 (u64s (fvL 0#64 0)) rfl (HW.out.alloc _) ⟨wr.heap.size, 0, none⟩ 1 1 [.int .u64 0] rfl rfl ?c1 ?c2 ?c3 ?c4 ?c5 ?_)
      case c1 => exact cell_one_ld _ _ _
      case c2 => intro u hu; simp at hu; subst hu; rfl
      case c3 => unfold maxLen; omega
      case c4 => omega
      case c5 => have := HO.out.size; simp; omega
      intro v' w2 hown' hgrow hnil hat2
      have HN : Hid (w2.ownsRow W.heap.size 23 1 v' 1 (u64s (fvL 0#64 1))) := Lib.hid hown'
      have O2 : Hid (Off Nob W w2) := Lib.hid (Off.grown (HO.out.alloc _) hgrow (fun j hj => .inr (HW.out.lt j hj).1))
      clear hown' hgrow hnil hat2 kk
      go_wp2_with fail
      go_roundw
      case rel => exact ⟨1, _, by omega, rfl, rfl, HN.out, O2.out⟩
      case measure => simp [intOf]
    · have hf : ∃ A c, u21 = .slice A 1 c := by
        rcases HW.out.2 with ⟨rfl, h0⟩ | ⟨g, cap, cur, rfl, _⟩
        · simp [u64s, fvL] at h0
        · exact ⟨_, cap, rfl⟩
      obtain ⟨A, c, rfl⟩ := hf
      clear HW
      go_wp2_with fail
      go_region_held3 (fun w' => w'.cell? ⟨w.heap.size, 0, none⟩ = some (.int .i64 0) ∧ w'.cell? ⟨w.heap.size, 1, none⟩ = some (.int .i64 1) ∧ w'.cell? ⟨w.heap.size, 2, none⟩ = some (.int .i64 1) ∧ w'.cell? ⟨w.heap.size, 3, none⟩ = some (.int .u64 0) ∧ w'.cell? ⟨w.heap.size, 4, none⟩ = some (.int .u64 0) ∧ w'.cell? ⟨w.heap.size, 5, none⟩ = some (.int .u64 0))
        (first | with_reducible assumption | go_keep)
        (first
          | (go_at_call 44; refine (fill_nil _ _ _).mono ?_; rintro e w1 ⟨rfl, o1⟩; have H1 := Lib.hid (HS.out.off (Off.also (by first | with_reducible exact Off.refl _ _ | with_reducible exact Off.drew (Off.refl _ _) | with_reducible exact Off.drewN (Off.refl _ _) _) o1)); have k1 : w1.cell? ⟨w.heap.size, 0, none⟩ = some (.int .i64 0) ∧ w1.cell? ⟨w.heap.size, 1, none⟩ = some (.int .i64 1) ∧ w1.cell? ⟨w.heap.size, 2, none⟩ = some (.int .i64 1) ∧ w1.cell? ⟨w.heap.size, 3, none⟩ = some (.int .u64 0) ∧ w1.cell? ⟨w.heap.size, 4, none⟩ = some (.int .u64 0) ∧ w1.cell? ⟨w.heap.size, 5, none⟩ = some (.int .u64 0) := H1.out.p6; clear o1)
          | (go_at_call 45; refine (rfill_nil _ _ _).mono ?_; rintro e w2 ⟨rfl, o2⟩; have H2 := Lib.hid (H1.out.off (Off.also (by first | with_reducible exact Off.refl _ _ | with_reducible exact Off.drew (Off.refl _ _) | with_reducible exact Off.drewN (Off.refl _ _) _) o2)); have k2 : w2.cell? ⟨w.heap.size, 0, none⟩ = some (.int .i64 0) ∧ w2.cell? ⟨w.heap.size, 1, none⟩ = some (.int .i64 1) ∧ w2.cell? ⟨w.heap.size, 2, none⟩ = some (.int .i64 1) ∧ w2.cell? ⟨w.heap.size, 3, none⟩ = some (.int .u64 0) ∧ w2.cell? ⟨w.heap.size, 4, none⟩ = some (.int .u64 0) ∧ w2.cell? ⟨w.heap.size, 5, none⟩ = some (.int .u64 0) := H2.out.p6; clear o2))
      go_wp2
      go_ret
      exact ⟨rfl, H2.out.1⟩

theorem doNil (w : World) (k : Nat) (hk : k < 6) : Calls Try.prog 20 #[.pointer none, .pointer none, .int .u8 k, .agg #[.int .i64 0, .int .i64 1, .int .i64 1, .int .u64 0, .int .u64 0, .int .u64 0]] w (BoolNew true w) := by
  match k, hk with
  | 0, _ => exact doNil_0 w
  | 1, _ => exact doNil_1 w
  | 2, _ => exact doNil_2 w
  | 3, _ => exact doNil_3 w
  | 4, _ => exact doNil_4 w
  | 5, _ => exact doNil_5 w

end Go.Proofs.Ytgdklokoeeokbaa
