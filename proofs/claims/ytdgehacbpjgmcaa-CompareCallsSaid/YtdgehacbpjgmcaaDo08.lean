/-
  dragnetlaw08.do: a call in both arenas, and one without arenas.
-/
import Derived.Test.YtdgehacbpjgmcaaRef08Sort
import Derived.Test.YtdgehacbpjgmcaaBoth
import Derived.Deep.RegionHeld3
namespace Go.Proofs.Ytdgehacbpjgmcaa
open Go.RowKit
attribute [local go_sem] bits_and_u64 bits_or_u64 bits_xor_u64 bits_andNot_u64 wrap_u64 bv_add bv_neg bv_sub bv_mul
set_option linter.unusedVariables false
set_option maxRecDepth 100000
/-- The cells of a Call. -/
def pcs (x y n : Int) : Array Value := #[.int .i64 x, .int .i64 y, .int .i64 n]
theorem Pair.p4 {w0 w : World} {b : Nat} {x y n : Int} {t : TypeId} {p r : Nat} {C C' : List (BitVec 64)} {E E' : List Ev} (h : Pair w0 w b t (pcs x y n) p r C E C' E') :
    w.cell? ⟨b, 0, none⟩ = some (.int .i64 x) ∧ w.cell? ⟨b, 1, none⟩ = some (.int .i64 y) ∧ w.cell? ⟨b, 2, none⟩ = some (.int .i64 n) := ⟨h.cell 0, h.cell 1, h.cell 2⟩
theorem Solo.p4 {w0 w : World} {b : Nat} {x y n : Int} {t : TypeId} (h : Solo w0 w b t (pcs x y n)) :
    w.cell? ⟨b, 0, none⟩ = some (.int .i64 x) ∧ w.cell? ⟨b, 1, none⟩ = some (.int .i64 y) ∧ w.cell? ⟨b, 2, none⟩ = some (.int .i64 n) := ⟨h.2.cell 0, h.2.cell 1, h.2.cell 2⟩
section
variable {w0 w : World} {p r : Nat} {C : List (BitVec 64)} {E : List Ev}
set_option maxHeartbeats 4000000 in
theorem do_0 (h : Both w0 w p r C E) (z : Int) (h0 : 0 ≤ z) (h1 : z ≤ 255) (hz : z % 4 = 0) (x y n : Int) :
    Calls Try.prog 30 #[.pointer (some ⟨p, 0, none⟩), .pointer (some ⟨r, 0, none⟩), .int .u8 z, .agg #[.int .i64 x, .int .i64 y, .int .i64 n]] w (DoPost w0 p r) := by
  have HP := Lib.hid (h.pair 35 (pcs x y n))
  have k0 := HP.out.p4
  have hq0 : (z % 4 == 0) = true := by rw [beq_iff_eq]; omega
  clear h hz
  go_enter Try.func30, Try.ntmps30
  go_wp2_with fail
  refine (Pair.first HP.out (fun w F h => eqRows_any h x y n)).mono ?_
  rintro e w1 ⟨rfl, h1⟩
  have k1 := h1.p4
  have H1 := Lib.hid h1
  clear h1 k0
  go_wp2_with fail
  refine (Pair.second H1.out (fun w F h => reqRows_any h x y n)).mono ?_
  rintro e w2 ⟨rfl, h2⟩
  have H2 := Lib.hid h2
  clear h2 k1
  go_wp2
  go_ret
  exact ⟨ret_bool (by simp), _, _, H2.out.both⟩
set_option maxHeartbeats 4000000 in
theorem do_1 (h : Both w0 w p r C E) (z : Int) (h0 : 0 ≤ z) (h1 : z ≤ 255) (hz : z % 4 = 1) (x y n : Int) :
    Calls Try.prog 30 #[.pointer (some ⟨p, 0, none⟩), .pointer (some ⟨r, 0, none⟩), .int .u8 z, .agg #[.int .i64 x, .int .i64 y, .int .i64 n]] w (DoPost w0 p r) := by
  have HP := Lib.hid (h.pair 35 (pcs x y n))
  have k0 := HP.out.p4
  have hq0 : (z % 4 == 0) = false := by rw [beq_eq_false_iff_ne]; omega
  have hq1 : (z % 4 == 1) = true := by rw [beq_iff_eq]; omega
  clear h hz
  go_enter Try.func30, Try.ntmps30
  go_wp2_with fail
  refine (Pair.first HP.out (fun w F h => ltRows_any h x y n)).mono ?_
  rintro e w1 ⟨rfl, h1⟩
  have k1 := h1.p4
  have H1 := Lib.hid h1
  clear h1 k0
  go_wp2_with fail
  refine (Pair.second H1.out (fun w F h => rltRows_any h x y n)).mono ?_
  rintro e w2 ⟨rfl, h2⟩
  have H2 := Lib.hid h2
  clear h2 k1
  go_wp2
  go_ret
  exact ⟨ret_bool (by simp), _, _, H2.out.both⟩
set_option maxHeartbeats 4000000 in
theorem do_2 (h : Both w0 w p r C E) (z : Int) (h0 : 0 ≤ z) (h1 : z ≤ 255) (hz : z % 4 = 2) (x y n : Int) :
    Calls Try.prog 30 #[.pointer (some ⟨p, 0, none⟩), .pointer (some ⟨r, 0, none⟩), .int .u8 z, .agg #[.int .i64 x, .int .i64 y, .int .i64 n]] w (DoPost w0 p r) := by
  have HP := Lib.hid (h.pair 35 (pcs x y n))
  have k0 := HP.out.p4
  have hq0 : (z % 4 == 0) = false := by rw [beq_eq_false_iff_ne]; omega
  have hq1 : (z % 4 == 1) = false := by rw [beq_eq_false_iff_ne]; omega
  have hq2 : (z % 4 == 2) = true := by rw [beq_iff_eq]; omega
  clear h hz
  go_enter Try.func30, Try.ntmps30
  go_wp2_with fail
  go_region_held3 (fun w' => w'.cell? ⟨w.heap.size, 0, none⟩ = some (.int .i64 x) ∧ w'.cell? ⟨w.heap.size, 1, none⟩ = some (.int .i64 y) ∧ w'.cell? ⟨w.heap.size, 2, none⟩ = some (.int .i64 n))
    (first | with_reducible assumption | go_keep)
    (first
      | (go_at_call 32; refine (Pair.first (HP.out.off (by first | with_reducible exact Off.refl _ _ | with_reducible exact Off.drew (Off.refl _ _) | with_reducible exact Off.drewN (Off.refl _ _) _)) (fun w F h => cExch_any h x y n)).mono ?_; rintro e w1 ⟨rfl, h1⟩; have k1 := h1.p4; have H1 := Lib.hid h1; clear h1)
      | (go_at_call 54; refine (Pair.second (H1.out.off (by first | with_reducible exact Off.refl _ _ | with_reducible exact Off.drew (Off.refl _ _) | with_reducible exact Off.drewN (Off.refl _ _) _)) (fun w F h => rExch_any h x y n)).mono ?_; rintro e w2 ⟨rfl, h2⟩; have k2 := h2.p4; have H2 := Lib.hid h2; clear h2))
  go_wp2
  go_ret
  exact ⟨ret_bool (by simp), _, _, H2.out.both⟩
set_option maxHeartbeats 4000000 in
theorem do_3 (h : Both w0 w p r C E) (z : Int) (h0 : 0 ≤ z) (h1 : z ≤ 255) (hz : z % 4 = 3) (x y n : Int) :
    Calls Try.prog 30 #[.pointer (some ⟨p, 0, none⟩), .pointer (some ⟨r, 0, none⟩), .int .u8 z, .agg #[.int .i64 x, .int .i64 y, .int .i64 n]] w (DoPost w0 p r) := by
  have HP := Lib.hid (h.pair 35 (pcs x y n))
  have k0 := HP.out.p4
  have hq0 : (z % 4 == 0) = false := by rw [beq_eq_false_iff_ne]; omega
  have hq1 : (z % 4 == 1) = false := by rw [beq_eq_false_iff_ne]; omega
  have hq2 : (z % 4 == 2) = false := by rw [beq_eq_false_iff_ne]; omega
  clear h hz
  go_enter Try.func30, Try.ntmps30
  go_wp2_with fail
  go_region_held3 (fun w' => w'.cell? ⟨w.heap.size, 0, none⟩ = some (.int .i64 x) ∧ w'.cell? ⟨w.heap.size, 1, none⟩ = some (.int .i64 y) ∧ w'.cell? ⟨w.heap.size, 2, none⟩ = some (.int .i64 n))
    (first | with_reducible assumption | go_keep)
    (first
      | (go_at_call 14; refine (Pair.first (HP.out.off (by first | with_reducible exact Off.refl _ _ | with_reducible exact Off.drew (Off.refl _ _) | with_reducible exact Off.drewN (Off.refl _ _) _)) (fun w F h => csort_any h x y n)).mono ?_; rintro e w1 ⟨rfl, h1⟩; have k1 := h1.p4; have H1 := Lib.hid h1; clear h1)
      | (go_at_call 55; refine (Pair.second (H1.out.off (by first | with_reducible exact Off.refl _ _ | with_reducible exact Off.drew (Off.refl _ _) | with_reducible exact Off.drewN (Off.refl _ _) _)) (fun w F h => rsort_any h x y n)).mono ?_; rintro e w2 ⟨rfl, h2⟩; have k2 := h2.p4; have H2 := Lib.hid h2; clear h2))
  go_wp2
  go_ret
  exact ⟨ret_bool (by simp), _, _, H2.out.both⟩
theorem do_any (h : Both w0 w p r C E) (z : Int) (h0 : 0 ≤ z) (h1 : z ≤ 255) (x y n : Int) :
    Calls Try.prog 30 #[.pointer (some ⟨p, 0, none⟩), .pointer (some ⟨r, 0, none⟩), .int .u8 z, .agg #[.int .i64 x, .int .i64 y, .int .i64 n]] w (DoPost w0 p r) := by
  have h5 : z % 4 = 0 ∨ z % 4 = 1 ∨ z % 4 = 2 ∨ z % 4 = 3 := by omega
  rcases h5 with h5 | h5 | h5 | h5
  · exact do_0 h z h0 h1 h5 x y n
  · exact do_1 h z h0 h1 h5 x y n
  · exact do_2 h z h0 h1 h5 x y n
  · exact do_3 h z h0 h1 h5 x y n
end
theorem ccheck_nil (w : World) : Calls Try.prog 58 #[.pointer none, .int .i64 0, .int .i64 1, .int .i64 1] w fun e w' => e = .returned (.int .i64 1) ∧ w = w' := by
  go_enter Try.func58, Try.ntmps58
  go_wp2_with fail
  refine (has_nil w 0 1).mono ?_
  rintro e w' ⟨rfl, rfl⟩
  go_wp2
  go_ret
  exact ⟨rfl, rfl⟩
theorem crows_nil (w : World) : Calls Try.prog 39 #[.pointer none, .int .i64 0, .int .i64 1, .int .i64 1] w fun e w' => e = .returned (.tuple #[.int .u64 0, .int .u64 0, .int .i64 1]) ∧ w = w' := by
  go_enter Try.func39, Try.ntmps39
  go_wp2_with fail
  refine (ccheck_nil w).mono ?_
  rintro e w' ⟨rfl, rfl⟩
  go_wp2
  go_ret3
  exact ⟨rfl, rfl⟩
theorem r8rows_nil (w : World) : Calls Try.prog 70 #[.pointer none, .int .i64 0, .int .i64 1, .int .i64 1] w fun e w' => e = .returned (.int .i64 1) ∧ w = w' := by
  go_enter Try.func70, Try.ntmps70
  go_wp2_with fail
  refine (rhas_nil w 0 1).mono ?_
  rintro e w' ⟨rfl, rfl⟩
  go_wp2
  go_ret
  exact ⟨rfl, rfl⟩
theorem rcomp_nil (w : World) : Calls Try.prog 69 #[.pointer none, .int .i64 0, .int .i64 1, .int .i64 1] w fun e w' => e = .returned (.tuple #[.int .i64 0, .int .i64 1]) ∧ w = w' := by
  go_enter Try.func69, Try.ntmps69
  go_wp2_with fail
  refine (r8rows_nil w).mono ?_
  rintro e w' ⟨rfl, rfl⟩
  go_wp2
  go_ret2
  exact ⟨rfl, rfl⟩
theorem equalrows_nil (w : World) : Calls Try.prog 12 #[.pointer none, .int .i64 0, .int .i64 1, .int .i64 1] w fun e w' => e = .returned (.tuple #[.int .u64 0, .int .i64 1]) ∧ Off Nob w w' := by
  go_enter Try.func12, Try.ntmps12
  go_wp2_with fail
  refine (crows_nil w).mono ?_
  rintro e w' ⟨rfl, rfl⟩
  go_wp2
  go_ret2
  exact ⟨rfl, Off.refl _ _⟩
theorem equalrows_nil2 (w : World) : Calls Try.prog 52 #[.pointer none, .int .i64 0, .int .i64 1, .int .i64 1] w fun e w' => e = .returned (.tuple #[.int .u64 0, .int .i64 1]) ∧ Off Nob w w' := by
  go_enter Try.func52, Try.ntmps52
  go_wp2_with fail
  refine (rcomp_nil w).mono ?_
  rintro e w' ⟨rfl, rfl⟩
  go_wp2_with fail
  go_ret2
  exact ⟨rfl, Off.refl _ _⟩
theorem lessrows_nil (w : World) : Calls Try.prog 11 #[.pointer none, .int .i64 0, .int .i64 1, .int .i64 1] w fun e w' => e = .returned (.tuple #[.int .u64 0, .int .i64 1]) ∧ Off Nob w w' := by
  go_enter Try.func11, Try.ntmps11
  go_wp2_with fail
  refine (crows_nil w).mono ?_
  rintro e w' ⟨rfl, rfl⟩
  go_wp2
  go_ret2
  exact ⟨rfl, Off.refl _ _⟩
theorem lessrows_nil2 (w : World) : Calls Try.prog 53 #[.pointer none, .int .i64 0, .int .i64 1, .int .i64 1] w fun e w' => e = .returned (.tuple #[.int .u64 0, .int .i64 1]) ∧ Off Nob w w' := by
  go_enter Try.func53, Try.ntmps53
  go_wp2_with fail
  refine (rcomp_nil w).mono ?_
  rintro e w' ⟨rfl, rfl⟩
  go_wp2_with fail
  go_ret2
  exact ⟨rfl, Off.refl _ _⟩
theorem exchange_nil (w : World) : Calls Try.prog 32 #[.pointer none, .int .i64 0, .int .i64 1, .int .i64 1] w fun e w' => e = .returned (.int .i64 1) ∧ Off Nob w w' := by
  go_enter Try.func32, Try.ntmps32
  go_wp2_with fail
  refine (ccheck_nil w).mono ?_
  rintro e w' ⟨rfl, rfl⟩
  go_wp2
  go_ret
  exact ⟨rfl, Off.refl _ _⟩
theorem exchange_nil2 (w : World) : Calls Try.prog 54 #[.pointer none, .int .i64 0, .int .i64 1, .int .i64 1] w fun e w' => e = .returned (.int .i64 1) ∧ Off Nob w w' := by
  go_enter Try.func54, Try.ntmps54
  go_wp2_with fail
  refine (r8rows_nil w).mono ?_
  rintro e w' ⟨rfl, rfl⟩
  go_wp2_with fail
  go_ret
  exact ⟨rfl, Off.refl _ _⟩
theorem sort_nil (w : World) : Calls Try.prog 14 #[.pointer none, .int .i64 0, .int .i64 1, .int .i64 1] w fun e w' => e = .returned (.int .i64 1) ∧ Off Nob w w' := by
  go_enter Try.func14, Try.ntmps14
  go_wp2_with fail
  refine (has_nil _ 0 1).mono ?_
  rintro e w' ⟨rfl, rfl⟩
  go_wp2_with fail
  exact bodyPost_ret (v := .int .i64 1) (by simp [results, Try.f14, go_sem]) rfl ⟨rfl, (((Off.alloc (Off.refl Nob w) _).alloc _).alloc _).alloc _⟩
theorem sort_nil2 (w : World) : Calls Try.prog 55 #[.pointer none, .int .i64 0, .int .i64 1, .int .i64 1] w fun e w' => e = .returned (.int .i64 1) ∧ Off Nob w w' := by
  go_enter Try.func55, Try.ntmps55
  go_wp2_with fail
  refine (rhas_nil w 0 1).mono ?_
  rintro e w' ⟨rfl, rfl⟩
  go_wp2_with fail
  go_ret
  exact ⟨rfl, Off.refl _ _⟩
set_option maxHeartbeats 4000000 in
theorem doNil_0 (w : World) : Calls Try.prog 30 #[.pointer none, .pointer none, .int .u8 0, .agg #[.int .i64 0, .int .i64 1, .int .i64 1]] w (BoolNew true w) := by
  have HP := Lib.hid (Solo.new w 35 (pcs 0 1 1))
  have k0 : (w.alloc (.cells #[.int .i64 0, .int .i64 1, .int .i64 1] 35)).cell? ⟨w.heap.size, 0, none⟩ = some (.int .i64 0) ∧ (w.alloc (.cells #[.int .i64 0, .int .i64 1, .int .i64 1] 35)).cell? ⟨w.heap.size, 1, none⟩ = some (.int .i64 1) ∧ (w.alloc (.cells #[.int .i64 0, .int .i64 1, .int .i64 1] 35)).cell? ⟨w.heap.size, 2, none⟩ = some (.int .i64 1) := HP.out.p4
  go_enter Try.func30, Try.ntmps30
  go_wp2_with fail
  refine (equalrows_nil _).mono ?_
  rintro e w1 ⟨rfl, o1⟩
  have H1 := Lib.hid (HP.out.off o1)
  have k1 : w1.cell? ⟨w.heap.size, 0, none⟩ = some (.int .i64 0) ∧ w1.cell? ⟨w.heap.size, 1, none⟩ = some (.int .i64 1) ∧ w1.cell? ⟨w.heap.size, 2, none⟩ = some (.int .i64 1) := H1.out.p4
  clear o1 k0
  go_wp2_with fail
  refine (equalrows_nil2 _).mono ?_
  rintro e w2 ⟨rfl, o2⟩
  have H2 := Lib.hid (H1.out.off o2)
  clear o2 k1
  go_wp2
  go_ret
  exact ⟨rfl, H2.out.1⟩
set_option maxHeartbeats 4000000 in
theorem doNil_1 (w : World) : Calls Try.prog 30 #[.pointer none, .pointer none, .int .u8 1, .agg #[.int .i64 0, .int .i64 1, .int .i64 1]] w (BoolNew true w) := by
  have HP := Lib.hid (Solo.new w 35 (pcs 0 1 1))
  have k0 : (w.alloc (.cells #[.int .i64 0, .int .i64 1, .int .i64 1] 35)).cell? ⟨w.heap.size, 0, none⟩ = some (.int .i64 0) ∧ (w.alloc (.cells #[.int .i64 0, .int .i64 1, .int .i64 1] 35)).cell? ⟨w.heap.size, 1, none⟩ = some (.int .i64 1) ∧ (w.alloc (.cells #[.int .i64 0, .int .i64 1, .int .i64 1] 35)).cell? ⟨w.heap.size, 2, none⟩ = some (.int .i64 1) := HP.out.p4
  go_enter Try.func30, Try.ntmps30
  go_wp2_with fail
  refine (lessrows_nil _).mono ?_
  rintro e w1 ⟨rfl, o1⟩
  have H1 := Lib.hid (HP.out.off o1)
  have k1 : w1.cell? ⟨w.heap.size, 0, none⟩ = some (.int .i64 0) ∧ w1.cell? ⟨w.heap.size, 1, none⟩ = some (.int .i64 1) ∧ w1.cell? ⟨w.heap.size, 2, none⟩ = some (.int .i64 1) := H1.out.p4
  clear o1 k0
  go_wp2_with fail
  refine (lessrows_nil2 _).mono ?_
  rintro e w2 ⟨rfl, o2⟩
  have H2 := Lib.hid (H1.out.off o2)
  clear o2 k1
  go_wp2
  go_ret
  exact ⟨rfl, H2.out.1⟩
set_option maxHeartbeats 4000000 in
theorem doNil_2 (w : World) : Calls Try.prog 30 #[.pointer none, .pointer none, .int .u8 2, .agg #[.int .i64 0, .int .i64 1, .int .i64 1]] w (BoolNew true w) := by
  have HP := Lib.hid (Solo.new w 35 (pcs 0 1 1))
  have k0 : (w.alloc (.cells #[.int .i64 0, .int .i64 1, .int .i64 1] 35)).cell? ⟨w.heap.size, 0, none⟩ = some (.int .i64 0) ∧ (w.alloc (.cells #[.int .i64 0, .int .i64 1, .int .i64 1] 35)).cell? ⟨w.heap.size, 1, none⟩ = some (.int .i64 1) ∧ (w.alloc (.cells #[.int .i64 0, .int .i64 1, .int .i64 1] 35)).cell? ⟨w.heap.size, 2, none⟩ = some (.int .i64 1) := HP.out.p4
  go_enter Try.func30, Try.ntmps30
  go_wp2_with fail
  go_region_held3 (fun w' => w'.cell? ⟨w.heap.size, 0, none⟩ = some (.int .i64 0) ∧ w'.cell? ⟨w.heap.size, 1, none⟩ = some (.int .i64 1) ∧ w'.cell? ⟨w.heap.size, 2, none⟩ = some (.int .i64 1))
    (first | with_reducible assumption | go_keep)
    (first
      | (go_at_call 32; refine (exchange_nil _).mono ?_; rintro e w1 ⟨rfl, o1⟩; have H1 := Lib.hid (HP.out.off (Off.also (by first | exact Off.refl _ _ | exact Off.drew (Off.refl _ _)) o1)); have k1 : w1.cell? ⟨w.heap.size, 0, none⟩ = some (.int .i64 0) ∧ w1.cell? ⟨w.heap.size, 1, none⟩ = some (.int .i64 1) ∧ w1.cell? ⟨w.heap.size, 2, none⟩ = some (.int .i64 1) := H1.out.p4; clear o1)
      | (go_at_call 54; refine (exchange_nil2 _).mono ?_; rintro e w2 ⟨rfl, o2⟩; have H2 := Lib.hid (H1.out.off (Off.also (by first | exact Off.refl _ _ | exact Off.drew (Off.refl _ _)) o2)); have k2 : w2.cell? ⟨w.heap.size, 0, none⟩ = some (.int .i64 0) ∧ w2.cell? ⟨w.heap.size, 1, none⟩ = some (.int .i64 1) ∧ w2.cell? ⟨w.heap.size, 2, none⟩ = some (.int .i64 1) := H2.out.p4; clear o2))
  go_wp2
  go_ret
  exact ⟨rfl, H2.out.1⟩
set_option maxHeartbeats 4000000 in
theorem doNil_3 (w : World) : Calls Try.prog 30 #[.pointer none, .pointer none, .int .u8 3, .agg #[.int .i64 0, .int .i64 1, .int .i64 1]] w (BoolNew true w) := by
  have HP := Lib.hid (Solo.new w 35 (pcs 0 1 1))
  have k0 : (w.alloc (.cells #[.int .i64 0, .int .i64 1, .int .i64 1] 35)).cell? ⟨w.heap.size, 0, none⟩ = some (.int .i64 0) ∧ (w.alloc (.cells #[.int .i64 0, .int .i64 1, .int .i64 1] 35)).cell? ⟨w.heap.size, 1, none⟩ = some (.int .i64 1) ∧ (w.alloc (.cells #[.int .i64 0, .int .i64 1, .int .i64 1] 35)).cell? ⟨w.heap.size, 2, none⟩ = some (.int .i64 1) := HP.out.p4
  go_enter Try.func30, Try.ntmps30
  go_wp2_with fail
  go_region_held3 (fun w' => w'.cell? ⟨w.heap.size, 0, none⟩ = some (.int .i64 0) ∧ w'.cell? ⟨w.heap.size, 1, none⟩ = some (.int .i64 1) ∧ w'.cell? ⟨w.heap.size, 2, none⟩ = some (.int .i64 1))
    (first | with_reducible assumption | go_keep)
    (first
      | (go_at_call 14; refine (sort_nil _).mono ?_; rintro e w1 ⟨rfl, o1⟩; have H1 := Lib.hid (HP.out.off (Off.also (by first | exact Off.refl _ _ | exact Off.drew (Off.refl _ _)) o1)); have k1 : w1.cell? ⟨w.heap.size, 0, none⟩ = some (.int .i64 0) ∧ w1.cell? ⟨w.heap.size, 1, none⟩ = some (.int .i64 1) ∧ w1.cell? ⟨w.heap.size, 2, none⟩ = some (.int .i64 1) := H1.out.p4; clear o1)
      | (go_at_call 55; refine (sort_nil2 _).mono ?_; rintro e w2 ⟨rfl, o2⟩; have H2 := Lib.hid (H1.out.off (Off.also (by first | exact Off.refl _ _ | exact Off.drew (Off.refl _ _)) o2)); have k2 : w2.cell? ⟨w.heap.size, 0, none⟩ = some (.int .i64 0) ∧ w2.cell? ⟨w.heap.size, 1, none⟩ = some (.int .i64 1) ∧ w2.cell? ⟨w.heap.size, 2, none⟩ = some (.int .i64 1) := H2.out.p4; clear o2))
  go_wp2
  go_ret
  exact ⟨rfl, H2.out.1⟩
theorem doNil (w : World) (k : Nat) (hk : k < 4) : Calls Try.prog 30 #[.pointer none, .pointer none, .int .u8 k, .agg #[.int .i64 0, .int .i64 1, .int .i64 1]] w (BoolNew true w) := by
  match k, hk with
  | 0, _ => exact doNil_0 w
  | 1, _ => exact doNil_1 w
  | 2, _ => exact doNil_2 w
  | 3, _ => exact doNil_3 w

end Go.Proofs.Ytdgehacbpjgmcaa
