/-
  dragnetlaw07.do: a call in both arenas, and one without arenas.
-/
import Derived.Test.YtoplnkpjepejkaaRef07Ops
namespace Go.Proofs.Ytoplnkpjepejkaa
open Go.RowKit
attribute [local go_sem] bits_and_u64 bits_or_u64 bits_xor_u64 bits_andNot_u64 wrap_u64 bv_add bv_neg bv_sub bv_mul
set_option linter.unusedVariables false
set_option maxRecDepth 100000
/-- The cells of a Call. -/
def mcs (m : BitVec 64) (x y n : Int) : Array Value := #[.int .u64 (n64 m), .int .i64 x, .int .i64 y, .int .i64 n]
theorem Pair.c4 {w0 w : World} {b : Nat} {m : BitVec 64} {x y n : Int} {t : TypeId} {p r : Nat} {C C' : List (BitVec 64)} {E E' : List Ev} (h : Pair w0 w b t (mcs m x y n) p r C E C' E') :
    w.cell? ⟨b, 0, none⟩ = some (.int .u64 (n64 m)) ∧ w.cell? ⟨b, 1, none⟩ = some (.int .i64 x) ∧ w.cell? ⟨b, 2, none⟩ = some (.int .i64 y) ∧ w.cell? ⟨b, 3, none⟩ = some (.int .i64 n) := ⟨h.cell 0, h.cell 1, h.cell 2, h.cell 3⟩
theorem Solo.c4 {w0 w : World} {b : Nat} {m : BitVec 64} {x y n : Int} {t : TypeId} (h : Solo w0 w b t (mcs m x y n)) :
    w.cell? ⟨b, 0, none⟩ = some (.int .u64 (n64 m)) ∧ w.cell? ⟨b, 1, none⟩ = some (.int .i64 x) ∧ w.cell? ⟨b, 2, none⟩ = some (.int .i64 y) ∧ w.cell? ⟨b, 3, none⟩ = some (.int .i64 n) := ⟨h.2.cell 0, h.2.cell 1, h.2.cell 2, h.2.cell 3⟩
/-- What a call in both arenas leaves: the same errors. -/
def DoPost2 (w0 : World) (p r : Nat) (e : Ending) (w' : World) : Prop := ∃ c : Int, e = .returned (.tuple #[.int .i64 c, .int .i64 c]) ∧ ∃ C E, Both w0 w' p r C E
section
variable {w0 w : World} {p r : Nat} {C : List (BitVec 64)} {E : List Ev}
set_option maxHeartbeats 4000000 in
theorem do_0 (h : Both w0 w p r C E) (z : Int) (h0 : 0 ≤ z) (h1 : z ≤ 255) (hz : z % 5 = 0) (m : BitVec 64) (x y n : Int) :
    Calls Try.prog 28 #[.pointer (some ⟨p, 0, none⟩), .pointer (some ⟨r, 0, none⟩), .int .u8 z, .agg #[.int .u64 (n64 m), .int .i64 x, .int .i64 y, .int .i64 n]] w (DoPost2 w0 p r) := by
  have HP := Lib.hid (h.pair 31 (mcs m x y n))
  have k0 := HP.out.c4
  have hq0 : (z % 5 == 0) = true := by rw [beq_iff_eq]; omega
  clear h hz
  go_enter Try.func28, Try.ntmps28
  go_wp2_with fail
  go_region_held3 (fun w' => w'.cell? ⟨w.heap.size, 0, none⟩ = some (.int .u64 (n64 m)) ∧ w'.cell? ⟨w.heap.size, 1, none⟩ = some (.int .i64 x) ∧ w'.cell? ⟨w.heap.size, 2, none⟩ = some (.int .i64 y) ∧ w'.cell? ⟨w.heap.size, 3, none⟩ = some (.int .i64 n))
    (first | assumption | go_keep)
    (first
      | (go_at_call 30; refine (Pair.first (HP.out.off (by first | exact Off.refl _ _ | exact Off.drew (Off.refl _ _) | exact Off.drewN (Off.refl _ _) _)) (fun w F h => swapA_any h m x y)).mono ?_; rintro e w1 ⟨rfl, h1⟩; have k1 := h1.c4; have H1 := Lib.hid h1; clear h1)
      | (go_at_call 50; refine (Pair.second (H1.out.off (by first | exact Off.refl _ _ | exact Off.drew (Off.refl _ _) | exact Off.drewN (Off.refl _ _) _)) (fun w F h => rswapA_any h m x y)).mono ?_; rintro e w2 ⟨rfl, h2⟩; have k2 := h2.c4; have H2 := Lib.hid h2; clear h2))
  go_wp2
  go_ret2
  exact ⟨_, rfl, _, _, H2.out.both⟩
set_option maxHeartbeats 4000000 in
theorem do_1 (h : Both w0 w p r C E) (z : Int) (h0 : 0 ≤ z) (h1 : z ≤ 255) (hz : z % 5 = 1) (m : BitVec 64) (x y n : Int) :
    Calls Try.prog 28 #[.pointer (some ⟨p, 0, none⟩), .pointer (some ⟨r, 0, none⟩), .int .u8 z, .agg #[.int .u64 (n64 m), .int .i64 x, .int .i64 y, .int .i64 n]] w (DoPost2 w0 p r) := by
  have HP := Lib.hid (h.pair 31 (mcs m x y n))
  have k0 := HP.out.c4
  have hq0 : (z % 5 == 0) = false := by rw [beq_eq_false_iff_ne]; omega
  have hq1 : (z % 5 == 1) = true := by rw [beq_iff_eq]; omega
  clear h hz
  go_enter Try.func28, Try.ntmps28
  go_wp2_with fail
  go_region_held3 (fun w' => w'.cell? ⟨w.heap.size, 0, none⟩ = some (.int .u64 (n64 m)) ∧ w'.cell? ⟨w.heap.size, 1, none⟩ = some (.int .i64 x) ∧ w'.cell? ⟨w.heap.size, 2, none⟩ = some (.int .i64 y) ∧ w'.cell? ⟨w.heap.size, 3, none⟩ = some (.int .i64 n))
    (first | assumption | go_keep)
    (first
      | (go_at_call 31; refine (Pair.first (HP.out.off (by first | exact Off.refl _ _ | exact Off.drew (Off.refl _ _) | exact Off.drewN (Off.refl _ _) _)) (fun w F h => moveA_any h m x y)).mono ?_; rintro e w1 ⟨rfl, h1⟩; have k1 := h1.c4; have H1 := Lib.hid h1; clear h1)
      | (go_at_call 51; refine (Pair.second (H1.out.off (by first | exact Off.refl _ _ | exact Off.drew (Off.refl _ _) | exact Off.drewN (Off.refl _ _) _)) (fun w F h => rmoveA_any h m x y)).mono ?_; rintro e w2 ⟨rfl, h2⟩; have k2 := h2.c4; have H2 := Lib.hid h2; clear h2))
  go_wp2
  go_ret2
  exact ⟨_, rfl, _, _, H2.out.both⟩
set_option maxHeartbeats 4000000 in
theorem do_2 (h : Both w0 w p r C E) (z : Int) (h0 : 0 ≤ z) (h1 : z ≤ 255) (hz : z % 5 = 2) (m : BitVec 64) (x y n : Int) :
    Calls Try.prog 28 #[.pointer (some ⟨p, 0, none⟩), .pointer (some ⟨r, 0, none⟩), .int .u8 z, .agg #[.int .u64 (n64 m), .int .i64 x, .int .i64 y, .int .i64 n]] w (DoPost2 w0 p r) := by
  have HP := Lib.hid (h.pair 31 (mcs m x y n))
  have k0 := HP.out.c4
  have hq0 : (z % 5 == 0) = false := by rw [beq_eq_false_iff_ne]; omega
  have hq1 : (z % 5 == 1) = false := by rw [beq_eq_false_iff_ne]; omega
  have hq2 : (z % 5 == 2) = true := by rw [beq_iff_eq]; omega
  clear h hz
  go_enter Try.func28, Try.ntmps28
  go_wp2_with fail
  go_region_held3 (fun w' => w'.cell? ⟨w.heap.size, 0, none⟩ = some (.int .u64 (n64 m)) ∧ w'.cell? ⟨w.heap.size, 1, none⟩ = some (.int .i64 x) ∧ w'.cell? ⟨w.heap.size, 2, none⟩ = some (.int .i64 y) ∧ w'.cell? ⟨w.heap.size, 3, none⟩ = some (.int .i64 n))
    (first | assumption | go_keep)
    (first
      | (go_at_call 27; refine (Pair.first (HP.out.off (by first | exact Off.refl _ _ | exact Off.drew (Off.refl _ _) | exact Off.drewN (Off.refl _ _) _)) (fun w F h => clearA_any h m x)).mono ?_; rintro e w1 ⟨rfl, h1⟩; have k1 := h1.c4; have H1 := Lib.hid h1; clear h1)
      | (go_at_call 52; refine (Pair.second (H1.out.off (by first | exact Off.refl _ _ | exact Off.drew (Off.refl _ _) | exact Off.drewN (Off.refl _ _) _)) (fun w F h => rclearA_any h m x)).mono ?_; rintro e w2 ⟨rfl, h2⟩; have k2 := h2.c4; have H2 := Lib.hid h2; clear h2))
  go_wp2
  go_ret2
  exact ⟨_, rfl, _, _, H2.out.both⟩
set_option maxHeartbeats 4000000 in
theorem do_3 (h : Both w0 w p r C E) (z : Int) (h0 : 0 ≤ z) (h1 : z ≤ 255) (hz : z % 5 = 3) (m : BitVec 64) (x y n : Int) :
    Calls Try.prog 28 #[.pointer (some ⟨p, 0, none⟩), .pointer (some ⟨r, 0, none⟩), .int .u8 z, .agg #[.int .u64 (n64 m), .int .i64 x, .int .i64 y, .int .i64 n]] w (DoPost2 w0 p r) := by
  have HP := Lib.hid (h.pair 31 (mcs m x y n))
  have k0 := HP.out.c4
  have hq0 : (z % 5 == 0) = false := by rw [beq_eq_false_iff_ne]; omega
  have hq1 : (z % 5 == 1) = false := by rw [beq_eq_false_iff_ne]; omega
  have hq2 : (z % 5 == 2) = false := by rw [beq_eq_false_iff_ne]; omega
  have hq3 : (z % 5 == 3) = true := by rw [beq_iff_eq]; omega
  clear h hz
  go_enter Try.func28, Try.ntmps28
  go_wp2_with fail
  go_region_held3 (fun w' => w'.cell? ⟨w.heap.size, 0, none⟩ = some (.int .u64 (n64 m)) ∧ w'.cell? ⟨w.heap.size, 1, none⟩ = some (.int .i64 x) ∧ w'.cell? ⟨w.heap.size, 2, none⟩ = some (.int .i64 y) ∧ w'.cell? ⟨w.heap.size, 3, none⟩ = some (.int .i64 n))
    (first | assumption | go_keep)
    (first
      | (go_at_call 23; refine (Pair.first (HP.out.off (by first | exact Off.refl _ _ | exact Off.drew (Off.refl _ _) | exact Off.drewN (Off.refl _ _) _)) (fun w F h => swapRows_any h m x y n)).mono ?_; rintro e w1 ⟨rfl, h1⟩; have k1 := h1.c4; have H1 := Lib.hid h1; clear h1)
      | (go_at_call 53; refine (Pair.second (H1.out.off (by first | exact Off.refl _ _ | exact Off.drew (Off.refl _ _) | exact Off.drewN (Off.refl _ _) _)) (fun w F h => rswapRows_any h m x y n)).mono ?_; rintro e w2 ⟨rfl, h2⟩; have k2 := h2.c4; have H2 := Lib.hid h2; clear h2))
  go_wp2
  go_ret2
  exact ⟨_, rfl, _, _, H2.out.both⟩
set_option maxHeartbeats 4000000 in
theorem do_4 (h : Both w0 w p r C E) (z : Int) (h0 : 0 ≤ z) (h1 : z ≤ 255) (hz : z % 5 = 4) (m : BitVec 64) (x y n : Int) :
    Calls Try.prog 28 #[.pointer (some ⟨p, 0, none⟩), .pointer (some ⟨r, 0, none⟩), .int .u8 z, .agg #[.int .u64 (n64 m), .int .i64 x, .int .i64 y, .int .i64 n]] w (DoPost2 w0 p r) := by
  have HP := Lib.hid (h.pair 31 (mcs m x y n))
  have k0 := HP.out.c4
  have hq0 : (z % 5 == 0) = false := by rw [beq_eq_false_iff_ne]; omega
  have hq1 : (z % 5 == 1) = false := by rw [beq_eq_false_iff_ne]; omega
  have hq2 : (z % 5 == 2) = false := by rw [beq_eq_false_iff_ne]; omega
  have hq3 : (z % 5 == 3) = false := by rw [beq_eq_false_iff_ne]; omega
  clear h hz
  go_enter Try.func28, Try.ntmps28
  go_wp2_with fail
  go_region_held3 (fun w' => w'.cell? ⟨w.heap.size, 0, none⟩ = some (.int .u64 (n64 m)) ∧ w'.cell? ⟨w.heap.size, 1, none⟩ = some (.int .i64 x) ∧ w'.cell? ⟨w.heap.size, 2, none⟩ = some (.int .i64 y) ∧ w'.cell? ⟨w.heap.size, 3, none⟩ = some (.int .i64 n))
    (first | assumption | go_keep)
    (first
      | (go_at_call 26; refine (Pair.first (HP.out.off (by first | exact Off.refl _ _ | exact Off.drew (Off.refl _ _) | exact Off.drewN (Off.refl _ _) _)) (fun w F h => moveRows_any h m x y n)).mono ?_; rintro e w1 ⟨rfl, h1⟩; have k1 := h1.c4; have H1 := Lib.hid h1; clear h1)
      | (go_at_call 54; refine (Pair.second (H1.out.off (by first | exact Off.refl _ _ | exact Off.drew (Off.refl _ _) | exact Off.drewN (Off.refl _ _) _)) (fun w F h => rmoveRows_any h m x y n)).mono ?_; rintro e w2 ⟨rfl, h2⟩; have k2 := h2.c4; have H2 := Lib.hid h2; clear h2))
  go_wp2
  go_ret2
  exact ⟨_, rfl, _, _, H2.out.both⟩
theorem do_any (h : Both w0 w p r C E) (z : Int) (h0 : 0 ≤ z) (h1 : z ≤ 255) (m : BitVec 64) (x y n : Int) :
    Calls Try.prog 28 #[.pointer (some ⟨p, 0, none⟩), .pointer (some ⟨r, 0, none⟩), .int .u8 z, .agg #[.int .u64 (n64 m), .int .i64 x, .int .i64 y, .int .i64 n]] w (DoPost2 w0 p r) := by
  have h5 : z % 5 = 0 ∨ z % 5 = 1 ∨ z % 5 = 2 ∨ z % 5 = 3 ∨ z % 5 = 4 := by omega
  rcases h5 with h5 | h5 | h5 | h5 | h5
  · exact do_0 h z h0 h1 h5 m x y n
  · exact do_1 h z h0 h1 h5 m x y n
  · exact do_2 h z h0 h1 h5 m x y n
  · exact do_3 h z h0 h1 h5 m x y n
  · exact do_4 h z h0 h1 h5 m x y n
end
theorem check_nil (w : World) (b : Nat) (hc : w.cell? ⟨b, 0, none⟩ = some (.int .i64 0)) :
    Calls Try.prog 48 #[.pointer none, .int .u64 18446744073709551615, .int .i64 1, .int .i64 4, .slice (some ⟨b, 0, none⟩) 2 2] w fun e w' => e = .returned (.int .i64 1) ∧ w = w' := by
  go_enter Try.func48, Try.ntmps48
  go_wp2_with fail
  refine Calls.mono (R := fun e w1 => e = .returned (.bool true) ∧ w = w1) (is_any (msk true) w) ?_
  rintro e w' ⟨rfl, rfl⟩
  go_wp2_with fail
  refine wp_loop_rounds 1 ?_
  rw [rounds_succ]
  go_wp2_with fail
  refine (has_nil w 0 1).mono ?_
  rintro e w' ⟨rfl, rfl⟩
  go_wp2
  go_ret
  exact ⟨rfl, rfl⟩
theorem rAsked_nil (w : World) (b : Nat) (hc : w.cell? ⟨b, 0, none⟩ = some (.int .i64 0)) :
    Calls Try.prog 63 #[.pointer none, .int .u64 18446744073709551615, .slice (some ⟨b, 0, none⟩) 2 2, .int .i64 1, .int .i64 4] w fun e w' => e = .returned (.int .i64 1) ∧ w = w' := by
  go_enter Try.func63, Try.ntmps63
  go_wp2_with fail
  refine Calls.mono (R := fun e w1 => e = .returned (.bool true) ∧ w = w1) (ris_any (msk true) w) ?_
  rintro e w' ⟨rfl, rfl⟩
  go_wp2_with fail
  refine wp_loop_rounds 1 ?_
  rw [rounds_succ]
  go_wp2_with fail
  refine (rhas_nil w 0 1).mono ?_
  rintro e w' ⟨rfl, rfl⟩
  go_wp2
  go_ret
  exact ⟨rfl, rfl⟩
theorem swap_nil (w : World) : Calls Try.prog 30 #[.pointer none, .int .u64 18446744073709551615, .int .i64 0, .int .i64 0] w fun e w' => e = .returned (.int .i64 1) ∧ Off Nob w w' := by
  go_enter Try.func30, Try.ntmps30
  go_wp2_with fail
  refine (check_nil _ w.heap.size (by simp)).mono ?_
  rintro e w' ⟨rfl, rfl⟩
  go_wp2
  go_ret
  exact ⟨rfl, Off.alloc (Off.refl _ _) _⟩
theorem rswap_nil (w : World) : Calls Try.prog 50 #[.pointer none, .int .u64 18446744073709551615, .int .i64 0, .int .i64 0] w fun e w' => e = .returned (.int .i64 1) ∧ Off Nob w w' := by
  go_enter Try.func50, Try.ntmps50
  go_wp2_with fail
  refine (rAsked_nil _ w.heap.size (by simp)).mono ?_
  rintro e w' ⟨rfl, rfl⟩
  go_wp2
  go_ret
  exact ⟨rfl, Off.alloc (Off.refl _ _) _⟩
set_option maxHeartbeats 4000000 in
theorem doNil (w : World) : Calls Try.prog 28 #[.pointer none, .pointer none, .int .u8 0, .agg #[.int .u64 18446744073709551615, .int .i64 0, .int .i64 0, .int .i64 0]] w fun e w' => e = .returned (.tuple #[.int .i64 1, .int .i64 1]) ∧ Off Nob w w' := by
  have HP := Lib.hid (Solo.new w 31 (mcs (msk true) 0 0 0))
  have k0 : (w.alloc (.cells #[.int .u64 18446744073709551615, .int .i64 0, .int .i64 0, .int .i64 0] 31)).cell? ⟨w.heap.size, 0, none⟩ = some (.int .u64 18446744073709551615) ∧ (w.alloc (.cells #[.int .u64 18446744073709551615, .int .i64 0, .int .i64 0, .int .i64 0] 31)).cell? ⟨w.heap.size, 1, none⟩ = some (.int .i64 0) ∧ (w.alloc (.cells #[.int .u64 18446744073709551615, .int .i64 0, .int .i64 0, .int .i64 0] 31)).cell? ⟨w.heap.size, 2, none⟩ = some (.int .i64 0) ∧ (w.alloc (.cells #[.int .u64 18446744073709551615, .int .i64 0, .int .i64 0, .int .i64 0] 31)).cell? ⟨w.heap.size, 3, none⟩ = some (.int .i64 0) := HP.out.c4
  go_enter Try.func28, Try.ntmps28
  go_wp2_with fail
  go_region_held3 (fun w' => w'.cell? ⟨w.heap.size, 0, none⟩ = some (.int .u64 18446744073709551615) ∧ w'.cell? ⟨w.heap.size, 1, none⟩ = some (.int .i64 0) ∧ w'.cell? ⟨w.heap.size, 2, none⟩ = some (.int .i64 0) ∧ w'.cell? ⟨w.heap.size, 3, none⟩ = some (.int .i64 0))
    (first | assumption | go_keep)
    (first
      | (go_at_call 30; refine (swap_nil _).mono ?_; rintro e w1 ⟨rfl, o1⟩; have H1 := Lib.hid (HP.out.off (Off.also (by first | exact Off.refl _ _ | exact Off.drew (Off.refl _ _) | exact Off.drewN (Off.refl _ _) _) o1)); have k1 : w1.cell? ⟨w.heap.size, 0, none⟩ = some (.int .u64 18446744073709551615) ∧ w1.cell? ⟨w.heap.size, 1, none⟩ = some (.int .i64 0) ∧ w1.cell? ⟨w.heap.size, 2, none⟩ = some (.int .i64 0) ∧ w1.cell? ⟨w.heap.size, 3, none⟩ = some (.int .i64 0) := H1.out.c4; clear o1)
      | (go_at_call 50; refine (rswap_nil _).mono ?_; rintro e w2 ⟨rfl, o2⟩; have H2 := Lib.hid (H1.out.off (Off.also (by first | exact Off.refl _ _ | exact Off.drew (Off.refl _ _) | exact Off.drewN (Off.refl _ _) _) o2)); have k2 : w2.cell? ⟨w.heap.size, 0, none⟩ = some (.int .u64 18446744073709551615) ∧ w2.cell? ⟨w.heap.size, 1, none⟩ = some (.int .i64 0) ∧ w2.cell? ⟨w.heap.size, 2, none⟩ = some (.int .i64 0) ∧ w2.cell? ⟨w.heap.size, 3, none⟩ = some (.int .i64 0) := H2.out.c4; clear o2))
  go_wp2
  go_ret2
  exact ⟨rfl, H2.out.1⟩

end Go.Proofs.Ytoplnkpjepejkaa
