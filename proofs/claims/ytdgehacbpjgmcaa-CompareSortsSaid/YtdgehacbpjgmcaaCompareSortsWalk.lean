/-
  The walk of dragnetlaw08.CompareSorts.
-/
import Derived.Test.YtdgehacbpjgmcaaSortsSmall
namespace Go.Proofs.Ytdgehacbpjgmcaa
open Go.RowKit
set_option linter.unusedVariables false
set_option linter.unusedSimpArgs false
set_option maxRecDepth 100000
attribute [local go_sem ↓] run_min_mnI
set_option maxHeartbeats 1000000 in
theorem sorts_none0 (w : World) (A0 : Option Addr) (n0 c0 : Nat) (X Y N : Int) (ms : Int) (hn : n0 ≤ maxLen) (hX : -9223372036854775808 ≤ X ∧ X < 9223372036854775808) (hY : -9223372036854775808 ≤ Y ∧ Y < 9223372036854775808) (hN : -9223372036854775808 ≤ N ∧ N < 9223372036854775808)
(h0 : ((200 : Int) < (n0 : Int))) :
    Calls Try.prog 4 #[.slice A0 n0 c0, .agg #[.int .i64 X, .int .i64 Y, .int .i64 N], .int .u8 ms] w (BoolNew true w) := by
  unfold maxLen at hn
  have g0 : decide ((200 : Int) < (n0 : Int)) = true := decide_eq_true (by omega)
  go_enter Try.func4, Try.ntmps4
  go_wp2_with fail
  refine (awake_ok _).mono ?_
  rintro e w' ⟨rfl, o1⟩
  go_wp2_with fail
  go_ret
  exact ⟨rfl, (Off.alloc (Off.refl _ _) _).also o1⟩
set_option maxHeartbeats 1000000 in
theorem sorts_none1 (w : World) (A0 : Option Addr) (n0 c0 : Nat) (X Y N : Int) (ms : Int) (hn : n0 ≤ maxLen) (hX : -9223372036854775808 ≤ X ∧ X < 9223372036854775808) (hY : -9223372036854775808 ≤ Y ∧ Y < 9223372036854775808) (hN : -9223372036854775808 ≤ N ∧ N < 9223372036854775808)
(h0 : ¬ ((200 : Int) < (n0 : Int))) (h1 : (N < 2)) :
    Calls Try.prog 4 #[.slice A0 n0 c0, .agg #[.int .i64 X, .int .i64 Y, .int .i64 N], .int .u8 ms] w (BoolNew true w) := by
  unfold maxLen at hn
  have g0 : decide ((200 : Int) < (n0 : Int)) = false := decide_eq_false (by omega)
  have g1 : decide (N < 2) = true := decide_eq_true (by omega)
  go_enter Try.func4, Try.ntmps4
  go_wp2_with fail
  refine (awake_ok _).mono ?_
  rintro e w' ⟨rfl, o1⟩
  go_wp2_with fail
  go_ret
  exact ⟨rfl, (Off.alloc (Off.refl _ _) _).also o1⟩
set_option maxHeartbeats 1000000 in
theorem sorts_none2 (w : World) (A0 : Option Addr) (n0 c0 : Nat) (X Y N : Int) (ms : Int) (hn : n0 ≤ maxLen) (hX : -9223372036854775808 ≤ X ∧ X < 9223372036854775808) (hY : -9223372036854775808 ≤ Y ∧ Y < 9223372036854775808) (hN : -9223372036854775808 ≤ N ∧ N < 9223372036854775808)
(h0 : ¬ ((200 : Int) < (n0 : Int))) (h1 : ¬ (N < 2)) (h2 : (64 < N)) :
    Calls Try.prog 4 #[.slice A0 n0 c0, .agg #[.int .i64 X, .int .i64 Y, .int .i64 N], .int .u8 ms] w (BoolNew true w) := by
  unfold maxLen at hn
  have g0 : decide ((200 : Int) < (n0 : Int)) = false := decide_eq_false (by omega)
  have g1 : decide (N < 2) = false := decide_eq_false (by omega)
  have g2 : decide (64 < N) = true := decide_eq_true (by omega)
  go_enter Try.func4, Try.ntmps4
  go_wp2_with fail
  refine (awake_ok _).mono ?_
  rintro e w' ⟨rfl, o1⟩
  go_wp2_with fail
  go_ret
  exact ⟨rfl, (Off.alloc (Off.refl _ _) _).also o1⟩
set_option maxHeartbeats 1000000 in
theorem sorts_none3 (w : World) (A0 : Option Addr) (n0 c0 : Nat) (X Y N : Int) (ms : Int) (hn : n0 ≤ maxLen) (hX : -9223372036854775808 ≤ X ∧ X < 9223372036854775808) (hY : -9223372036854775808 ≤ Y ∧ Y < 9223372036854775808) (hN : -9223372036854775808 ≤ N ∧ N < 9223372036854775808)
(h0 : ¬ ((200 : Int) < (n0 : Int))) (h1 : ¬ (N < 2)) (h2 : ¬ (64 < N)) (h3 : (Y < 1)) :
    Calls Try.prog 4 #[.slice A0 n0 c0, .agg #[.int .i64 X, .int .i64 Y, .int .i64 N], .int .u8 ms] w (BoolNew true w) := by
  unfold maxLen at hn
  have g0 : decide ((200 : Int) < (n0 : Int)) = false := decide_eq_false (by omega)
  have g1 : decide (N < 2) = false := decide_eq_false (by omega)
  have g2 : decide (64 < N) = false := decide_eq_false (by omega)
  have g3 : decide (Y < 1) = true := decide_eq_true (by omega)
  go_enter Try.func4, Try.ntmps4
  go_wp2_with fail
  refine (awake_ok _).mono ?_
  rintro e w' ⟨rfl, o1⟩
  go_wp2_with fail
  go_ret
  exact ⟨rfl, (Off.alloc (Off.refl _ _) _).also o1⟩
set_option maxHeartbeats 1000000 in
theorem sorts_none4 (w : World) (A0 : Option Addr) (n0 c0 : Nat) (X Y N : Int) (ms : Int) (hn : n0 ≤ maxLen) (hX : -9223372036854775808 ≤ X ∧ X < 9223372036854775808) (hY : -9223372036854775808 ≤ Y ∧ Y < 9223372036854775808) (hN : -9223372036854775808 ≤ N ∧ N < 9223372036854775808)
(h0 : ¬ ((200 : Int) < (n0 : Int))) (h1 : ¬ (N < 2)) (h2 : ¬ (64 < N)) (h3 : ¬ (Y < 1)) (h4 : (16 < Y)) :
    Calls Try.prog 4 #[.slice A0 n0 c0, .agg #[.int .i64 X, .int .i64 Y, .int .i64 N], .int .u8 ms] w (BoolNew true w) := by
  unfold maxLen at hn
  have g0 : decide ((200 : Int) < (n0 : Int)) = false := decide_eq_false (by omega)
  have g1 : decide (N < 2) = false := decide_eq_false (by omega)
  have g2 : decide (64 < N) = false := decide_eq_false (by omega)
  have g3 : decide (Y < 1) = false := decide_eq_false (by omega)
  have g4 : decide (16 < Y) = true := decide_eq_true (by omega)
  go_enter Try.func4, Try.ntmps4
  go_wp2_with fail
  refine (awake_ok _).mono ?_
  rintro e w' ⟨rfl, o1⟩
  go_wp2_with fail
  go_ret
  exact ⟨rfl, (Off.alloc (Off.refl _ _) _).also o1⟩
set_option maxHeartbeats 1000000 in
theorem sorts_none5 (w : World) (A0 : Option Addr) (n0 c0 : Nat) (X Y N : Int) (ms : Int) (hn : n0 ≤ maxLen) (hX : -9223372036854775808 ≤ X ∧ X < 9223372036854775808) (hY : -9223372036854775808 ≤ Y ∧ Y < 9223372036854775808) (hN : -9223372036854775808 ≤ N ∧ N < 9223372036854775808)
(h0 : ¬ ((200 : Int) < (n0 : Int))) (h1 : ¬ (N < 2)) (h2 : ¬ (64 < N)) (h3 : ¬ (Y < 1)) (h4 : ¬ (16 < Y)) (h5 : (X < 0)) :
    Calls Try.prog 4 #[.slice A0 n0 c0, .agg #[.int .i64 X, .int .i64 Y, .int .i64 N], .int .u8 ms] w (BoolNew true w) := by
  unfold maxLen at hn
  have g0 : decide ((200 : Int) < (n0 : Int)) = false := decide_eq_false (by omega)
  have g1 : decide (N < 2) = false := decide_eq_false (by omega)
  have g2 : decide (64 < N) = false := decide_eq_false (by omega)
  have g3 : decide (Y < 1) = false := decide_eq_false (by omega)
  have g4 : decide (16 < Y) = false := decide_eq_false (by omega)
  have g5 : decide (X < 0) = true := decide_eq_true (by omega)
  go_enter Try.func4, Try.ntmps4
  go_wp2_with fail
  refine (awake_ok _).mono ?_
  rintro e w' ⟨rfl, o1⟩
  go_wp2_with fail
  go_ret
  exact ⟨rfl, (Off.alloc (Off.refl _ _) _).also o1⟩
set_option maxHeartbeats 1000000 in
theorem sorts_none6 (w : World) (A0 : Option Addr) (n0 c0 : Nat) (X Y N : Int) (ms : Int) (hn : n0 ≤ maxLen) (hX : -9223372036854775808 ≤ X ∧ X < 9223372036854775808) (hY : -9223372036854775808 ≤ Y ∧ Y < 9223372036854775808) (hN : -9223372036854775808 ≤ N ∧ N < 9223372036854775808)
(h0 : ¬ ((200 : Int) < (n0 : Int))) (h1 : ¬ (N < 2)) (h2 : ¬ (64 < N)) (h3 : ¬ (Y < 1)) (h4 : ¬ (16 < Y)) (h5 : ¬ (X < 0)) (h6 : ((n0 : Int) < X)) :
    Calls Try.prog 4 #[.slice A0 n0 c0, .agg #[.int .i64 X, .int .i64 Y, .int .i64 N], .int .u8 ms] w (BoolNew true w) := by
  unfold maxLen at hn
  have g0 : decide ((200 : Int) < (n0 : Int)) = false := decide_eq_false (by omega)
  have g1 : decide (N < 2) = false := decide_eq_false (by omega)
  have g2 : decide (64 < N) = false := decide_eq_false (by omega)
  have g3 : decide (Y < 1) = false := decide_eq_false (by omega)
  have g4 : decide (16 < Y) = false := decide_eq_false (by omega)
  have g5 : decide (X < 0) = false := decide_eq_false (by omega)
  have g6 : decide ((n0 : Int) < X) = true := decide_eq_true (by omega)
  go_enter Try.func4, Try.ntmps4
  go_wp2_with fail
  refine (awake_ok _).mono ?_
  rintro e w' ⟨rfl, o1⟩
  go_wp2_with fail
  go_ret
  exact ⟨rfl, (Off.alloc (Off.refl _ _) _).also o1⟩
set_option maxHeartbeats 1000000 in
theorem sorts_none7 (w : World) (A0 : Option Addr) (n0 c0 : Nat) (X Y N : Int) (ms : Int) (hn : n0 ≤ maxLen) (hX : -9223372036854775808 ≤ X ∧ X < 9223372036854775808) (hY : -9223372036854775808 ≤ Y ∧ Y < 9223372036854775808) (hN : -9223372036854775808 ≤ N ∧ N < 9223372036854775808)
(h0 : ¬ ((200 : Int) < (n0 : Int))) (h1 : ¬ (N < 2)) (h2 : ¬ (64 < N)) (h3 : ¬ (Y < 1)) (h4 : ¬ (16 < Y)) (h5 : ¬ (X < 0)) (h6 : ¬ ((n0 : Int) < X)) (h7 : (mnI 64 ((n0 : Int) - X) < N * Y)) :
    Calls Try.prog 4 #[.slice A0 n0 c0, .agg #[.int .i64 X, .int .i64 Y, .int .i64 N], .int .u8 ms] w (BoolNew true w) := by
  unfold maxLen at hn
  have hNY0 : 0 ≤ N * Y := Int.mul_nonneg (by omega) (by omega)
  have hNY1 : N * Y ≤ 64 * 16 := by
    have := Int.mul_le_mul (show N ≤ 64 by omega) (show Y ≤ 16 by omega) (by omega) (by omega)
    omega
  have g0 : decide ((200 : Int) < (n0 : Int)) = false := decide_eq_false (by omega)
  have g1 : decide (N < 2) = false := decide_eq_false (by omega)
  have g2 : decide (64 < N) = false := decide_eq_false (by omega)
  have g3 : decide (Y < 1) = false := decide_eq_false (by omega)
  have g4 : decide (16 < Y) = false := decide_eq_false (by omega)
  have g5 : decide (X < 0) = false := decide_eq_false (by omega)
  have g6 : decide ((n0 : Int) < X) = false := decide_eq_false (by omega)
  have g7 : decide (mnI 64 ((n0 : Int) - X) < N * Y) = true := decide_eq_true (by exact h7)
  clear h7
  go_enter Try.func4, Try.ntmps4
  go_wp2_with fail
  refine (awake_ok _).mono ?_
  rintro e w' ⟨rfl, o1⟩
  go_wp2_with fail
  go_ret
  exact ⟨rfl, (Off.alloc (Off.refl _ _) _).also o1⟩
theorem compareSorts_walk {w : World} {v0 : Value} {n0 : Nat} {C : List (BitVec 64)} (r0 : Rd w (Old w) 1 v0 n0 (u64s C)) (zz0 : NilOk v0) (l : List Value) (hl : l.length = 3) (hk : ∀ f j κ, kindAt Try.prog f 35 j = some κ → ∃ u, l[j]? = some u ∧ okV κ u) (ms : Int) (hms : 0 ≤ ms ∧ ms < 256) :
    Calls Try.prog 4 #[v0, .agg l.toArray, .int .u8 ms] w (BoolNew true w) := by
  obtain ⟨u0, e0, o0⟩ := hk 4 0 (some .i64) (by kernel_rfl)
  obtain ⟨u1, e1, o1⟩ := hk 4 1 (some .i64) (by kernel_rfl)
  obtain ⟨u2, e2, o2⟩ := hk 4 2 (some .i64) (by kernel_rfl)
  obtain ⟨X, rfl, bX⟩ := okV_i64 o0
  obtain ⟨Y, rfl, bY⟩ := okV_i64 o1
  obtain ⟨N, rfl, bN⟩ := okV_i64 o2
  match l, hl with
  | [a, b, c], _ =>
    simp at e0 e1 e2
    subst e0 e1 e2
    have L0 : C.length = n0 := by obtain ⟨_, _, _, _, hl0, _⟩ := r0; rw [length_u64s] at hl0; omega
    obtain ⟨A0, c0, rfl, m0, _⟩ := r0.form
    by_cases h0 : ((200 : Int) < (n0 : Int))
    · exact sorts_none0 w A0 n0 c0 X Y N ms m0 ⟨bX.1, by omega⟩ ⟨bY.1, by omega⟩ ⟨bN.1, by omega⟩ h0
    by_cases h1 : (N < 2)
    · exact sorts_none1 w A0 n0 c0 X Y N ms m0 ⟨bX.1, by omega⟩ ⟨bY.1, by omega⟩ ⟨bN.1, by omega⟩ h0 h1
    by_cases h2 : (64 < N)
    · exact sorts_none2 w A0 n0 c0 X Y N ms m0 ⟨bX.1, by omega⟩ ⟨bY.1, by omega⟩ ⟨bN.1, by omega⟩ h0 h1 h2
    by_cases h3 : (Y < 1)
    · exact sorts_none3 w A0 n0 c0 X Y N ms m0 ⟨bX.1, by omega⟩ ⟨bY.1, by omega⟩ ⟨bN.1, by omega⟩ h0 h1 h2 h3
    by_cases h4 : (16 < Y)
    · exact sorts_none4 w A0 n0 c0 X Y N ms m0 ⟨bX.1, by omega⟩ ⟨bY.1, by omega⟩ ⟨bN.1, by omega⟩ h0 h1 h2 h3 h4
    by_cases h5 : (X < 0)
    · exact sorts_none5 w A0 n0 c0 X Y N ms m0 ⟨bX.1, by omega⟩ ⟨bY.1, by omega⟩ ⟨bN.1, by omega⟩ h0 h1 h2 h3 h4 h5
    by_cases h6 : ((n0 : Int) < X)
    · exact sorts_none6 w A0 n0 c0 X Y N ms m0 ⟨bX.1, by omega⟩ ⟨bY.1, by omega⟩ ⟨bN.1, by omega⟩ h0 h1 h2 h3 h4 h5 h6
    by_cases h7 : (mnI 64 ((n0 : Int) - X) < N * Y)
    · exact sorts_none7 w A0 n0 c0 X Y N ms m0 ⟨bX.1, by omega⟩ ⟨bY.1, by omega⟩ ⟨bN.1, by omega⟩ h0 h1 h2 h3 h4 h5 h6 h7
    obtain ⟨X', rfl⟩ := Int.eq_ofNat_of_zero_le (show 0 ≤ X by omega)
    obtain ⟨Y', rfl⟩ := Int.eq_ofNat_of_zero_le (show 0 ≤ Y by omega)
    obtain ⟨N', rfl⟩ := Int.eq_ofNat_of_zero_le (show 0 ≤ N by omega)
    obtain ⟨ms', rfl⟩ := Int.eq_ofNat_of_zero_le hms.1
    have h7' : ((N' * Y' : Nat) : Int) = (N' : Int) * (Y' : Int) := by push_cast; rfl
    unfold mnI at h7
    exact sorts_small w A0 n0 c0 X' Y' N' ms' C (Lib.hid r0) (Lib.hid zz0) (Lib.hid L0) (by omega) (by omega) (by omega) (by omega) (by omega) (by omega) (N' * Y') rfl (by omega) (by omega)
end Go.Proofs.Ytdgehacbpjgmcaa
