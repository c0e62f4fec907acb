/-
  dragnetref08's functions of numbers.
-/
import Derived.Test.YtdgehacbpjgmcaaCmpPure
namespace Go.Proofs.Ytdgehacbpjgmcaa
open Go.RowKit
attribute [local go_sem] bits_and_u64 bits_or_u64 bits_xor_u64 bits_andNot_u64 wrap_u64 bv_add bv_neg bv_sub bv_mul
attribute [local go_sem ↓] run_max_u64 run_min_u64
set_option linter.unusedVariables false
set_option maxRecDepth 100000
theorem rmask_any (b : Bool) (w : World) : Calls Try.prog 13 #[.bool b] w fun e w' => e = .returned (.int .u64 (n64 (msk b))) ∧ w = w' := by
  cases b
  · go_enter Try.func13, Try.ntmps13
    go_wp2_with fail
    go_ret
    exact ⟨rfl, rfl⟩
  · go_enter Try.func13, Try.ntmps13
    go_wp2_with fail
    refine Calls.mono (R := fun e w' => e = .returned (.int .u64 18446744073709551615) ∧ w = w') (rof_any 1#64 w) ?_
    rintro e w' ⟨rfl, rfl⟩
    go_wp2
    go_ret
    exact ⟨rfl, rfl⟩
theorem requal_any (a b : BitVec 64) (w : World) : Calls Try.prog 19 #[.int .u64 (n64 a), .int .u64 (n64 b)] w fun e w' => e = .returned (.int .u64 (n64 (eqM a b))) ∧ w = w' := by
  have hq : (n64 a == n64 b) = decide (a = b) := by rw [n64_beq, Bool.eq_iff_iff]; simp
  go_enter Try.func19, Try.ntmps19
  go_wp2_with fail
  refine (rmask_any _ w).mono ?_
  rintro e w' ⟨rfl, rfl⟩
  go_wp2
  go_ret
  exact ⟨rfl, rfl⟩
theorem rless_any (a b : BitVec 64) (w : World) : Calls Try.prog 21 #[.int .u64 (n64 a), .int .u64 (n64 b)] w fun e w' => e = .returned (.int .u64 (n64 (ltM a b))) ∧ w = w' := by
  have hq : decide (n64 a < n64 b) = decide (a.toNat < b.toNat) := by unfold n64; rw [Bool.eq_iff_iff]; simp
  have HQ := Lib.hid hq
  clear hq
  go_enter Try.func21, Try.ntmps21
  go_wp2_with fail
  refine (rmask_any _ w).mono ?_
  rintro e w' ⟨rfl, rfl⟩
  go_wp2
  go_ret
  exact ⟨ret_int (by rw [HQ.out]; rfl), rfl⟩
theorem signed_lt (a b : BitVec 64) : decide (wrap64 (n64 a) < wrap64 (n64 b)) = decide ((topW a).toNat < (topW b).toNat) := by
  rw [topW_toNat, topW_toNat]
  have h1 := a.isLt
  have h2 := b.isLt
  unfold wrap64 n64
  rw [Bool.eq_iff_iff]
  simp only [decide_eq_true_eq]
  omega
theorem rlessS_any (a b : BitVec 64) (w : World) : Calls Try.prog 23 #[.int .u64 (n64 a), .int .u64 (n64 b)] w fun e w' => e = .returned (.int .u64 (n64 (ltM (topW a) (topW b)))) ∧ w = w' := by
  go_enter Try.func23, Try.ntmps23
  go_wp2_with fail
  refine (rmask_any _ w).mono ?_
  rintro e w' ⟨rfl, rfl⟩
  go_wp2
  go_ret
  exact ⟨ret_int (by rw [signed_lt a b]; rfl), rfl⟩
theorem rbetween_any (x a b : BitVec 64) (w : World) : Calls Try.prog 25 #[.int .u64 (n64 x), .int .u64 (n64 a), .int .u64 (n64 b)] w fun e w' => e = .returned (.int .u64 (n64 (btM x a b))) ∧ w = w' := by
  by_cases h1 : n64 a ≤ n64 x
  · by_cases h2 : n64 x ≤ n64 b
    · have HF := Lib.hid (show btM x a b = msk true by unfold n64 at h1 h2; unfold btM; rw [decide_eq_true (by omega), decide_eq_true (by omega)]; rfl)
      have hq1 : decide (n64 a ≤ n64 x) = true := decide_eq_true h1
      have hq2 : decide (n64 x ≤ n64 b) = true := decide_eq_true h2
      clear h1 h2
      go_enter Try.func25, Try.ntmps25
      go_wp2_with fail
      refine (rmask_any true w).mono ?_
      rintro e w' ⟨rfl, rfl⟩
      go_wp2
      go_ret
      exact ⟨ret_int (by rw [HF.out]), rfl⟩
    · have HF := Lib.hid (show btM x a b = msk false by unfold n64 at h1 h2; unfold btM; rw [decide_eq_true (by omega), decide_eq_false (by omega)]; rfl)
      have hq1 : decide (n64 a ≤ n64 x) = true := decide_eq_true h1
      have hq2 : decide (n64 x ≤ n64 b) = false := decide_eq_false h2
      clear h1 h2
      go_enter Try.func25, Try.ntmps25
      go_wp2_with fail
      refine (rmask_any false w).mono ?_
      rintro e w' ⟨rfl, rfl⟩
      go_wp2
      go_ret
      exact ⟨ret_int (by rw [HF.out]), rfl⟩
  · have HF := Lib.hid (show btM x a b = msk false by unfold n64 at h1; unfold btM; rw [decide_eq_false (by omega)]; rfl)
    have hq1 : decide (n64 a ≤ n64 x) = false := decide_eq_false h1
    clear h1
    go_enter Try.func25, Try.ntmps25
    go_wp2_with fail
    refine (rmask_any false w).mono ?_
    rintro e w' ⟨rfl, rfl⟩
    go_wp2
    go_ret
    exact ⟨ret_int (by rw [HF.out]), rfl⟩
theorem rmin_any (a b : BitVec 64) (w : World) : Calls Try.prog 27 #[.int .u64 (n64 a), .int .u64 (n64 b)] w fun e w' => e = .returned (.int .u64 (n64 (minM a b))) ∧ w = w' := by
  go_enter Try.func27, Try.ntmps27
  go_wp2
  go_ret
  exact ⟨rfl, rfl⟩
theorem rmax_any (a b : BitVec 64) (w : World) : Calls Try.prog 29 #[.int .u64 (n64 a), .int .u64 (n64 b)] w fun e w' => e = .returned (.int .u64 (n64 (maxM a b))) ∧ w = w' := by
  go_enter Try.func29, Try.ntmps29
  go_wp2
  go_ret
  exact ⟨rfl, rfl⟩
end Go.Proofs.Ytdgehacbpjgmcaa
