/-
  The walk of dragnetlaw08.CompareOrders.
-/
import Derived.Test.YtdgehacbpjgmcaaAwake08
namespace Go.Proofs.Ytdgehacbpjgmcaa
open Go.RowKit
attribute [local go_sem] bits_and_u64 bits_or_u64 bits_xor_u64 bits_andNot_u64 wrap_u64 bv_add bv_neg bv_sub bv_mul
set_option linter.unusedVariables false
set_option maxRecDepth 100000
theorem o_xy (a b : BitVec 64) : ltM a b &&& ltM b a = 0#64 := by
  unfold ltM
  rw [msk_and, show (decide (a.toNat < b.toNat) && decide (b.toNat < a.toNat)) = false by rw [Bool.and_eq_false_iff, decide_eq_false_iff_not, decide_eq_false_iff_not]; omega]
  rfl
theorem o_xz (a b : BitVec 64) : ltM a b &&& eqM a b = 0#64 := by
  unfold ltM eqM
  rw [msk_and, show (decide (a.toNat < b.toNat) && decide (a = b)) = false by rw [Bool.and_eq_false_iff, decide_eq_false_iff_not, decide_eq_false_iff_not]; by_cases h : a = b; (left; subst h; omega); exact .inr h]
  rfl
theorem o_yz (a b : BitVec 64) : ltM b a &&& eqM a b = 0#64 := by
  unfold ltM eqM
  rw [msk_and, show (decide (b.toNat < a.toNat) && decide (a = b)) = false by rw [Bool.and_eq_false_iff, decide_eq_false_iff_not, decide_eq_false_iff_not]; by_cases h : a = b; (left; subst h; omega); exact .inr h]
  rfl
theorem o_all (a b : BitVec 64) : ltM a b ||| ltM b a ||| eqM a b = 18446744073709551615#64 := by
  unfold ltM eqM
  rw [msk_or, msk_or]
  have h : (decide (a.toNat < b.toNat) || decide (b.toNat < a.toNat) || decide (a = b)) = true := by
    by_cases h1 : a.toNat < b.toNat
    · rw [decide_eq_true h1]; rfl
    · by_cases h2 : b.toNat < a.toNat
      · rw [decide_eq_true h2]; simp
      · rw [decide_eq_true (show a = b from BitVec.eq_of_toNat_eq (by omega))]; simp
  rw [h]
  rfl
theorem o_tr (a b c : BitVec 64) : ltM a b &&& ltM b c &&& ~~~ ltM a c = 0#64 := by
  unfold ltM
  rw [msk_and, msk_not, msk_and]
  have h : (decide (a.toNat < b.toNat) && decide (b.toNat < c.toNat) && !decide (a.toNat < c.toNat)) = false := by
    by_cases h1 : a.toNat < c.toNat
    · rw [decide_eq_true h1]; simp
    · by_cases h2 : a.toNat < b.toNat
      · rw [decide_eq_false (show ¬ b.toNat < c.toNat by omega)]; simp
      · rw [decide_eq_false h2]; rfl
  rw [h]
  rfl
theorem o_min (a b : BitVec 64) (h : a.toNat ≤ b.toNat) : minM a b = a ∧ maxM a b = b := by
  constructor
  · apply BitVec.eq_of_toNat_eq; rw [minM_toNat]; omega
  · apply BitVec.eq_of_toNat_eq; rw [maxM_toNat]; omega
theorem o_min2 (a b : BitVec 64) (h : ¬ a.toNat ≤ b.toNat) : minM a b = b ∧ maxM a b = a := by
  constructor
  · apply BitVec.eq_of_toNat_eq; rw [minM_toNat]; omega
  · apply BitVec.eq_of_toNat_eq; rw [maxM_toNat]; omega
theorem o_mm (a b : BitVec 64) : minM a b ^^^ maxM a b = a ^^^ b := by
  by_cases h : a.toNat ≤ b.toNat
  · rw [(o_min a b h).1, (o_min a b h).2]
  · rw [(o_min2 a b h).1, (o_min2 a b h).2, BitVec.xor_comm]
theorem o_lt (a b : BitVec 64) : ltM (maxM a b) (minM a b) = 0#64 := by
  unfold ltM
  rw [decide_eq_false (by rw [maxM_toNat, minM_toNat]; omega)]
  rfl
theorem n64_z : n64 0#64 = 0 := rfl
theorem n64_o : n64 18446744073709551615#64 = 18446744073709551615 := rfl
set_option maxHeartbeats 2000000 in
theorem compareOrders_walk {w : World} (a b c : BitVec 64) : Calls Try.prog 6 #[.int .u64 (n64 a), .int .u64 (n64 b), .int .u64 (n64 c)] w (BoolNew true w) := by
  have hb := bv_top
  have hsg : IntKind.u64.signed = false := rfl
  have q1 : (n64 (ltM a b &&& ltM b a) != 0) = false := by rw [o_xy]; rfl
  have q2 : (n64 (ltM a b &&& eqM a b) != 0) = false := by rw [o_xz]; rfl
  have q3 : (n64 (ltM b a &&& eqM a b) != 0) = false := by rw [o_yz]; rfl
  have q4 : (n64 (ltM a b ||| ltM b a ||| eqM a b) != 18446744073709551615) = false := by rw [o_all]; rfl
  have q5 : (n64 (ltM a b &&& ltM b c &&& ~~~ ltM a c) != 0) = false := by rw [o_tr]; rfl
  have q7 : (n64 (minM a b ^^^ maxM a b) == n64 (a ^^^ b)) = true := by rw [o_mm]; simp
  have q8 : (n64 (ltM (maxM a b) (minM a b)) == 0) = true := by rw [o_lt]; rfl
  have q9 : (n64 (eqM a a) == 18446744073709551615) = true := by unfold eqM; rw [decide_eq_true rfl]; rfl
  have q6 : (n64 (btM c a b) == n64 (bv IntKind.u64.max ^^^ (ltM c a ||| ltM b c))) = true := by rw [bv_max, inv_eq, bt_eq]; simp
  by_cases hab : a.toNat ≤ b.toNat
  · have q10 : (n64 (minM a b) == n64 a) = true := by rw [(o_min a b hab).1]; simp
    clear hab
    go_enter Try.func6, Try.ntmps6
    go_wp2_with fail
    refine (less_any a b w).mono ?_
    rintro e w' ⟨rfl, rfl⟩
    go_wp2_with fail
    refine (less_any b a w).mono ?_
    rintro e w' ⟨rfl, rfl⟩
    go_wp2_with fail
    refine (equal_any a b w).mono ?_
    rintro e w' ⟨rfl, rfl⟩
    go_wp2_with fail
    refine (less_any b c w).mono ?_
    rintro e w' ⟨rfl, rfl⟩
    go_wp2_with fail
    refine (less_any a c w).mono ?_
    rintro e w' ⟨rfl, rfl⟩
    go_wp2_with fail
    refine (cmin_any a b w).mono ?_
    rintro e w' ⟨rfl, rfl⟩
    go_wp2_with fail
    refine (cmax_any a b w).mono ?_
    rintro e w' ⟨rfl, rfl⟩
    go_wp2_with fail
    refine (lessS_any a b w).mono ?_
    rintro e w' ⟨rfl, rfl⟩
    go_wp2_with fail
    refine (less_any (topW a) (topW b) w).mono ?_
    rintro e w' ⟨rfl, rfl⟩
    go_wp2_with fail
    refine (between_any c a b w).mono ?_
    rintro e w' ⟨rfl, rfl⟩
    go_wp2_with fail
    refine (less_any c a w).mono ?_
    rintro e w' ⟨rfl, rfl⟩
    go_wp2_with fail
    refine (less_any b c w).mono ?_
    rintro e w' ⟨rfl, rfl⟩
    go_wp2_with fail
    refine Calls.mono (R := fun e w' => e = .returned (.int .u64 0) ∧ w = w') (by have := less_any (maxM a b) (minM a b) w; rwa [o_lt] at this) ?_
    rintro e w' ⟨rfl, rfl⟩
    clear q1 q2 q3 q4 q5 q6 q7 q8 q9 hb
    go_wp2_with fail
    refine Calls.mono (R := fun e w' => e = .returned (.int .u64 18446744073709551615) ∧ w = w') (by have := equal_any a a w; rwa [show eqM a a = 18446744073709551615#64 by unfold eqM; rw [decide_eq_true rfl]; rfl] at this) ?_
    rintro e w' ⟨rfl, rfl⟩
    go_wp2_with fail
    refine (awake_ok w).mono ?_
    rintro e w' ⟨rfl, ho⟩
    have HO := Lib.hid ho
    clear ho
    go_wp2
    go_ret
    exact ⟨rfl, HO.out⟩
  · have q10 : (n64 (minM a b) == n64 a) = false := by rw [(o_min2 a b hab).1, beq_eq_false_iff_ne]; intro h; exact hab (by unfold n64 at h; omega)
    have q11 : (n64 (minM a b) == n64 b) = true := by rw [(o_min2 a b hab).1]; simp
    clear hab
    go_enter Try.func6, Try.ntmps6
    go_wp2_with fail
    refine (less_any a b w).mono ?_
    rintro e w' ⟨rfl, rfl⟩
    go_wp2_with fail
    refine (less_any b a w).mono ?_
    rintro e w' ⟨rfl, rfl⟩
    go_wp2_with fail
    refine (equal_any a b w).mono ?_
    rintro e w' ⟨rfl, rfl⟩
    go_wp2_with fail
    refine (less_any b c w).mono ?_
    rintro e w' ⟨rfl, rfl⟩
    go_wp2_with fail
    refine (less_any a c w).mono ?_
    rintro e w' ⟨rfl, rfl⟩
    go_wp2_with fail
    refine (cmin_any a b w).mono ?_
    rintro e w' ⟨rfl, rfl⟩
    go_wp2_with fail
    refine (cmax_any a b w).mono ?_
    rintro e w' ⟨rfl, rfl⟩
    go_wp2_with fail
    refine (lessS_any a b w).mono ?_
    rintro e w' ⟨rfl, rfl⟩
    go_wp2_with fail
    refine (less_any (topW a) (topW b) w).mono ?_
    rintro e w' ⟨rfl, rfl⟩
    go_wp2_with fail
    refine (between_any c a b w).mono ?_
    rintro e w' ⟨rfl, rfl⟩
    go_wp2_with fail
    refine (less_any c a w).mono ?_
    rintro e w' ⟨rfl, rfl⟩
    go_wp2_with fail
    refine (less_any b c w).mono ?_
    rintro e w' ⟨rfl, rfl⟩
    go_wp2_with fail
    refine Calls.mono (R := fun e w' => e = .returned (.int .u64 0) ∧ w = w') (by have := less_any (maxM a b) (minM a b) w; rwa [o_lt] at this) ?_
    rintro e w' ⟨rfl, rfl⟩
    clear q1 q2 q3 q4 q5 q6 q7 q8 q9 hb
    go_wp2_with fail
    refine Calls.mono (R := fun e w' => e = .returned (.int .u64 18446744073709551615) ∧ w = w') (by have := equal_any a a w; rwa [show eqM a a = 18446744073709551615#64 by unfold eqM; rw [decide_eq_true rfl]; rfl] at this) ?_
    rintro e w' ⟨rfl, rfl⟩
    go_wp2_with fail
    refine (awake_ok w).mono ?_
    rintro e w' ⟨rfl, ho⟩
    have HO := Lib.hid ho
    clear ho
    go_wp2
    go_ret
    exact ⟨rfl, HO.out⟩
end Go.Proofs.Ytdgehacbpjgmcaa
