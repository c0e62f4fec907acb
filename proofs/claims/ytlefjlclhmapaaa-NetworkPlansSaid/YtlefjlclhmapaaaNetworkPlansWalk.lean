/-
  The walk of dragnetlaw24.NetworkPlans.
-/
import Derived.Test.YtlefjlclhmapaaaAwake24
import Derived.Test.YtlefjlclhmapaaaRef24Plan
import Derived.BigQuiet
import Derived.Deep.QuietTactic
namespace Go.Proofs.Ytlefjlclhmapaaa
open Go.RowKit
set_option linter.unusedVariables false
set_option maxRecDepth 100000
theorem plans_bad (n : Int) (h : n < 1 ∨ 288 < n) (w : World) : Calls Try.prog 3 #[.int .i64 n] w (BoolNew true w) := by
  have H1 := Lib.hid (nrounds_bad n h)
  have H2 := Lib.hid (rrounds_bad n h)
  have H3 := Lib.hid (nsteps_bad n h)
  have H4 := Lib.hid (rsteps_bad n h)
  have H5 := Lib.hid (nplan_bad n h)
  have H6 := Lib.hid (rplan_bad n h)
  clear h
  go_enter Try.func3, Try.ntmps3
  go_wp2_with fail
  refine (H1.out _).mono ?_
  rintro e w' ⟨rfl, rfl⟩
  go_wp2_with fail
  refine (H2.out _).mono ?_
  rintro e w' ⟨rfl, rfl⟩
  go_wp2_with fail
  refine (H3.out _).mono ?_
  rintro e w' ⟨rfl, rfl⟩
  go_wp2_with fail
  refine (H4.out _).mono ?_
  rintro e w' ⟨rfl, rfl⟩
  go_wp2_with fail
  refine (H5.out _).mono ?_
  rintro e w' ⟨rfl, rfl⟩
  go_wp2_with fail
  refine (H6.out _).mono ?_
  rintro e w' ⟨rfl, rfl⟩
  go_wp2_with fail
  refine wp_loop_rounds 1 ?_
  rw [rounds_succ]
  go_wp2_with fail
  refine (awake_ok _).mono ?_
  rintro e w' ⟨rfl, o1⟩
  have O1 := Lib.hid o1
  clear o1
  go_wp2
  go_ret
  exact ⟨rfl, O1.out⟩
set_option maxHeartbeats 4000000 in
theorem plans_ok (n : Nat) (h1 : 1 ≤ n) (h2 : n ≤ 288) (w : World) : Calls Try.prog 3 #[.int .i64 n] w (BoolNew true w) := by
  obtain ⟨l1, l2, l3⟩ := moves_le h1 h2
  have hr9 := (rn_ok h1 h2).1
  obtain ⟨L, hL⟩ : ∃ L, moves n = L := ⟨_, rfl⟩
  obtain ⟨k, hk⟩ : ∃ k, L.length = k := ⟨_, rfl⟩
  have H1 : Hid _ := Lib.hid (nrounds_ok n h1 h2)
  have H2 := Lib.hid (rrounds_ok n h1 h2)
  have H3 : Hid (∀ w, Calls Try.prog 11 #[.int .i64 n] w fun e w' => e = .returned (.tuple #[.int .i64 (16 * (k : Int)), .int .i64 0]) ∧ w = w') := Lib.hid (fun w => by have := nsteps_ok n h1 h2 w; rw [hL, hk] at this; push_cast at this; exact this)
  have H4 : Hid (∀ w, Calls Try.prog 12 #[.int .i64 n] w fun e w' => e = .returned (.tuple #[.int .i64 (16 * (k : Int)), .int .i64 0]) ∧ Off Nob w w') := Lib.hid (fun w => by have := rsteps_ok n h1 h2 w; rw [hL, hk] at this; push_cast at this; exact this)
  have H5 : Hid (∀ w, Calls Try.prog 13 #[.int .i64 n] w (NewM2 w L)) := Lib.hid (fun w => by rw [← hL]; exact nplan_ok n h1 h2 w)
  have H6 : Hid (∀ w, Calls Try.prog 14 #[.int .i64 n] w (NewM2 w L)) := Lib.hid (fun w => by rw [← hL]; exact rplan_ok n h1 h2 w)
  obtain ⟨r, hr⟩ : ∃ r, rn n = r := ⟨_, rfl⟩
  rw [hL, hk] at l1 l2 l3
  rw [hr] at l1 hr9 H1 H2
  obtain ⟨q, hq⟩ : ∃ q, n * r = q := ⟨_, rfl⟩
  rw [hq] at l1
  have hqI : (n : Int) * (r : Int) = (q : Int) := by rw [← hq]; push_cast; rfl
  have hq3 : q ≤ 3000 := by rw [← hq]; have : n * r ≤ 288 * 9 := Nat.mul_le_mul h2 hr9; omega
  have t1 : decide ((k : Int) ≤ (q : Int)) = true := decide_eq_true (by omega)
  have t1' : decide (k ≤ q) = true := decide_eq_true l1
  have t2 : decide ((n : Int) - 1 ≤ (k : Int)) = true := decide_eq_true (by omega)
  have HK := Lib.hid hk
  clear hL hr hq hk
  go_enter Try.func3, Try.ntmps3
  go_wp2_with fail
  refine (H1.out _).mono ?_
  rintro e w' ⟨rfl, rfl⟩
  go_wp2_with fail
  refine (H2.out _).mono ?_
  rintro e w' ⟨rfl, rfl⟩
  go_wp2_with fail
  refine (H3.out _).mono ?_
  rintro e w' ⟨rfl, rfl⟩
  go_wp2_with fail
  refine (H4.out _).mono ?_
  rintro e w1 ⟨rfl, o1⟩
  have O1 := Lib.hid o1
  clear o1
  go_wp2_with fail
  refine (H5.out _).mono ?_
  rintro e w2 ⟨v1, rfl, r2, o2⟩
  have R2 := Lib.hid r2
  have O2 := Lib.hid (O1.out.also o2)
  clear r2 o2
  go_wp2_with fail
  refine (H6.out _).mono ?_
  rintro e w3 ⟨v2, rfl, r3, o3⟩
  have D1 := Rd.own (own_off0 R2.out o3) (F := fun _ => True) (fun _ _ => trivial)
  have D2 := Rd.own r3 (F := fun _ => True) (fun _ _ => trivial)
  rw [HK.out] at D1 D2
  obtain ⟨A1, c1, rfl, m1, X1⟩ := D1.form
  obtain ⟨A2, c2, rfl, m2, X2⟩ := D2.form
  have HX1 := Lib.hid X1
  have HX2 := Lib.hid X2
  have O3 := Lib.hid (O2.out.also o3)
  clear r3 o3 R2 O1 O2 D1 D2 X1 X2 m1 m2 H1 H2 H3 H4 H5 H6
  go_wp2_with fail
  go_loopw [15] (fun i wr => ∃ j : Nat, j ≤ k ∧ i = .int .i64 j ∧ Off Nob w wr ∧ (∀ ad, wr.cell? ad = w3.cell? ad)) (fun i _ => k - (intOf i).toNat)
  case atStart => exact ⟨0, Nat.zero_le _, rfl, O3.out, fun _ => rfl⟩
  case round =>
    obtain ⟨j, hj, rfl, ho, hcl⟩ := hrel
    have HO := Lib.hid ho
    have HX := Lib.hid hcl
    by_cases hlt : j < k
    · obtain ⟨b1, a1, rfl, _, y1⟩ := HX1.out (by omega)
      obtain ⟨b2, a2, rfl, _, y2⟩ := HX2.out (by omega)
      have hjL : j < L.length := by rw [HK.out]; exact hlt
      obtain ⟨z1, z2, z3⟩ := mvC_at L j hjL
      have d1 := y1 _ _ z1
      have d2 := y1 _ _ z2
      have d3 := y1 _ _ z3
      have e1 := y2 _ _ z1
      have e2 := y2 _ _ z2
      have e3 := y2 _ _ z3
      rw [← hcl] at d1 d2 d3 e1 e2 e3
      simp only [Nat.mul_comm 3 j, ← Nat.add_assoc] at d1 d2 d3 e1 e2 e3
      clear ho hcl z1 z2 z3 y1 y2
      revert d1 d2 d3 e1 e2 e3
      generalize ((L[j]'hjL).1 : Int) = f1
      generalize ((L[j]'hjL).2.1 : Int) = f2
      generalize ((L[j]'hjL).2.2 : Int) = f3
      intro d1 d2 d3 e1 e2 e3
      go_wp2
      go_quiet (fail)
      go_wp2
      go_roundw
      case rel => exact ⟨j + 1, by omega, by go_num, HO.out.drewN _, fun ad => HX.out ad⟩
      case measure => simp [intOf]; omega
    · obtain rfl : k = j := by omega
      clear ho hcl
      go_wp2_with fail
      refine (awake_ok _).mono ?_
      rintro e w' ⟨rfl, o1⟩
      have O1 := Lib.hid (HO.out.also o1)
      clear o1
      go_wp2
      go_ret
      exact ⟨rfl, O1.out⟩
theorem networkPlans_walk {w : World} (n : Int) (hn : -9223372036854775808 ≤ n ∧ n ≤ 9223372036854775807) : Calls Try.prog 3 #[.int .i64 n] w (BoolNew true w) := by
  by_cases h : n < 1 ∨ 288 < n
  · exact plans_bad n h w
  · obtain ⟨m, rfl⟩ := Int.eq_ofNat_of_zero_le (show 0 ≤ n by omega)
    exact plans_ok m (by omega) (by omega) w
end Go.Proofs.Ytlefjlclhmapaaa
