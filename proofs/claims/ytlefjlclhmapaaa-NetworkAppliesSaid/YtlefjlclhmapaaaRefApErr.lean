/-
  dragnetref24.Apply where it returns an error.
-/
import Derived.Test.YtlefjlclhmapaaaRefApply
namespace Go.Proofs.Ytlefjlclhmapaaa
open Go.RowKit
set_option linter.unusedVariables false
set_option linter.unusedSimpArgs false
set_option maxRecDepth 100000
theorem rapply_e7 (X Y : Option Addr) (n m c d : Nat) (hn : n < 1 ∨ 288 < n) (hm : n ≤ maxLen) (hm2 : m ≤ maxLen) (w : World) :
    Calls Try.prog 20 #[.slice X n c, .slice Y m d] w fun e w' => e = .returned (.tuple #[.slice none 0 0, .int .i64 7]) ∧ Off Nob w w' := by
  have HR := Lib.hid (rplan_bad (n : Int) (by omega) w)
  unfold maxLen at hm hm2
  clear hn
  go_enter Try.func20, Try.ntmps20
  go_wp2_with fail
  refine HR.out.mono ?_
  rintro e w' ⟨rfl, rfl⟩
  go_wp2_with fail
  refine wp_loop_rounds 1 ?_
  rw [rounds_succ]
  by_cases h0 : m = 0
  · subst h0
    go_wp2_with fail
    go_ret2
    exact ⟨rfl, Off.refl _ _⟩
  · have q1 : decide ((0 : Int) < (m : Int)) = true := decide_eq_true (by omega)
    have q2 : decide (0 < m) = true := decide_eq_true (by omega)
    go_wp2_with fail
    go_ret2
    exact ⟨rfl, Off.refl _ _⟩
theorem rapply_e2 (X Y : Option Addr) (n m c d : Nat) (h1 : 1 ≤ n) (h2 : n ≤ 288) (hne : m ≠ n) (hm : m ≤ maxLen) (w : World) :
    Calls Try.prog 20 #[.slice X n c, .slice Y m d] w fun e w' => e = .returned (.tuple #[.slice none 0 0, .int .i64 2]) ∧ Off Nob w w' := by
  have HR := Lib.hid (rplan_ok n h1 h2 w)
  unfold maxLen at hm
  have hq : ((m : Int) != (n : Int)) = true := by rw [bne_iff_ne]; omega
  go_enter Try.func20, Try.ntmps20
  go_wp2_with fail
  refine HR.out.mono ?_
  rintro e w1 ⟨v, rfl, r1, o1⟩
  have O1 := Lib.hid o1
  clear o1 r1 HR
  go_wp2_with fail
  refine wp_loop_rounds 1 ?_
  rw [rounds_succ]
  by_cases h0 : m = 0
  · subst h0
    go_wp2_with fail
    go_ret2
    exact ⟨rfl, O1.out⟩
  · have q1 : decide ((0 : Int) < (m : Int)) = true := decide_eq_true (by omega)
    have q2 : decide (0 < m) = true := decide_eq_true (by omega)
    go_wp2_with fail
    go_ret2
    exact ⟨rfl, O1.out⟩
set_option maxHeartbeats 1000000 in
theorem rapply_bad (X : Option Addr) (n c b2 o2 d m : Nat) (Z : List Int) (h1 : 1 ≤ n) (h2 : n ≤ 288) (hm : m < n) (hok : ∀ i, i < m → 0 ≤ Z.getD i 0 ∧ Z.getD i 0 ≤ i) (hbad : Z.getD m 0 < 0 ∨ (m : Int) < Z.getD m 0) (w : World) (hb2 : b2 < w.heap.size) (hc : ∀ i, i < n → w.cell? ⟨b2, o2 + i, none⟩ = some (.int .i64 (Z.getD i 0))) :
    Calls Try.prog 20 #[.slice X n c, .slice (some ⟨b2, o2, none⟩) n d] w fun e w' => e = .returned (.tuple #[.slice none 0 0, .int .i64 2]) ∧ Off Nob w w' := by
  have HR := Lib.hid (rplan_ok n h1 h2 w)
  have HC := Lib.hid hc
  have HO := Lib.hid hok
  have HB := Lib.hid hbad
  clear hc hok hbad
  go_enter Try.func20, Try.ntmps20
  go_wp2_with fail
  refine HR.out.mono ?_
  rintro e w1 ⟨v, rfl, r1, o1⟩
  have O1 := Lib.hid o1
  clear o1 r1 HR
  go_wp2_with fail
  go_loopw [7, 8] (fun e i wr => wr = w1 ∧ ((∃ k : Nat, k ≤ m ∧ i = .int .i64 (k : Int) ∧ e = .int .i64 0) ∨ (i = .int .i64 ((m : Int) + 1) ∧ e = .int .i64 2))) (fun _ i _ => n - (intOf i).toNat)
  case atStart => exact ⟨rfl, .inl ⟨0, Nat.zero_le _, rfl, rfl⟩⟩
  case round =>
    obtain ⟨rfl, ⟨k, hk, rfl, rfl⟩ | ⟨rfl, rfl⟩⟩ := hrel
    · have hcell := (O1.out.cell_old hb2 _).trans (HC.out k (by omega))
      have hkn : k < n := by omega
      have hkn2 : (k : Int) < (n : Int) := by omega
      by_cases hlt : k < m
      · obtain ⟨g1, g2⟩ := HO.out k hlt
        revert hcell g1 g2
        generalize Z.getD k 0 = z
        intro hcell g1 g2
        have q1 : decide (z < 0) = false := decide_eq_false (by omega)
        have q2 : decide ((k : Int) < z) = false := decide_eq_false (by omega)
        go_wp2_with fail
        go_roundw
        case rel => exact ⟨trivial, .inl ⟨k + 1, by omega, by go_num, rfl⟩⟩
        case measure => simp [intOf]; omega
      · obtain rfl : m = k := by omega
        have hb := HB.out
        revert hcell hb
        generalize Z.getD m 0 = z
        intro hcell hb
        by_cases hz : z < 0
        · have d1 : decide (z < 0) = true := decide_eq_true hz
          clear hb
          go_wp2_with fail
          go_roundw
          case rel => exact ⟨trivial, .inr ⟨by go_num, rfl⟩⟩
          case measure => simp [intOf]; omega
        · have d1 : decide (z < 0) = false := decide_eq_false hz
          have d2 : decide ((m : Int) < z) = true := decide_eq_true (by omega)
          clear hb
          go_wp2_with fail
          go_roundw
          case rel => exact ⟨trivial, .inr ⟨by go_num, rfl⟩⟩
          case measure => simp [intOf]; omega
    · by_cases hlt : m + 1 < n
      · have q1 : decide ((m : Int) + 1 < (n : Int)) = true := decide_eq_true (by omega)
        go_wp2_with fail
        go_ret2
        exact ⟨rfl, O1.out⟩
      · have q1 : decide ((m : Int) + 1 < (n : Int)) = false := decide_eq_false (by omega)
        go_wp2_with fail
        go_ret2
        exact ⟨rfl, O1.out⟩
end Go.Proofs.Ytlefjlclhmapaaa
