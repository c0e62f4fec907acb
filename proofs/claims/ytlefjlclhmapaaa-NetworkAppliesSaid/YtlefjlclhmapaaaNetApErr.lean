/-
  network.Apply where it returns an error.
-/
import Derived.Test.YtlefjlclhmapaaaNetApply
namespace Go.Proofs.Ytlefjlclhmapaaa
open Go.RowKit
set_option linter.unusedVariables false
set_option maxRecDepth 100000
theorem napply_e7 (X Y : Option Addr) (n m c d : Nat) (hn : n < 1 ∨ 288 < n) (hm : n ≤ maxLen) (w : World) :
    Calls Try.prog 17 #[.slice X n c, .slice Y m d] w fun e w' => e = .returned (.tuple #[.slice none 0 0, .int .i64 7]) ∧ w = w' := by
  have HR := Lib.hid (nrounds_bad (n : Int) (by omega) w)
  unfold maxLen at hm
  clear hn
  go_enter Try.func17, Try.ntmps17
  go_wp2_with fail
  refine HR.out.mono ?_
  rintro e w' ⟨rfl, rfl⟩
  go_wp2_with fail
  go_ret2
  exact ⟨rfl, rfl⟩
theorem napply_e2 (X Y : Option Addr) (n m c d : Nat) (h1 : 1 ≤ n) (h2 : n ≤ 288) (hne : m ≠ n) (hm : m ≤ maxLen) (w : World) :
    Calls Try.prog 17 #[.slice X n c, .slice Y m d] w fun e w' => e = .returned (.tuple #[.slice none 0 0, .int .i64 2]) ∧ w = w' := by
  have HR := Lib.hid (nrounds_ok n h1 h2 w)
  unfold maxLen at hm
  have hq : ((m : Int) != (n : Int)) = true := by rw [bne_iff_ne]; omega
  go_enter Try.func17, Try.ntmps17
  go_wp2_with fail
  refine HR.out.mono ?_
  rintro e w' ⟨rfl, rfl⟩
  go_wp2_with fail
  go_ret2
  exact ⟨rfl, rfl⟩
set_option maxHeartbeats 1000000 in
theorem napply_bad (X : Option Addr) (n c b2 o2 d m : Nat) (Z : List Int) (h1 : 1 ≤ n) (h2 : n ≤ 288) (hm : m < n) (hok : ∀ i, i < m → 0 ≤ Z.getD i 0 ∧ Z.getD i 0 ≤ i) (hbad : Z.getD m 0 < 0 ∨ (m : Int) < Z.getD m 0) (w : World) (hc : ∀ i, i < n → w.cell? ⟨b2, o2 + i, none⟩ = some (.int .i64 (Z.getD i 0))) :
    Calls Try.prog 17 #[.slice X n c, .slice (some ⟨b2, o2, none⟩) n d] w fun e w' => e = .returned (.tuple #[.slice none 0 0, .int .i64 2]) ∧ w = w' := by
  have HR := Lib.hid (nrounds_ok n h1 h2 w)
  have HC := Lib.hid hc
  have HO := Lib.hid hok
  have HB := Lib.hid hbad
  clear hc hok hbad
  go_enter Try.func17, Try.ntmps17
  go_wp2_with fail
  refine HR.out.mono ?_
  rintro e w' ⟨rfl, rfl⟩
  go_wp2_with fail
  go_loop [29] (fun i => ∃ k : Nat, k ≤ m ∧ i = .int .i64 (k : Int)) (fun i => n - (intOf i).toNat)
  case atStart => exact ⟨0, Nat.zero_le _, rfl⟩
  case round =>
    obtain ⟨k, hk, rfl⟩ := hrel
    have hcell := HC.out k (by omega)
    by_cases hlt : k < m
    · obtain ⟨g1, g2⟩ := HO.out k hlt
      revert hcell g1 g2
      generalize Z.getD k 0 = z
      intro hcell g1 g2
      have hkn : k < n := by omega
      have hkn2 : (k : Int) < (n : Int) := by omega
      go_wp2_with fail
      go_round
      case rel => exact ⟨k + 1, by omega, by go_num⟩
      case measure => simp [intOf]; omega
    · obtain rfl : m = k := by omega
      have hb := HB.out
      revert hcell hb
      generalize Z.getD m 0 = z
      intro hcell hb
      by_cases hz : z < 0
      · have d1 : decide (z < 0) = true := decide_eq_true hz
        clear hb
        go_wp2_with fail
        go_ret2
        exact ⟨rfl, rfl⟩
      · have d1 : decide (z < 0) = false := decide_eq_false hz
        have d2 : decide ((m : Int) < z) = true := decide_eq_true (by omega)
        clear hb
        go_wp2_with fail
        go_ret2
        exact ⟨rfl, rfl⟩
end Go.Proofs.Ytlefjlclhmapaaa
