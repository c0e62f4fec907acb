/-
  dragnetref16.Same of equal lists of hits; slots.Size; what Fill, Wipe, Read and Write answer where nothing is done.
-/
import Derived.Test.YtonkhgmfeakbcaaSlHit
import Derived.Test.YtonkhgmfeakbcaaSlFill
import Derived.Test.YtonkhgmfeakbcaaSlRd
namespace Go.Proofs.Ytonkhgmfeakbcaa
open Go.RowKit
set_option linter.unusedVariables false
set_option linter.unusedSimpArgs false
set_option maxRecDepth 100000
set_option maxHeartbeats 400000 in
theorem sameHi_some (w : World) (b o c b2 o2 c2 n : Nat) (A : List Hi) (ha : A.length = n) (hn : n ≤ maxLen)
    (hca : ∀ j u, (hiC A)[j]? = some u → w.cell? ⟨b, o + j, none⟩ = some u) (hcb : ∀ j u, (hiC A)[j]? = some u → w.cell? ⟨b2, o2 + j, none⟩ = some u) :
    Calls Try.prog 15 #[.slice (some ⟨b, o, none⟩) n c, .slice (some ⟨b2, o2, none⟩) n c2] w (BoolNew true w) := by
  have HA := Lib.hid ha
  have HCA := Lib.hid hca
  have HCB := Lib.hid hcb
  clear ha hca hcb
  unfold maxLen at hn
  go_enter Try.func15, Try.ntmps15
  go_wp2
  go_loopw [5] (fun i wr => ∃ k : Nat, k ≤ n ∧ i = .int .i64 k ∧ Off Nob w wr ∧ (∀ ad, wr.cell? ad = w.cell? ad)) (fun i _ => n - (intOf i).toNat)
  case atStart => exact ⟨0, Nat.zero_le _, rfl, Off.refl _ _, fun _ => rfl⟩
  case round =>
    obtain ⟨k, hk, rfl, ho, hcl⟩ := hrel
    have HO := Lib.hid ho
    have HX := Lib.hid hcl
    by_cases hlt : k < n
    · obtain ⟨hc1, hc2⟩ := hiC_at A k (by have := HA.out; omega)
      have hd1 := HCB.out _ _ hc1
      have hd2 := HCB.out _ _ hc2
      replace hc1 := HCA.out _ _ hc1
      replace hc2 := HCA.out _ _ hc2
      rw [← Nat.add_assoc] at hc2 hd2
      rw [← hcl] at hc1 hc2 hd1 hd2
      clear ho hcl
      revert hc1 hc2 hd1 hd2
      generalize (hi A k).1 = a1
      generalize (hi A k).2 = a2
      intro hc1 hc2 hd1 hd2
      go_wp2
      go_quiet (fail)
      go_wp2
      go_roundw
      case rel => exact ⟨k + 1, by omega, by go_num, HO.out.drewN _, fun ad => HX.out ad⟩
      case measure => simp [intOf]; omega
    · clear ho hcl
      go_wp2
      go_ret
      exact ⟨rfl, HO.out⟩
theorem sameHi_zero (w : World) (X Y : Option Addr) (c d : Nat) :
    Calls Try.prog 15 #[.slice X 0 c, .slice Y 0 d] w (BoolNew true w) := by
  go_enter Try.func15, Try.ntmps15
  go_wp2
  refine wp_loop_rounds 1 ?_
  rw [rounds_succ]
  go_wp2_with fail
  go_ret
  exact ⟨rfl, Off.refl _ _⟩
theorem sameHi_eq {w : World} {F G : Nat → Prop} {v u : Value} {n : Nat} {A : List Hi} (ha : Rd w F 2 v n (hiC A)) (hb : Rd w G 2 u n (hiC A)) :
    Calls Try.prog 15 #[v, u] w (BoolNew true w) := by
  obtain ⟨X, c, rfl, hm1, hl1, hc1⟩ := ha
  obtain ⟨Y, d, rfl, hm2, hl2, hc2⟩ := hb
  rw [hiC_len] at hl1
  rcases Nat.eq_zero_or_pos n with h0 | h0
  · subst h0
    exact sameHi_zero w X Y c d
  · obtain ⟨b, o, rfl, _, hb, hx⟩ := hc1 h0
    obtain ⟨b2, o2, rfl, _, hb2, hx2⟩ := hc2 h0
    exact sameHi_some w b o c b2 o2 d n A (by omega) hm1 hx hx2
/-- What Size answers. -/
def szV (b p : Int) : Int × Int := if b < 1 ∨ 16 < b ∨ p < 1 ∨ 16 < p then (0, 7) else (3 * b * p, 0)
theorem size_any (b p : Int) (w : World) : Calls Try.prog 10 #[.int .i64 b, .int .i64 p] w fun e w' => e = .returned (.tuple #[.int .i64 (szV b p).1, .int .i64 (szV b p).2]) ∧ w = w' := by
  by_cases h : b < 1 ∨ 16 < b
  · have HO := Lib.hid (outside_out b 1 16 h w)
    rw [show szV b p = (0, 7) by unfold szV; rw [if_pos (by omega)]]
    clear h
    go_enter Try.func10, Try.ntmps10
    go_wp2_with fail
    refine HO.out.mono ?_
    rintro e w' ⟨rfl, rfl⟩
    go_wp2_with fail
    go_ret2
    exact ⟨rfl, rfl⟩
  · have HO := Lib.hid (outside_in b 1 16 (by omega) (by omega) w)
    by_cases h2 : p < 1 ∨ 16 < p
    · have HO2 := Lib.hid (outside_out p 1 16 h2 w)
      rw [show szV b p = (0, 7) by unfold szV; rw [if_pos (by omega)]]
      clear h h2
      go_enter Try.func10, Try.ntmps10
      go_wp2_with fail
      refine HO.out.mono ?_
      rintro e w' ⟨rfl, rfl⟩
      go_wp2_with fail
      refine HO2.out.mono ?_
      rintro e w' ⟨rfl, rfl⟩
      go_wp2_with fail
      go_ret2
      exact ⟨rfl, rfl⟩
    · have HO2 := Lib.hid (outside_in p 1 16 (by omega) (by omega) w)
      rw [show szV b p = (3 * b * p, 0) by unfold szV; rw [if_neg (by omega)]]
      have m0 : 0 ≤ 3 * b * p := Int.mul_nonneg (by omega) (by omega)
      have m1 : 3 * b * p ≤ 48 * 16 := Int.mul_le_mul (by omega) (by omega) (by omega) (by omega)
      have b1 : 1 ≤ b := by omega
      have b2 : b ≤ 16 := by omega
      clear h h2
      go_enter Try.func10, Try.ntmps10
      go_wp2_with fail
      refine HO.out.mono ?_
      rintro e w' ⟨rfl, rfl⟩
      go_wp2_with fail
      refine HO2.out.mono ?_
      rintro e w' ⟨rfl, rfl⟩
      go_wp2_with fail
      go_ret2
      exact ⟨rfl, rfl⟩
theorem rsize_any (b p : Int) (w : World) : Calls Try.prog 11 #[.int .i64 b, .int .i64 p] w fun e w' => e = .returned (.tuple #[.int .i64 (szV b p).1, .int .i64 (szV b p).2]) ∧ w = w' := by
  have t : decide (b < 1) = true ∨ (decide (b < 1) = false ∧ decide (16 < b) = true) ∨ (decide (b < 1) = false ∧ decide (16 < b) = false ∧ decide (p < 1) = true) ∨ (decide (b < 1) = false ∧ decide (16 < b) = false ∧ decide (p < 1) = false ∧ decide (16 < p) = true) ∨ (decide (b < 1) = false ∧ decide (16 < b) = false ∧ decide (p < 1) = false ∧ decide (16 < p) = false) := by
    simp only [decide_eq_true_eq, decide_eq_false_iff_not]; omega
  rcases t with t1 | ⟨t1, t2⟩ | ⟨t1, t2, t3⟩ | ⟨t1, t2, t3, t4⟩ | ⟨t1, t2, t3, t4⟩
  rotate_right
  · have g : 1 ≤ b ∧ b ≤ 16 ∧ 1 ≤ p ∧ p ≤ 16 := by simp at t1 t2 t3 t4; omega
    obtain ⟨b1, b2, p1, p2⟩ := g
    rw [show szV b p = (3 * b * p, 0) by unfold szV; rw [if_neg (by omega)]]
    have m0 : 0 ≤ 3 * b * p := Int.mul_nonneg (by omega) (by omega)
    have m1 : 3 * b * p ≤ 48 * 16 := Int.mul_le_mul (by omega) (by omega) (by omega) (by omega)
    go_enter Try.func11, Try.ntmps11
    go_wp2_with fail
    go_ret2
    exact ⟨rfl, rfl⟩
  all_goals
    rw [show szV b p = (0, 7) by unfold szV; rw [if_pos (by simp at *; omega)]]
    go_enter Try.func11, Try.ntmps11
    go_wp2_with fail
    go_ret2
    exact ⟨rfl, rfl⟩
end Go.Proofs.Ytonkhgmfeakbcaa
