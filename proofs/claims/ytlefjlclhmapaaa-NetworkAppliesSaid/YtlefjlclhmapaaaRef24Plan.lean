/-
  dragnetref24's Rounds, Plan, Steps.
-/
import Derived.Test.YtlefjlclhmapaaaNetPlan
import Derived.Maps.AppendAt
namespace Go.Proofs.Ytlefjlclhmapaaa
open Go.RowKit
set_option linter.unusedVariables false
set_option maxRecDepth 100000
theorem rrounds_ok (n : Nat) (h1 : 1 ≤ n) (h2 : n ≤ 288) (w : World) : Calls Try.prog 10 #[.int .i64 n] w fun e w' => e = .returned (.tuple #[.int .i64 (rn n), .int .i64 0]) ∧ w = w' := by
  have d1 : decide ((n : Int) < 1) = false := decide_eq_false (by omega)
  have d2 : decide ((288 : Int) < (n : Int)) = false := decide_eq_false (by omega)
  go_enter Try.func10, Try.ntmps10
  go_wp2_with fail
  go_loop [4, 5] (fun p q => ∃ i : Nat, p = .int .i64 (i : Int) ∧ q = .int .i64 ((2 ^ i : Nat) : Int) ∧ i ≤ 9 ∧ ∀ k, k < i → 2 ^ k < n) (fun _ q => n - (intOf q).toNat)
  case atStart => exact ⟨0, rfl, rfl, by omega, fun k hk => by omega⟩
  case round =>
    obtain ⟨i, rfl, rfl, hi9, hi⟩ := hrel
    obtain ⟨P, hP⟩ : ∃ P : Nat, 2 ^ i = P := ⟨_, rfl⟩
    have hP1 : 1 ≤ P := by rw [← hP]; exact Nat.one_le_two_pow
    have hP2 : P ≤ 512 := by rw [← hP]; exact (Nat.pow_le_pow_right (by decide) hi9 : 2 ^ i ≤ 2 ^ 9)
    have HP := Lib.hid hP
    have HI := Lib.hid hi
    rw [hP]
    clear hP hi
    by_cases hlt : P < n
    · have hi8 : i ≤ 8 := by
        rcases Nat.lt_or_ge i 9 with h | h
        · omega
        · have : i = 9 := by omega
          subst this
          have := HP.out
          omega
      have HN : Hid (2 ^ (i + 1) = 2 * P) := Lib.hid (by rw [Nat.pow_succ, HP.out, Nat.mul_comm])
      have hl1 : decide (P < n) = true := decide_eq_true hlt
      have hl2 : decide ((P : Int) < (n : Int)) = true := decide_eq_true (by omega)
      go_wp2_with fail
      go_round
      case rel => exact ⟨i + 1, by go_num, by rw [HN.out]; push_cast; rfl, by omega, fun k hk => by
        rcases Nat.lt_or_ge k i with h | h
        · exact HI.out k h
        · have : k = i := by omega
          subst this
          rw [HP.out]; exact hlt⟩
      case measure => simp [intOf]; omega
    · have hl1 : decide (P < n) = false := decide_eq_false hlt
      have hl2 : decide ((P : Int) < (n : Int)) = false := decide_eq_false (by omega)
      have HR := Lib.hid (rn_of h1 h2 (by rw [HP.out]; omega) HI.out)
      go_wp2_with fail
      go_ret2
      exact ⟨by rw [HR.out]; rfl, rfl⟩
theorem rrounds_bad (n : Int) (h : n < 1 ∨ 288 < n) (w : World) : Calls Try.prog 10 #[.int .i64 n] w fun e w' => e = .returned (.tuple #[.int .i64 0, .int .i64 7]) ∧ w = w' := by
  by_cases h1 : n < 1
  · have d1 : decide (n < 1) = true := decide_eq_true h1
    clear h
    go_enter Try.func10, Try.ntmps10
    go_wp2_with fail
    go_ret2
    exact ⟨rfl, rfl⟩
  · have d1 : decide (n < 1) = false := decide_eq_false h1
    have d2 : decide (288 < n) = true := decide_eq_true (by omega)
    clear h
    go_enter Try.func10, Try.ntmps10
    go_wp2_with fail
    go_ret2
    exact ⟨rfl, rfl⟩
theorem rplan_bad (n : Int) (h : n < 1 ∨ 288 < n) (w : World) :
    Calls Try.prog 14 #[.int .i64 n] w fun e w' => e = .returned (.tuple #[.slice none 0 0, .int .i64 7]) ∧ w = w' := by
  have HR := Lib.hid (rrounds_bad n h w)
  clear h
  go_enter Try.func14, Try.ntmps14
  go_wp2_with fail
  refine HR.out.mono ?_
  rintro e w' ⟨rfl, rfl⟩
  go_wp2_with fail
  go_ret2
  exact ⟨rfl, rfl⟩
/-- What has come, in a row of the call's own. -/
def CoR (w : World) (v : Value) (L : List Mv) (W : World) : Prop := W.ownsRow w.heap.size 29 3 v L.length (mvC L) ∧ Off Nob w W
theorem CoR.form {w : World} {v : Value} {L : List Mv} {W : World} (h : CoR w v L W) : ∃ A c, v = .slice A L.length c := by
  rcases h.1.2 with ⟨rfl, h0⟩ | ⟨g, cap, cur, rfl, _⟩
  · exact ⟨none, 0, by rw [h0]⟩
  · exact ⟨_, cap, rfl⟩
set_option maxHeartbeats 2000000 in
theorem rplan_ok (n : Nat) (h1 : 1 ≤ n) (h2 : n ≤ 288) (w : World) :
    Calls Try.prog 14 #[.int .i64 n] w (NewM2 w (moves n)) := by
  obtain ⟨i0, hI, hz0, hz1, hz2⟩ := info_parts Try.infoMv
  have hml := (moves_le h1 h2).2.2
  obtain ⟨r0, r1, r2⟩ := rn_ok h1 h2
  have R1 := Lib.hid r1
  have R2 := Lib.hid r2
  clear r1 r2
  go_enter Try.func14, Try.ntmps14
  go_wp2_with fail
  refine (rrounds_ok n h1 h2 w).mono ?_
  rintro e w' ⟨rfl, rfl⟩
  go_wp2_with fail
  go_loopw [6, 7, 8] (fun o q p wr => ∃ (j r : Nat) (v : Value) (L : List Mv), o = v ∧ q = .int .i64 ((2 ^ j : Nat) : Int) ∧ p = .int .i64 (j : Int) ∧ j + r = rn n ∧ CoR w v L wr ∧ L ++ mvs n j r = moves n) (fun _ _ p wr => rn n - (intOf p).toNat)
  case atStart => exact ⟨0, rn n, _, [], rfl, rfl, rfl, by omega, ⟨(World.ownsRow_nil _ _ _ _ : w.ownsRow w.heap.size 29 3 (.slice none 0 0) 0 []), Off.refl _ _⟩, rfl⟩
  case round =>
    obtain ⟨j, r, v, L, rfl, rfl, rfl, hjr, hco, hL⟩ := hrel
    have HC := Lib.hid hco
    have HL := Lib.hid hL
    obtain ⟨P, hP⟩ : ∃ P : Nat, 2 ^ j = P := ⟨_, rfl⟩
    have HP := Lib.hid hP
    have hP2 : P ≤ 512 := by rw [← hP]; exact (Nat.pow_le_pow_right (by decide) (by omega) : 2 ^ j ≤ 2 ^ 9)
    rw [hP]
    clear hco hL hP
    by_cases h0 : r = 0
    · have hx : j = rn n := by omega
      have hl1 : decide (j < rn n) = false := decide_eq_false (by omega)
      have hl2 : decide ((j : Int) < (rn n : Int)) = false := decide_eq_false (by omega)
      have HLL : Hid (L = moves n) := Lib.hid (by have := HL.out; subst h0; rwa [show mvs n j 0 = [] from rfl, List.append_nil] at this)
      clear hx
      go_wp2_with fail
      go_ret2
      have := HC.out
      rw [HLL.out] at this
      exact ⟨_, rfl, this.1, this.2⟩
    · have hlt : j < rn n := by omega
      have hl1 : decide (j < rn n) = true := decide_eq_true (by omega)
      have hl2 : decide ((j : Int) < (rn n : Int)) = true := decide_eq_true (by omega)
      have hPn : P < n := by have := R2.out j hlt; rw [HP.out] at this; exact this
      have HL2 : Hid (L ++ (rd n j P ++ mvs n (j + 1) (r - 1)) = moves n) := by
        have := HL.out
        rw [show mvs n j r = rd n j P ++ mvs n (j + 1) (r - 1) from by cases r with | zero => exact absurd rfl h0 | succ r => rw [← HP.out]; rfl] at this
        exact Lib.hid this
      clear HL
      go_wp2_with fail
      go_loopw [6, 9] (fun o q wq => ∃ (i : Nat) (v : Value) (L : List Mv), o = v ∧ q = .int .i64 (i : Int) ∧ P ≤ i ∧ i ≤ n ∧ CoR w v L wq ∧ L ++ (rd n j i ++ mvs n (j + 1) (r - 1)) = moves n) (fun _ q wq => n - (intOf q).toNat)
      case atStart => exact ⟨P, _, L, rfl, rfl, by omega, by omega, HC.out, HL2.out⟩
      case round =>
        obtain ⟨i, v2, L2, rfl, rfl, hi0, hi, hco2, hLL2⟩ := hrel
        obtain ⟨A, cap, rfl⟩ := hco2.form
        have HCO := Lib.hid hco2
        have HLQ := Lib.hid hLL2
        have hlen : L2.length ≤ 2592 := by have := congrArg List.length hLL2; rw [List.length_append] at this; omega
        clear hco2 hLL2 HC HL2
        by_cases hlt2 : i < n
        · have HLN : Hid ((L2 ++ [(j, i, i - 2 ^ j)]) ++ (rd n j (i + 1) ++ mvs n (j + 1) (r - 1)) = moves n) := Lib.hid (by rw [← HLQ.out, rd_cons hlt2]; simp)
          have hsub : ((i - 2 ^ j : Nat) : Int) = (i : Int) - (P : Int) := by rw [HP.out]; omega
          have HSB := Lib.hid hsub
          have hs1 : 0 ≤ (i : Int) - (P : Int) := by omega
          have hs2 : (i : Int) - (P : Int) ≤ 288 := by omega
          have hjb : (j : Int) ≤ 9 := by omega
          clear HLQ hsub
          go_wp2_with (at_builtin; refine wpList_append_own_at _ rfl _ _ 25 rfl w.heap.size 29 i0 (.agg #[.int .i64 0, .int .i64 0, .int .i64 0]) 3 24 Try.underlying25 hI hz0 hz1 hz2 rfl (by decide) (.slice A L2.length cap) L2.length (mvC L2) rfl (HCO.out.1.alloc _) ⟨wr.heap.size, 0, none⟩ 1 1 [.int .i64 (j : Int), .int .i64 (i : Int), .int .i64 ((i : Int) - (P : Int))] rfl rfl ?c1 ?c2 ?c3 ?c4 ?c5 ?_)
          case c1 => exact cell_three_new _ _ _ _ _
          case c2 => intro u hu; simp at hu; rcases hu with rfl | rfl | rfl <;> rfl
          case c3 => unfold maxLen; omega
          case c4 => omega
          case c5 => have := HCO.out.2.size; simp; omega
          intro v' w1 hown' hgrow hnil hat
          have HN : Hid (CoR w v' (L2 ++ [(j, i, i - 2 ^ j)]) w1) := Lib.hid ⟨by
            rw [mvC_snoc, HSB.out, List.length_append]
            exact hown', Off.grown (HCO.out.2.alloc _) hgrow (fun k hk => .inr (HCO.out.1.lt k hk).1)⟩
          clear hown' hgrow hnil hat HCO
          go_wp2_with fail
          go_roundw
          case rel => exact ⟨i + 1, _, _, rfl, by go_num, by omega, by omega, HN.out, HLN.out⟩
          case measure => simp [intOf]; omega
        · obtain rfl : n = i := by omega
          have HLN : Hid (L2 ++ mvs n (j + 1) (r - 1) = moves n) := Lib.hid (by have := HLQ.out; rwa [rd_nil (Nat.le_refl _), List.nil_append] at this)
          have HN : Hid (2 ^ (j + 1) = 2 * P) := Lib.hid (by rw [Nat.pow_succ, HP.out, Nat.mul_comm])
          clear HLQ
          go_wp2_with fail
          go_roundw
          case rel => exact ⟨j + 1, r - 1, _, _, rfl, by rw [HN.out]; push_cast; rfl, by go_num, by omega, HCO.out, HLN.out⟩
          case measure => simp [intOf]; omega
theorem rsteps_ok (n : Nat) (h1 : 1 ≤ n) (h2 : n ≤ 288) (w : World) : Calls Try.prog 12 #[.int .i64 n] w fun e w' => e = .returned (.tuple #[.int .i64 ((16 * (moves n).length : Nat) : Int), .int .i64 0]) ∧ Off Nob w w' := by
  have HP := Lib.hid (rplan_ok n h1 h2 w)
  have hml := (moves_le h1 h2).2.2
  go_enter Try.func12, Try.ntmps12
  go_wp2_with fail
  refine HP.out.mono ?_
  rintro e w1 ⟨v, rfl, g1, g2⟩
  obtain ⟨A, cap, rfl⟩ := CoR.form (w := w) (W := w1) ⟨g1, g2⟩
  have G2 := Lib.hid g2
  clear g1 g2
  obtain ⟨L, hL⟩ : ∃ L, (moves n).length = L := ⟨_, rfl⟩
  have HLL := Lib.hid hL
  rw [hL] at hml ⊢
  clear hL
  go_wp2_with fail
  go_ret2
  exact ⟨ret_fst (by rw [← HLL.out]; push_cast; rfl), G2.out⟩
theorem rsteps_bad (n : Int) (h : n < 1 ∨ 288 < n) (w : World) : Calls Try.prog 12 #[.int .i64 n] w fun e w' => e = .returned (.tuple #[.int .i64 0, .int .i64 7]) ∧ w = w' := by
  have HR := Lib.hid (rplan_bad n h w)
  clear h
  go_enter Try.func12, Try.ntmps12
  go_wp2_with fail
  refine HR.out.mono ?_
  rintro e w' ⟨rfl, rfl⟩
  go_wp2_with fail
  go_ret2
  exact ⟨rfl, rfl⟩
end Go.Proofs.Ytlefjlclhmapaaa
