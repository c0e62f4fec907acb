/-
  dragnetref16.after, Sorted: of lists of hits that ascend.
-/
import Derived.Test.YtonkhgmfeakbcaaSlHit
import Derived.Test.YtonkhgmfeakbcaaAppend
import Derived.Deep.RegionHeld3
import Derived.IntWalk
namespace Go.Proofs.Ytonkhgmfeakbcaa
open Go.RowKit
set_option linter.unusedVariables false
set_option linter.unusedSimpArgs false
set_option maxRecDepth 100000
/-- A hit comes behind another one. -/
def HiAft (x y : Hi) : Prop := y.1 < x.1 ∨ (x.1 = y.1 ∧ y.2 < x.2)
/-- Hits that ascend, in range. -/
def HiAsc (H : List Hi) : Prop := (∀ i, i < H.length → 1 ≤ (hi H i).1 ∧ (hi H i).1 ≤ 1000000000 ∧ 0 ≤ (hi H i).2 ∧ (hi H i).2 < 16) ∧ ∀ i, i + 1 < H.length → HiAft (hi H (i + 1)) (hi H i)
theorem after_yes (a b c d : Int) (h : c < a ∨ (a = c ∧ d < b)) (w : World) : Calls Try.prog 47 #[.agg #[.int .i64 a, .int .i64 b], .agg #[.int .i64 c, .int .i64 d]] w fun e w' => e = .returned (.bool true) ∧ Off Nob w w' := by
  by_cases h1 : c < a
  · have d1 : decide (c < a) = true := decide_eq_true h1
    clear h h1
    go_enter Try.func47, Try.ntmps47
    go_wp2_with fail
    go_ret
    exact ⟨rfl, Off.alloc (Off.alloc (Off.refl _ _) _) _⟩
  · have d1 : decide (c < a) = false := decide_eq_false h1
    rcases h with h | ⟨rfl, h⟩
    · exact absurd h h1
    have d2 : decide (d < b) = true := decide_eq_true h
    clear h h1
    go_enter Try.func47, Try.ntmps47
    go_wp2_with fail
    go_ret
    exact ⟨rfl, Off.alloc (Off.alloc (Off.refl _ _) _) _⟩
def SortP (w : World) (e : Ending) (w' : World) : Prop := e = .returned (.tuple #[.int .i64 0, .int .i64 0]) ∧ Off Nob w w'
set_option maxHeartbeats 2000000 in
theorem sorted_some (w : World) (b o c n : Nat) (H : List Hi) (hl : H.length = n) (hn : n ≤ 70000) (hb : b < w.heap.size) (hca : ∀ j u, (hiC H)[j]? = some u → w.cell? ⟨b, o + j, none⟩ = some u) (hs : HiAsc H) :
    Calls Try.prog 22 #[.slice (some ⟨b, o, none⟩) n c] w (SortP w) := by
  have HL := Lib.hid hl
  have HC := Lib.hid hca
  have HS := Lib.hid hs
  have HB := Lib.hid hb
  have dn : decide ((70000 : Int) < (n : Int)) = false := decide_eq_false (by omega)
  clear hl hca hs
  go_enter Try.func22, Try.ntmps22
  go_wp2_with fail
  clear dn
  go_loopw [4] (fun i wr => ∃ k : Nat, k ≤ n ∧ i = .int .i64 k ∧ Off Nob w wr) (fun i _ => n - (intOf i).toNat)
  case atStart => exact ⟨0, Nat.zero_le _, rfl, Off.refl _ _⟩
  case round =>
    obtain ⟨k, hk, rfl, ho⟩ := hrel
    have HO := Lib.hid ho
    by_cases hlt : k < n
    · obtain ⟨r1, r2, r3, r4⟩ := HS.out.1 k (by have := HL.out; omega)
      obtain ⟨hc1, hc2⟩ := hiC_at H k (by have := HL.out; omega)
      replace hc1 := HC.out _ _ hc1
      replace hc2 := HC.out _ _ hc2
      rw [← Nat.add_assoc] at hc2
      rw [← ho.cell_old hb] at hc1 hc2
      have ha : 0 < k → HiAft (hi H k) (hi H (k - 1)) := fun h => by
        have := HS.out.2 (k - 1) (by have := HL.out; omega)
        rwa [show k - 1 + 1 = k by omega] at this
      have hp : 0 < k → wr.cell? ⟨b, o + (k - 1) * 2, none⟩ = some (.int .i64 (hi H (k - 1)).1) ∧ wr.cell? ⟨b, o + (k - 1) * 2 + 1, none⟩ = some (.int .i64 (hi H (k - 1)).2) := fun h => by
        obtain ⟨p1, p2⟩ := hiC_at H (k - 1) (by have := HL.out; omega)
        replace p1 := HC.out _ _ p1
        replace p2 := HC.out _ _ p2
        rw [← Nat.add_assoc] at p2
        rw [← ho.cell_old hb] at p1 p2
        exact ⟨p1, p2⟩
      clear ho
      revert hc1 hc2 r1 r2 r3 r4 ha hp
      generalize hi H k = x
      generalize hi H (k - 1) = y
      obtain ⟨a1, a2⟩ := x
      obtain ⟨b1, b2⟩ := y
      intro r1 r2 r3 r4 hc1 hc2 ha hp
      dsimp only at r1 r2 r3 r4 hc1 hc2 ha hp
      have d1 : decide (a1 < 1) = false := decide_eq_false (by omega)
      have d2 : decide ((1000000000 : Int) < a1) = false := decide_eq_false (by omega)
      have d3 : decide (a2 < 0) = false := decide_eq_false (by omega)
      have d4 : decide ((16 : Int) ≤ a2) = false := decide_eq_false (by omega)
      clear r1 r2 r3 r4
      by_cases hz : k = 0
      · subst hz
        clear ha hp
        simp only [Nat.zero_mul, Nat.add_zero] at hc1 hc2
        go_wp2_with fail
        go_quiet (fail)
        go_wp2_with fail
        go_roundw
        case rel => exact ⟨1, by omega, by go_num, HO.out.drewN _⟩
        case measure => simp [intOf]; omega
      · have ha' := ha (by omega)
        obtain ⟨p1, p2⟩ := hp (by omega)
        have HAF : Hid (∀ w, Calls Try.prog 47 #[.agg #[.int .i64 a1, .int .i64 a2], .agg #[.int .i64 b1, .int .i64 b2]] w fun e w' => e = .returned (.bool true) ∧ Off Nob w w') := Lib.hid (after_yes a1 a2 b1 b2 ha')
        have hk1 : k - 1 = ((k : Int) - 1).toNat := by omega
        have q0 : (0 : Int) ≤ (k : Int) - 1 := by omega
        have q1 : (k : Int) - 1 < (n : Int) := by omega
        have q2 : (k : Int) < (n : Int) := by omega
        have q4 : IntKind.i64.wrap ((k : Int) - 1) = (k : Int) - 1 := IntWalk.i64_in _ (by omega)
        have dp : decide ((0 : Int) < (k : Int)) = true := decide_eq_true (by omega)
        have dp2 : decide (0 < k) = true := decide_eq_true (by omega)
        have dp3 : 0 < k := by omega
        have q5 : (1 : Int) ≤ (k : Int) := by omega
        have q6 : (k : Int) ≤ (n : Int) := by omega
        have q7 : 1 ≤ k := by omega
        have q8 : k ≤ n := by omega
        clear ha hp ha' hz hk1
        go_wp2_with fail
        have kS : wr.cell? ⟨b, o + k * 2, none⟩ = some (.int .i64 a1) ∧ wr.cell? ⟨b, o + k * 2 + 1, none⟩ = some (.int .i64 a2) ∧ wr.cell? ⟨b, o + (k - 1) * 2, none⟩ = some (.int .i64 b1) ∧ wr.cell? ⟨b, o + (k - 1) * 2 + 1, none⟩ = some (.int .i64 b2) := ⟨hc1, hc2, p1, p2⟩
        clear hc1 hc2 p1 p2
        go_region_held3 (fun w' => w'.cell? ⟨b, o + k * 2, none⟩ = some (.int .i64 a1) ∧ w'.cell? ⟨b, o + k * 2 + 1, none⟩ = some (.int .i64 a2) ∧ w'.cell? ⟨b, o + (k - 1) * 2, none⟩ = some (.int .i64 b1) ∧ w'.cell? ⟨b, o + (k - 1) * 2 + 1, none⟩ = some (.int .i64 b2))
          (first | with_reducible assumption | exact kS | go_keep)
          (first
            | (go_at_call 47; refine (HAF.out _).mono ?_; rintro e w3 ⟨rfl, o3⟩; have H3 := Lib.hid (HO.out.also (Off.also (by first | with_reducible exact Off.refl _ _ | with_reducible exact Off.drew (Off.refl _ _) | with_reducible exact Off.drewN (Off.refl _ _) _) o3)); have kq : w3.cell? ⟨b, o + k * 2, none⟩ = some (.int .i64 a1) ∧ w3.cell? ⟨b, o + k * 2 + 1, none⟩ = some (.int .i64 a2) ∧ w3.cell? ⟨b, o + (k - 1) * 2, none⟩ = some (.int .i64 b1) ∧ w3.cell? ⟨b, o + (k - 1) * 2 + 1, none⟩ = some (.int .i64 b2) := ⟨(H3.out.cell_old HB.out _).trans ((HO.out.cell_old HB.out _).symm.trans kS.1), (H3.out.cell_old HB.out _).trans ((HO.out.cell_old HB.out _).symm.trans kS.2.1), (H3.out.cell_old HB.out _).trans ((HO.out.cell_old HB.out _).symm.trans kS.2.2.1), (H3.out.cell_old HB.out _).trans ((HO.out.cell_old HB.out _).symm.trans kS.2.2.2)⟩; clear o3))
        go_wp2_with fail
        go_roundw
        case rel => exact ⟨k + 1, by omega, by go_num, H3.out⟩
        case measure => simp [intOf]; omega
    · clear ho
      go_wp2_with fail
      go_ret2
      exact ⟨rfl, HO.out⟩
theorem sorted_zero (w : World) (A : Option Addr) (c : Nat) : Calls Try.prog 22 #[.slice A 0 c] w (SortP w) := by
  go_enter Try.func22, Try.ntmps22
  go_wp2_with fail
  go_loopw [4] (fun i wr => i = .int .i64 0 ∧ wr = w) (fun _ _ => 0)
  case atStart => exact ⟨rfl, rfl⟩
  case round =>
    obtain ⟨rfl, rfl⟩ := hrel
    go_wp2_with fail
    go_ret2
    exact ⟨rfl, Off.refl _ _⟩
end Go.Proofs.Ytonkhgmfeakbcaa
