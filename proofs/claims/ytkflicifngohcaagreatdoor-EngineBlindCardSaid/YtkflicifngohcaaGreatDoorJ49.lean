/-
  dragnetlaw21.EngineBlind returns true.
-/
import Derived.Test.YtkflicifngohcaaGreatDoorJ38
import Derived.Test.YtkflicifngohcaaGreatDoorJ35
import Derived.Test.YtkflicifngohcaaGreatDoorJ8
import Derived.Test.YtkflicifngohcaaGreatDoorJ7
import Derived.Test.YtkflicifngohcaaGreatDoorJ27
import Derived.Test.YtkflicifngohcaaGreatDoorJ48
namespace Go.Proofs.YtkflicifngohcaaGreatDoor
open Go.RowKit
set_option linter.unusedVariables false
set_option linter.unusedSimpArgs false
set_option maxRecDepth 100000
/-- The layout whose parts stand one behind the other. -/
def rowN (a b : Nat) : LayN := ⟨a, b, 0, 256 * a, 256 * a + a, 256 * a + a + b * a, 256 * a + a + b * a + a, 256 * a + a + b * a + a + a⟩
def rowZ (a b : Nat) : Nat := 256 * a + a + b * a + a + a + b
theorem rowN_in (a b : Nat) (a1 : 1 ≤ a) (a4 : a ≤ 4) (b1 : 1 ≤ b) (b16 : b ≤ 16) : (rowN a b).In (rowZ a b) := by
  refine ⟨a1, a4, b1, b16, ?_, ?_, ?_, ?_, ?_, ?_⟩
  · show 0 + 256 * a ≤ 256 * a + a + b * a + a + a + b
    omega
  · show 256 * a + a ≤ 256 * a + a + b * a + a + a + b
    omega
  · show 256 * a + a + b * a ≤ 256 * a + a + b * a + a + a + b
    omega
  · show 256 * a + a + b * a + a ≤ 256 * a + a + b * a + a + a + b
    omega
  · show 256 * a + a + b * a + a + a ≤ 256 * a + a + b * a + a + a + b
    omega
  · show 256 * a + a + b * a + a + a + b ≤ 256 * a + a + b * a + a + a + b
    omega
theorem rowN_ok (a b : Nat) (a1 : 1 ≤ a) (a4 : a ≤ 4) (b1 : 1 ≤ b) (b16 : b ≤ 16) : (rowN a b).lay.Ok (rowZ a b) := by
  have h : ∀ x : Fin 4, ∀ y : Fin 16, (List.range 6).all (fun k => decide (0 ≤ (pAt (rowN (x.val + 1) (y.val + 1)).lay.parts k).1 ∧ 0 ≤ (pAt (rowN (x.val + 1) (y.val + 1)).lay.parts k).2 ∧ (pAt (rowN (x.val + 1) (y.val + 1)).lay.parts k).1 + (pAt (rowN (x.val + 1) (y.val + 1)).lay.parts k).2 ≤ rowZ (x.val + 1) (y.val + 1))) = true ∧ apAll (rowN (x.val + 1) (y.val + 1)).lay.parts = true := by decide +kernel
  obtain ⟨h1, h2⟩ := h ⟨a - 1, by omega⟩ ⟨b - 1, by omega⟩
  have ea : a - 1 + 1 = a := by omega
  have eb : b - 1 + 1 = b := by omega
  simp only [ea, eb] at h1 h2
  refine ⟨by show (1 : Int) ≤ (a : Int); omega, by show (a : Int) ≤ 4; omega, by show (1 : Int) ≤ (b : Int); omega, by show (b : Int) ≤ 16; omega, fun k hk => ?_, h2⟩
  have := List.all_eq_true.1 h1 k (List.mem_range.2 hk)
  exact of_decide_eq_true this
theorem rowZ_le (a b : Nat) (a4 : a ≤ 4) (b16 : b ≤ 16) : rowZ a b ≤ 1200 := by
  have := Nat.mul_le_mul b16 a4
  unfold rowZ
  omega
end Go.Proofs.YtkflicifngohcaaGreatDoor
