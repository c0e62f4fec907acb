/-
  Lists of slots and of hits that came in.
-/
import Derived.Test.YtonkhgmfeakbcaaSlHit
import Derived.Test.YtonkhgmfeakbcaaOpen
namespace Go.Proofs.Ytonkhgmfeakbcaa
open Go.RowKit Go.ChangeShapes Go.WideShapes Go.ChangeAt
set_option linter.unusedVariables false
theorem rows_sl (n : Nat) : ∀ (xs : List Value), xs.length = n * 3 → (∀ j, j < n * 3 → ∃ u, xs[j]? = some u ∧ okV (some .u64) u) → ∃ L : List Sl, L.length = n ∧ xs = slC L := by
  induction n with
  | zero =>
    intro xs hl _
    exact ⟨[], rfl, List.eq_nil_of_length_eq_zero (by omega)⟩
  | succ n ih =>
    intro xs hl hk
    obtain ⟨u0, e0, o0⟩ := hk 0 (by omega)
    obtain ⟨u1, e1, o1⟩ := hk 1 (by omega)
    obtain ⟨u2, e2, o2⟩ := hk 2 (by omega)
    obtain ⟨x0, rfl⟩ := okV_u64 o0
    obtain ⟨x1, rfl⟩ := okV_u64 o1
    obtain ⟨x2, rfl⟩ := okV_u64 o2
    match xs, hl with
    | a :: b :: c :: ys, hl =>
      simp only [List.getElem?_cons_zero, List.getElem?_cons_succ, Option.some.injEq] at e0 e1 e2
      subst e0 e1 e2
      obtain ⟨L, h1, h2⟩ := ih ys (by simp at hl; omega) (fun j hj => by
        have := hk (j + 3) (by omega)
        simpa using this)
      exact ⟨(x0, x1, x2) :: L, by simp [h1], by rw [h2]; rfl⟩
    | [], hl => simp at hl
    | [_], hl => simp at hl; omega
    | [_, _], hl => simp at hl; omega
/-- In the range of an int. -/
def InI (x : Int) : Prop := -9223372036854775808 ≤ x ∧ x ≤ 9223372036854775807
theorem rows_hi (n : Nat) : ∀ (xs : List Value), xs.length = n * 2 → (∀ j, j < n * 2 → ∃ u, xs[j]? = some u ∧ okV (some .i64) u) → ∃ L : List Hi, L.length = n ∧ xs = hiC L ∧ ∀ h ∈ L, InI h.1 ∧ InI h.2 := by
  induction n with
  | zero =>
    intro xs hl _
    exact ⟨[], rfl, List.eq_nil_of_length_eq_zero (by omega), fun h hh => by cases hh⟩
  | succ n ih =>
    intro xs hl hk
    obtain ⟨u0, e0, o0⟩ := hk 0 (by omega)
    obtain ⟨u1, e1, o1⟩ := hk 1 (by omega)
    obtain ⟨x0, rfl, q0⟩ := okV_i64 o0
    obtain ⟨x1, rfl, q1⟩ := okV_i64 o1
    match xs, hl with
    | a :: b :: ys, hl =>
      simp only [List.getElem?_cons_zero, List.getElem?_cons_succ, Option.some.injEq] at e0 e1
      subst e0 e1
      obtain ⟨L, h1, h2, h3⟩ := ih ys (by simp at hl; omega) (fun j hj => by
        have := hk (j + 2) (by omega)
        simpa using this)
      refine ⟨(x0, x1) :: L, by simp [h1], by rw [h2]; rfl, fun h hh => ?_⟩
      rcases List.mem_cons.1 hh with rfl | hh
      · exact ⟨q0, q1⟩
      · exact h3 h hh
    | [], hl => simp at hl
    | [_], hl => simp at hl; omega
theorem opened_slots {w : World} {F : Nat → Prop} {v : Value} {n : Nat} {xs : List Value} (h : Rd w F 3 v n xs) (k : ∀ f j κ, j < n * 3 → kindAt Try.prog f 75 (j % 3) = some κ → ∃ u, xs[j]? = some u ∧ okV κ u) : ∃ L : List Sl, L.length = n ∧ Rd w F 3 v n (slC L) := by
  have hl : xs.length = n * 3 := by obtain ⟨_, _, _, _, hl, _⟩ := h; exact hl
  obtain ⟨L, h1, h2⟩ := rows_sl n xs hl (fun j hj => by
    have : j % 3 = 0 ∨ j % 3 = 1 ∨ j % 3 = 2 := by omega
    refine k 3 j (some .u64) hj ?_
    rcases this with e | e | e <;> rw [e] <;> kernel_rfl)
  exact ⟨L, h1, by rw [← h2]; exact h⟩
theorem opened_hits {w : World} {F : Nat → Prop} {v : Value} {n : Nat} {xs : List Value} (h : Rd w F 2 v n xs) (k : ∀ f j κ, j < n * 2 → kindAt Try.prog f 50 (j % 2) = some κ → ∃ u, xs[j]? = some u ∧ okV κ u) : ∃ L : List Hi, L.length = n ∧ Rd w F 2 v n (hiC L) ∧ ∀ h ∈ L, InI h.1 ∧ InI h.2 := by
  have hl : xs.length = n * 2 := by obtain ⟨_, _, _, _, hl, _⟩ := h; exact hl
  obtain ⟨L, h1, h2, h3⟩ := rows_hi n xs hl (fun j hj => by
    have : j % 2 = 0 ∨ j % 2 = 1 := by omega
    refine k 3 j (some .i64) hj ?_
    rcases this with e | e <;> rw [e] <;> kernel_rfl)
  exact ⟨L, h1, by rw [← h2]; exact h, h3⟩
end Go.Proofs.Ytonkhgmfeakbcaa
