import Derived.Test.YtedbafgejladiaaGreatRefCompOf
import Derived.Test.YtedbafgejladiaaGreatAwake25
import Derived.Test.YtedbafgejladiaaGreatSlOpen
import Derived.Test.YtedbafgejladiaaGreatOpen
/-
  The walk of dragnetlaw25.CompactOf.
-/
namespace Go.Proofs.YtedbafgejladiaaGreat
open Go.RowKit Go.ChangeShapes Go.WideShapes Go.ChangeAt
set_option linter.unusedVariables false
set_option linter.unusedSimpArgs false
set_option maxRecDepth 100000
set_option maxHeartbeats 4000000 in
theorem cof_long {w : World} (A B : Option Addr) (n0 c n1 d : Nat) (hg : 34 < n0 ∨ 60 < n1 ∧ n1 ≤ 256 ∨ 260 < n1) (m0 : n0 ≤ maxLen) (m1 : n1 ≤ maxLen) :
    Calls Tryz.prog 3 #[.slice A n0 c, .slice B n1 d] w (BoolNew true w) := by
  unfold maxLen at m0 m1
  have hx : (decide (34 < (n0 : Int)) = true) ∨ (decide (34 < (n0 : Int)) = false ∧ decide (60 < (n1 : Int)) = true ∧ decide ((n1 : Int) ≤ 256) = true) ∨ (decide (34 < (n0 : Int)) = false ∧ decide (60 < (n1 : Int)) = true ∧ decide ((n1 : Int) ≤ 256) = false ∧ decide (260 < (n1 : Int)) = true) := by
    simp only [decide_eq_true_eq, decide_eq_false_iff_not]; omega
  clear hg
  rcases hx with hx | ⟨hx, hy, hz⟩ | ⟨hx, hy, hz, hu⟩
  all_goals
    go_enter Tryz.func3, Tryz.ntmps3
    go_wp2_with fail
    refine (awake_ok _).mono ?_
    rintro e w5 ⟨rfl, o5⟩
    have H5 := Lib.hid o5
    clear o5
    go_wp2
    go_ret
    exact ⟨rfl, H5.out⟩
/-- What both return: rows that read the same, the same numbers. -/
def CofQ (w : World) (v u : Value) (x : Int) (e1 e2 : Int) (n : Nat) (L : List Sl) (w' : World) : Prop := ∃ F G, Rd w' F 3 v n (slC L) ∧ Rd w' G 3 u n (slC L) ∧ Off Nob w w'
set_option maxHeartbeats 4000000 in
theorem cof_small {w : World} {F G : Nat → Prop} {v0 v1 : Value} {n0 n1 : Nat} {A B : List Sl} (h0 : Rd w F 3 v0 n0 (slC A)) (h1 : Rd w G 3 v1 n1 (slC B)) (hg : ¬ (34 < n0 ∨ 60 < n1 ∧ n1 ≤ 256 ∨ 260 < n1)) :
    Calls Tryz.prog 3 #[v0, v1] w (BoolNew true w) := by
  have HC : Hid (∃ (n : Nat) (L : List Sl) (x y : Int), Calls Tryz.prog 6 #[v0, v1] w (fun e w' => ∃ v, e = .returned (.tuple #[v, .int .i64 x, .int .i64 y]) ∧ Rd w' (fun _ => True) 3 v n (slC L) ∧ Off Nob w w') ∧
      ∀ W, Off Nob w W → Calls Tryz.prog 7 #[v0, v1] W (fun e w' => ∃ v, e = .returned (.tuple #[v, .int .i64 x, .int .i64 y]) ∧ Rd w' (fun _ => True) 3 v n (slC L) ∧ Off Nob W w')) := Lib.hid (by
    by_cases hb : n0 < 1 ∨ 32 < n0 ∨ n1 < 1 ∨ 256 < n1
    · refine ⟨0, [], 0, 7, (cof_bad h0 h1 hb).mono fun e w' ⟨he, hw⟩ => ⟨_, he, Rd.nil _ _ _, hw ▸ Off.refl _ _⟩, fun W o => (rcof_bad (h0.keep o (fun k _ h => h)) (h1.keep o (fun k _ h => h)) hb).mono fun e w' ⟨he, hw⟩ => ⟨_, he, Rd.nil _ _ _, hw ▸ Off.refl _ _⟩⟩
    · refine ⟨n0 + n1, ofLst (A ++ B) n0 n1, wrap64 (n64 (ofDr (A ++ B) n0 n1)), 0, (cof_ok h0 h1 (by omega) (by omega) (by omega) (by omega)).mono fun e w' ⟨g, he, hb, ho⟩ => ⟨_, he, ?_, ho⟩, fun W o => (rcof_ok (h0.keep o (fun k _ h => h)) (h1.keep o (fun k _ h => h)) (by omega) (by omega) (by omega) (by omega)).mono fun e w' ⟨v, G, he, hr, ho⟩ => ⟨_, he, hr.mono (fun _ _ => trivial), ho⟩⟩
      have hl : (ofLst (A ++ B) n0 n1).length = n0 + n1 := rdL_len _ _ _
      exact ⟨_, _, rfl, by unfold maxLen; omega, by rw [slC_len, hl], fun _ => ⟨g, 0, rfl, trivial, hb.lt, fun j u hu => by rw [Nat.zero_add, hb.cell, List.getElem?_toArray]; exact hu⟩⟩)
  have d0 : decide (34 < (n0 : Int)) = false := decide_eq_false (by omega)
  have d2 : decide (260 < (n1 : Int)) = false := decide_eq_false (by omega)
  have d1 : decide (60 < (n1 : Int)) = false ∨ (decide (60 < (n1 : Int)) = true ∧ decide ((n1 : Int) ≤ 256) = false) := by
    simp only [decide_eq_true_eq, decide_eq_false_iff_not]; omega
  obtain ⟨A0, c0, rfl, _⟩ := h0
  obtain ⟨A1, c1, rfl, _⟩ := h1
  obtain ⟨n, L, x, y, h1, h2⟩ := HC.out
  have H1 := Lib.hid h1
  have H2 := Lib.hid h2
  clear h1 h2 HC hg
  rcases d1 with d1 | ⟨d1, d3⟩
  all_goals
    go_enter Tryz.func3, Tryz.ntmps3
    go_wp2_with fail
    refine H1.out.mono ?_
    rintro e w1 ⟨v, rfl, r1, o1⟩
    obtain ⟨X, cx, rfl, _⟩ := id r1
    have R1 := Lib.hid r1
    have O1 := Lib.hid o1
    clear r1 o1
    go_wp2_with fail
    refine (H2.out _ O1.out).mono ?_
    rintro e w2 ⟨u, rfl, r2, o2⟩
    obtain ⟨Y, cy, rfl, _⟩ := id r2
    have R2 := Lib.hid r2
    have R12 := Lib.hid (R1.out.keep o2 (fun k _ h => h))
    have O2 := Lib.hid (O1.out.also o2)
    clear r2 o2
    go_wp2_with fail
    refine (sameSl_eq R12.out R2.out).mono ?_
    rintro e w3 ⟨rfl, o3⟩
    have O3 := Lib.hid (O2.out.also o3)
    clear o3
    go_wp2_with fail
    refine (awake_ok _).mono ?_
    rintro e w5 ⟨rfl, o5⟩
    have H5 := Lib.hid (O3.out.also o5)
    clear o5
    go_wp2_with fail
    go_ret
    exact ⟨rfl, H5.out⟩
theorem compactOf_walk {w : World} {v0 v1 : Value} {n0 n1 : Nat} {xs ys : List Value} (h0 : Rd w (Old w) 3 v0 n0 xs) (k0 : ∀ f j κ, j < n0 * 3 → kindAt Tryz.prog f 46 (j % 3) = some κ → ∃ u, xs[j]? = some u ∧ okV κ u)
    (h1 : Rd w (Old w) 3 v1 n1 ys) (k1 : ∀ f j κ, j < n1 * 3 → kindAt Tryz.prog f 46 (j % 3) = some κ → ∃ u, ys[j]? = some u ∧ okV κ u) :
    Calls Tryz.prog 3 #[v0, v1] w (BoolNew true w) := by
  obtain ⟨A, hA, r0⟩ := opened_slots h0 k0
  obtain ⟨B, hB, r1⟩ := opened_slots h1 k1
  by_cases g : 34 < n0 ∨ 60 < n1 ∧ n1 ≤ 256 ∨ 260 < n1
  · obtain ⟨A0, c0, rfl, m0, _⟩ := h0.form
    obtain ⟨A1, c1, rfl, m1, _⟩ := h1.form
    exact cof_long _ _ _ _ _ _ g m0 m1
  · exact cof_small r0 r1 g
end Go.Proofs.YtedbafgejladiaaGreat

