/-
  The walk of dragnetlaw24.NetworkApplies.
-/
import Derived.Test.YtlefjlclhmapaaaAppliesSome
import Derived.Test.YtlefjlclhmapaaaOpen
namespace Go.Proofs.Ytlefjlclhmapaaa
open Go.RowKit
set_option linter.unusedVariables false
set_option linter.unusedSimpArgs false
set_option maxRecDepth 100000
set_option maxHeartbeats 1000000 in
theorem applies_err (w : World) (X Y : Option Addr) (n c m d : Nat) (code : Int) (hcode : code = 7 ∨ code = 2) (hn : n ≤ 300) (hm : m ≤ 300)
    (hN : Calls Try.prog 17 #[.slice X n c, .slice Y m d] w fun e w' => e = .returned (.tuple #[.slice none 0 0, .int .i64 code]) ∧ w = w')
    (hR : Calls Try.prog 20 #[.slice X n c, .slice Y m d] w fun e w' => e = .returned (.tuple #[.slice none 0 0, .int .i64 code]) ∧ Off Nob w w') :
    Calls Try.prog 5 #[.slice X n c, .slice Y m d] w (BoolNew true w) := by
  have HN := Lib.hid hN
  have HR := Lib.hid hR
  clear hN hR
  have q1 : decide ((300 : Int) < (n : Int)) = false := decide_eq_false (by omega)
  have q2 : decide ((300 : Int) < (m : Int)) = false := decide_eq_false (by omega)
  have q3 : (code != code) = false := by simp
  have q4 : (code != 0) = true := by rw [bne_iff_ne]; omega
  have HQ : Hid (∀ w, Calls Try.prog 19 #[.slice none 0 0, .slice none 0 0] w (BoolNew true w)) := Lib.hid (fun w => sameSl_zero w none none 0 0)
  go_enter Try.func5, Try.ntmps5
  go_wp2_with fail
  refine HN.out.mono ?_
  rintro e w1 ⟨rfl, rfl⟩
  go_wp2_with fail
  refine HR.out.mono ?_
  rintro e w2 ⟨rfl, o2⟩
  have O2 := Lib.hid o2
  clear o2
  go_wp2_with fail
  refine (HQ.out _).mono ?_
  rintro e w3 ⟨rfl, o3⟩
  have O3 := Lib.hid (O2.out.also o3)
  clear o3
  go_wp2_with fail
  refine (awake_ok _).mono ?_
  rintro e w4 ⟨rfl, o4⟩
  have O4 := Lib.hid (O3.out.also o4)
  clear o4
  go_wp2
  go_ret
  exact ⟨rfl, O4.out⟩
theorem applies_wide (w : World) (X Y : Option Addr) (n c m d : Nat) (h : 300 < n ∨ 300 < m) (hn : n ≤ maxLen) (hm : m ≤ maxLen) :
    Calls Try.prog 5 #[.slice X n c, .slice Y m d] w (BoolNew true w) := by
  unfold maxLen at hn hm
  by_cases g : 300 < n
  · have q1 : decide ((300 : Int) < (n : Int)) = true := decide_eq_true (by omega)
    clear h
    go_enter Try.func5, Try.ntmps5
    go_wp2_with fail
    refine (awake_ok _).mono ?_
    rintro e w4 ⟨rfl, o4⟩
    go_wp2
    go_ret
    exact ⟨rfl, o4⟩
  · have q1 : decide ((300 : Int) < (n : Int)) = false := decide_eq_false (by omega)
    have q2 : decide ((300 : Int) < (m : Int)) = true := decide_eq_true (by omega)
    clear h
    go_enter Try.func5, Try.ntmps5
    go_wp2_with fail
    refine (awake_ok _).mono ?_
    rintro e w4 ⟨rfl, o4⟩
    go_wp2
    go_ret
    exact ⟨rfl, o4⟩
theorem rows_sl (n : Nat) : ∀ (xs : List Value), xs.length = n * 3 → (∀ j, j < n * 3 → ∃ u, xs[j]? = some u ∧ okV (some .u64) u) → ∃ L : List Sl, L.length = n ∧ xs = slC L := by
  induction n with
  | zero =>
    intro xs hl _
    exact ⟨[], rfl, List.eq_nil_of_length_eq_zero (by omega)⟩
  | succ n ih =>
    intro xs hl hk
    obtain ⟨u0, e0, o0⟩ := hk 0 (by omega)
    obtain ⟨u1, e1, o1⟩ := hk 1 (by omega)
    obtain ⟨u2, e2, o2⟩ := hk 2 (by omega)
    obtain ⟨x0, rfl⟩ := okV_u64 o0
    obtain ⟨x1, rfl⟩ := okV_u64 o1
    obtain ⟨x2, rfl⟩ := okV_u64 o2
    match xs, hl with
    | a :: b :: c :: ys, hl =>
      simp only [List.getElem?_cons_zero, List.getElem?_cons_succ, Option.some.injEq] at e0 e1 e2
      subst e0 e1 e2
      obtain ⟨L, h1, h2⟩ := ih ys (by simp at hl; omega) (fun j hj => by
        have := hk (j + 3) (by omega)
        simpa using this)
      exact ⟨(x0, x1, x2) :: L, by simp [h1], by rw [h2]; rfl⟩
    | [], hl => simp at hl
    | [_], hl => simp at hl; omega
    | [_, _], hl => simp at hl; omega
theorem opened_slots {w : World} {F : Nat → Prop} {v : Value} {n : Nat} {xs : List Value} (h : Rd w F 3 v n xs) (k : ∀ f j κ, j < n * 3 → kindAt Try.prog f 41 (j % 3) = some κ → ∃ u, xs[j]? = some u ∧ okV κ u) : ∃ L : List Sl, L.length = n ∧ Rd w F 3 v n (slC L) := by
  have hl : xs.length = n * 3 := by obtain ⟨_, _, _, _, hl, _⟩ := h; exact hl
  obtain ⟨L, h1, h2⟩ := rows_sl n xs hl (fun j hj => by
    have : j % 3 = 0 ∨ j % 3 = 1 ∨ j % 3 = 2 := by omega
    refine k 3 j (some .u64) hj ?_
    rcases this with e | e | e <;> rw [e] <;> kernel_rfl)
  exact ⟨L, h1, by rw [← h2]; exact h⟩
/-- The first distance that is none. -/
theorem first_bad (Z : List Int) : ∀ n, (∀ i, i < n → 0 ≤ Z.getD i 0 ∧ Z.getD i 0 ≤ i) ∨ ∃ m, m < n ∧ (∀ i, i < m → 0 ≤ Z.getD i 0 ∧ Z.getD i 0 ≤ i) ∧ (Z.getD m 0 < 0 ∨ (m : Int) < Z.getD m 0) := by
  intro n
  induction n with
  | zero => exact .inl (fun i h => absurd h (Nat.not_lt_zero _))
  | succ n ih =>
    rcases ih with h | ⟨m, h1, h2, h3⟩
    · by_cases g : 0 ≤ Z.getD n 0 ∧ Z.getD n 0 ≤ n
      · refine .inl (fun i hi => ?_)
        by_cases e : i = n
        · rw [e]; exact g
        · exact h i (by omega)
      · exact .inr ⟨n, by omega, h, by omega⟩
    · exact .inr ⟨m, by omega, h2, h3⟩
theorem networkApplies_walk {w : World} {v0 v1 : Value} {n0 n1 : Nat} {xs : List Value} {zs : List Int} (h0 : Rd w (Old w) 3 v0 n0 xs) (k0 : ∀ f j κ, j < n0 * 3 → kindAt Try.prog f 41 (j % 3) = some κ → ∃ u, xs[j]? = some u ∧ okV κ u)
    (h1 : Rd w (Old w) 1 v1 n1 (zs.map (Value.int .i64))) (b1 : ∀ z ∈ zs, (Lit.int .i64 z).wf = true) :
    Calls Try.prog 5 #[v0, v1] w (BoolNew true w) := by
  obtain ⟨A, hA, r0⟩ := opened_slots h0 k0
  obtain ⟨X, c, rfl, m0, l0, x0⟩ := r0
  obtain ⟨Y, d, rfl, m1, l1, x1⟩ := h1
  rw [List.length_map, Nat.mul_one] at l1
  by_cases g : 300 < n0 ∨ 300 < n1
  · exact applies_wide w X Y n0 c n1 d g m0 m1
  by_cases g1 : n0 < 1 ∨ 288 < n0
  · exact applies_err w X Y n0 c n1 d 7 (.inl rfl) (by omega) (by omega) (napply_e7 X Y n0 n1 c d g1 m0 w) (rapply_e7 X Y n0 n1 c d g1 m0 m1 w)
  by_cases g2 : n1 = n0
  rotate_left
  · exact applies_err w X Y n0 c n1 d 2 (.inr rfl) (by omega) (by omega) (napply_e2 X Y n0 n1 c d (by omega) (by omega) g2 m1 w) (rapply_e2 X Y n0 n1 c d (by omega) (by omega) g2 m1 w)
  subst g2
  obtain ⟨b, o, rfl, _, hb, hx⟩ := x0 (by omega)
  obtain ⟨b2, o2, rfl, _, hb2, hx2⟩ := x1 (by omega)
  have hz : ∀ i, i < n1 → w.cell? ⟨b2, o2 + i, none⟩ = some (.int .i64 (zs.getD i 0)) := fun i hi => hx2 i _ (by simp [show i < zs.length by omega])
  rcases first_bad zs n1 with hok | ⟨m, hm1, hm2, hm3⟩
  · obtain ⟨D, hD⟩ : ∃ D : List Nat, D = zs.map Int.toNat := ⟨_, rfl⟩
    have hDg : ∀ i, i < n1 → ((D.getD i 0 : Nat) : Int) = zs.getD i 0 := fun i hi => by
      have := (hok i hi).1
      have e : D.getD i 0 = (zs.getD i 0).toNat := by rw [hD]; simp [show i < zs.length by omega]
      rw [e]; omega
    have hinC : inC D = zs.map (Value.int .i64) := by
      apply List.ext_getElem
      · simp [inC, hD]
      · intro i h1 h2
        have hi : i < n1 := by simpa [l1] using h2
        have := hDg i hi
        have e1 : D[i]? = some (D.getD i 0) := by simp [show i < D.length by rw [hD]; simp; omega]
        have e2 : zs[i]? = some (zs.getD i 0) := by simp [show i < zs.length by omega]
        have hdl : i < D.length := by rw [hD]; simp; omega
        have hzl : i < zs.length := by omega
        have e3 : D[i] = D.getD i 0 := by simp [hdl]
        have e4 : zs[i] = zs.getD i 0 := by simp [hzl]
        simp only [inC, List.getElem_map]
        rw [e3, e4, this]
    exact applies_some w b o n1 c b2 o2 d A D hA (by rw [hD]; simpa using l1) (by omega) (by omega) hb hb2 hx (by rw [hinC]; exact hx2) (fun i hi => by have := hDg i hi; have := (hok i hi).2; omega)
  · exact applies_err w _ _ n1 c n1 d 2 (.inr rfl) (by omega) (by omega) (napply_bad _ n1 c b2 o2 d m zs (by omega) (by omega) hm1 hm2 hm3 w hz) (rapply_bad _ n1 c b2 o2 d m zs (by omega) (by omega) hm1 hm2 hm3 w hb2 hz)
end Go.Proofs.Ytlefjlclhmapaaa
