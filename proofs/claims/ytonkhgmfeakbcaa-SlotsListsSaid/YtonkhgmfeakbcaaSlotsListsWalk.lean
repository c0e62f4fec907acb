/-
  The walk of dragnetlaw22.SlotsLists.
-/
import Derived.Test.YtonkhgmfeakbcaaAwake22
import Derived.Test.YtonkhgmfeakbcaaSlOpen
namespace Go.Proofs.Ytonkhgmfeakbcaa
open Go.RowKit
set_option linter.unusedVariables false
set_option maxRecDepth 100000
/-- What Of returns, of either kind. -/
def OfP (w : World) (m : Nat) (n : Int) (H : List Hi) (e : Ending) (w' : World) : Prop :=
  ∃ v k L, e = .returned (.tuple #[v, .int .i64 (ofE m n)]) ∧ Rd w' (fun _ => True) 3 v k (slC L) ∧ Off Nob w w' ∧ k = (if ofE m n = 0 then n.toNat else 0) ∧ L = if ofE m n = 0 then ofL H n.toNat else []
theorem sof_p {w : World} {G : Nat → Prop} {v : Value} {m : Nat} {n : Int} {H : List Hi} (h : Rd w G 2 v m (hiC H)) : Calls Try.prog 12 #[v, .int .i64 n] w (OfP w m n H) := by
  by_cases hz : ofE m n = 0
  · exact (sof_any h hz).mono fun e w' ⟨g, he, h1, h2⟩ => ⟨_, _, _, by rw [hz]; exact he, Rd.own h1 (fun _ _ => trivial), h2, by rw [if_pos hz], by rw [if_pos hz]⟩
  · exact (sof_err h hz).mono fun e w' ⟨he, hw⟩ => ⟨_, _, _, he, Rd.nil _ _ _, by rw [hw]; exact Off.refl _ _, by rw [if_neg hz], by rw [if_neg hz]⟩
theorem rsof_p {w : World} {G : Nat → Prop} {v : Value} {m : Nat} {n : Int} {H : List Hi} (h : Rd w G 2 v m (hiC H)) : Calls Try.prog 13 #[v, .int .i64 n] w (OfP w m n H) := by
  by_cases hz : ofE m n = 0
  · exact (rsof_any h hz).mono fun e w' ⟨g, he, h1, h2⟩ => ⟨_, _, _, by rw [hz]; exact he, Rd.own h1 (fun _ _ => trivial), h2, by rw [if_pos hz], by rw [if_pos hz]⟩
  · exact (rsof_err h hz).mono fun e w' ⟨he, hw⟩ => ⟨_, _, _, he, Rd.nil _ _ _, by rw [hw]; exact Off.refl _ _, by rw [if_neg hz], by rw [if_neg hz]⟩
set_option maxHeartbeats 4000000 in
theorem lists_small {w : World} {v0 v1 : Value} {n0 n1 : Nat} {L : List Sl} {H : List Hi} (h0 : Rd w (Old w) 3 v0 n0 (slC L)) (h1 : Rd w (Old w) 2 v1 n1 (hiC H)) (hn0 : n0 ≤ 300) (hn1 : n1 ≤ 300) (x0 x1 x2 : Int) :
    Calls Try.prog 3 #[v0, v1, .agg #[.int .i64 x0, .int .i64 x1, .int .i64 x2]] w (BoolNew true w) := by
  have HO1 := Lib.hid (h0.keep (Off.alloc (Off.refl Nob w) (.cells #[.int .i64 x0, .int .i64 x1, .int .i64 x2] 24)) (fun _ _ h => h))
  have HO2 := Lib.hid (h1.keep (Off.alloc (Off.refl Nob w) (.cells #[.int .i64 x0, .int .i64 x1, .int .i64 x2] 24)) (fun _ _ h => h))
  obtain ⟨A0, c0, rfl, _⟩ := h0
  obtain ⟨A1, c1, rfl, _⟩ := h1
  have hd0 : decide (300 < (n0 : Int)) = false := decide_eq_false (by omega)
  have hd1 : decide (300 < (n1 : Int)) = false := decide_eq_false (by omega)
  obtain ⟨⟨s1, s2⟩, hs⟩ : ∃ s, szV x0 x1 = s := ⟨_, rfl⟩
  have HS := Lib.hid hs
  clear hs
  go_enter Try.func3, Try.ntmps3
  go_wp2_with fail
  obtain ⟨W1, hW1⟩ : ∃ W1, w.alloc (.cells #[.int .i64 x0, .int .i64 x1, .int .i64 x2] 24) = W1 := ⟨_, rfl⟩
  have HB : Hid (Blk W1 w.heap.size 24 #[.int .i64 x0, .int .i64 x1, .int .i64 x2] ∧ Off Nob w W1) := Lib.hid (by rw [← hW1]; exact ⟨Blk.new _ _ _, Off.alloc (Off.refl _ _) _⟩)
  rw [hW1] at HO1 HO2 ⊢
  have k0 := HB.out.1.cell 0
  have k1 := HB.out.1.cell 1
  have k2 := HB.out.1.cell 2
  simp only [List.getElem?_toArray, List.getElem?_cons_succ, List.getElem?_cons_zero] at k0 k1 k2
  clear hW1
  go_wp2_with fail
  refine (size_any x0 x1 W1).mono ?_
  rintro e w' ⟨rfl, rfl⟩
  rw [HS.out]
  go_wp2_with fail
  refine (rsize_any x0 x1 W1).mono ?_
  rintro e w' ⟨rfl, rfl⟩
  rw [HS.out]
  go_wp2_with fail
  refine (sof_p HO2.out).mono ?_
  rintro e w2 ⟨u, k, M, rfl, r2, o2, hk, hM⟩
  obtain ⟨c, hc⟩ : ∃ c, ofE n1 x2 = c := ⟨_, rfl⟩
  have HK := Lib.hid (And.intro hk hM)
  have HC := Lib.hid hc
  have R2 := Lib.hid r2
  have O2 := Lib.hid o2
  rw [hc]
  have k2' : w2.cell? ⟨w.heap.size, 2, none⟩ = some (.int .i64 x2) := (o2.cell_old HB.out.1.lt _).trans k2
  clear hk hM hc r2 o2 k0 k1 k2
  go_wp2_with fail
  refine (rsof_p (HO2.out.keep O2.out (fun _ _ h => h))).mono ?_
  rintro e w3 ⟨u2, kk, M2, rfl, r3, o3, hk, hM⟩
  rw [HC.out]
  obtain rfl : kk = k := hk.trans HK.out.1.symm
  obtain rfl : M2 = M := hM.trans HK.out.2.symm
  have R3 := Lib.hid r3
  have R23 := Lib.hid (R2.out.keep o3 (fun _ _ h => h))
  have O3 := Lib.hid (O2.out.also o3)
  clear hk hM r3 o3 k2' R2 O2
  go_wp2_with fail
  refine (sameSl_eq R23.out R3.out).mono ?_
  rintro e w4 ⟨rfl, o4⟩
  have O4 := Lib.hid (O3.out.also o4)
  clear o4 O3 R3 R23
  go_wp2_with fail
  refine (hits_any (HO1.out.keep O4.out (fun _ _ h => h)) hn0).mono ?_
  rintro e w5 ⟨u3, rfl, r5, o5⟩
  have R5 := Lib.hid r5
  have O5 := Lib.hid (O4.out.also o5)
  clear r5 o5 O4
  go_wp2_with fail
  refine (rhits_any (HO1.out.keep O5.out (fun _ _ h => h)) hn0).mono ?_
  rintro e w6 ⟨u4, rfl, r6, o6⟩
  have R6 := Lib.hid r6
  have R56 := Lib.hid (own_off0 R5.out o6)
  have O6 := Lib.hid (O5.out.also o6)
  clear r6 o6 O5 R5
  go_wp2_with fail
  refine (sameHi_eq (Rd.own R56.out (F := fun _ => True) (fun _ _ => trivial)) (Rd.own R6.out (F := fun _ => True) (fun _ _ => trivial))).mono ?_
  rintro e w7 ⟨rfl, o7⟩
  have O7 := Lib.hid (O6.out.also o7)
  clear o7 O6 R6 R56
  go_wp2_with fail
  refine (awake_ok _).mono ?_
  rintro e w8 ⟨rfl, o8⟩
  have O8 := Lib.hid (O7.out.also o8)
  clear o8
  go_wp2_with fail
  go_ret
  exact ⟨rfl, HB.out.2.also O8.out⟩
theorem lists_long {w : World} (A0 A1 : Option Addr) (n0 c0 n1 c1 : Nat) (h : 300 < n0 ∨ 300 < n1) (b0 : n0 ≤ maxLen) (b1 : n1 ≤ maxLen) (x0 x1 x2 : Int) :
    Calls Try.prog 3 #[.slice A0 n0 c0, .slice A1 n1 c1, .agg #[.int .i64 x0, .int .i64 x1, .int .i64 x2]] w (BoolNew true w) := by
  unfold maxLen at b0 b1
  have t : decide (300 < (n0 : Int)) = true ∨ (decide (300 < (n0 : Int)) = false ∧ decide (300 < (n1 : Int)) = true) := by
    by_cases q : 300 < (n0 : Int)
    · exact .inl (decide_eq_true q)
    · exact .inr ⟨decide_eq_false q, decide_eq_true (by omega)⟩
  clear h
  rcases t with t1 | ⟨t1, t2⟩
  all_goals
    go_enter Try.func3, Try.ntmps3
    go_wp2_with fail
    refine (awake_ok _).mono ?_
    rintro e w4 ⟨rfl, h4⟩
    have H4 := Lib.hid h4
    clear h4
    go_wp2
    go_ret
    exact ⟨rfl, (Off.alloc (Off.refl _ _) _).also H4.out⟩
theorem slotsLists_walk {w : World} {v0 v1 : Value} {n0 n1 : Nat} {xs ys : List Value} (h0 : Rd w (Old w) 3 v0 n0 xs) (k0 : ∀ f j κ, j < n0 * 3 → kindAt Try.prog f 75 (j % 3) = some κ → ∃ u, xs[j]? = some u ∧ okV κ u)
    (h1 : Rd w (Old w) 2 v1 n1 ys) (k1 : ∀ f j κ, j < n1 * 2 → kindAt Try.prog f 50 (j % 2) = some κ → ∃ u, ys[j]? = some u ∧ okV κ u)
    (l : List Value) (hl : l.length = 3) (hk : ∀ f j κ, kindAt Try.prog f 24 j = some κ → ∃ u, l[j]? = some u ∧ okV κ u) :
    Calls Try.prog 3 #[v0, v1, .agg l.toArray] w (BoolNew true w) := by
  obtain ⟨u0, e0, o0⟩ := hk 4 0 (some .i64) (by kernel_rfl)
  obtain ⟨u1, e1, o1⟩ := hk 4 1 (some .i64) (by kernel_rfl)
  obtain ⟨u2, e2, o2⟩ := hk 4 2 (some .i64) (by kernel_rfl)
  obtain ⟨x0, rfl, q0⟩ := okV_i64 o0
  obtain ⟨x1, rfl, q1⟩ := okV_i64 o1
  obtain ⟨x2, rfl, q2⟩ := okV_i64 o2
  have hle : l = [.int .i64 x0, .int .i64 x1, .int .i64 x2] := by
    match l, hl with
    | [a, b, c], _ =>
      simp only [List.getElem?_cons_zero, List.getElem?_cons_succ, Option.some.injEq] at e0 e1 e2
      rw [e0, e1, e2]
  subst hle
  obtain ⟨L, hL, r0⟩ := opened_slots h0 k0
  obtain ⟨H, hH, r1, _⟩ := opened_hits h1 k1
  by_cases g : 300 < n0 ∨ 300 < n1
  · obtain ⟨A0, c0, rfl, m0, _⟩ := h0.form
    obtain ⟨A1, c1, rfl, m1, _⟩ := h1.form
    exact lists_long _ _ _ _ _ _ g m0 m1 _ _ _
  · exact lists_small r0 r1 (by omega) (by omega) _ _ _
end Go.Proofs.Ytonkhgmfeakbcaa
