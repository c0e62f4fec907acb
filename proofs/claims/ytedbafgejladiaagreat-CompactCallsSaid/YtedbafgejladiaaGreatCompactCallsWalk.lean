import Derived.Test.YtedbafgejladiaaGreatRefCompOf
import Derived.Test.YtedbafgejladiaaGreatCompNil
import Derived.Test.YtedbafgejladiaaGreatAwake25
import Derived.Test.YtedbafgejladiaaGreatOpen
import Derived.Deep.RegionHeld3
/-
  The walk of dragnetlaw25.CompactCalls.
-/
namespace Go.Proofs.YtedbafgejladiaaGreat
open Go.RowKit Go.ChangeShapes Go.WideShapes Go.ChangeAt
set_option linter.unusedVariables false
set_option linter.unusedSimpArgs false
set_option maxRecDepth 100000
theorem steps_both (k n : Int) : ∃ x y : Int, (∀ w, Calls Tryz.prog 10 #[.int .i64 k, .int .i64 n] w fun e w' => e = .returned (.tuple #[.int .i64 x, .int .i64 y]) ∧ w = w') ∧ ∀ w, Calls Tryz.prog 11 #[.int .i64 k, .int .i64 n] w fun e w' => e = .returned (.tuple #[.int .i64 x, .int .i64 y]) ∧ Off Nob w w' := by
  by_cases hb : k < 1 ∨ 32 < k ∨ n < 1 ∨ 256 < n
  · exact ⟨0, 7, fun w => csteps_bad k n hb w, fun w => rcsteps_bad k n hb w⟩
  · obtain ⟨k, rfl⟩ := Int.eq_ofNat_of_zero_le (show 0 ≤ k by omega)
    obtain ⟨n, rfl⟩ := Int.eq_ofNat_of_zero_le (show 0 ≤ n by omega)
    exact ⟨_, 0, fun w => csteps_ok k n (by omega) (by omega) (by omega) (by omega) w, fun w => rcsteps_ok k n (by omega) (by omega) (by omega) (by omega) w⟩
theorem comp_both (C1 : List (BitVec 64)) (E1 : List Ev) (s r d f k n : Int) : ∃ (c : Int) (C2 : List (BitVec 64)) (E2 : List Ev),
    (∀ p w F, Ar w F p C1 E1 → Calls Tryz.prog 12 #[.pointer (some ⟨p, 0, none⟩), .agg #[.int .i64 s, .int .i64 r, .int .i64 d, .int .i64 f], .int .i64 k, .int .i64 n] w fun e w' => e = .returned (.int .i64 c) ∧ ArTo w F p C2 E2 w') ∧
    ∀ p w F, Rf w F p C1 E1 → Calls Tryz.prog 13 #[.pointer (some ⟨p, 0, none⟩), .agg #[.int .i64 s, .int .i64 r, .int .i64 d, .int .i64 f], .int .i64 k, .int .i64 n] w fun e w' => e = .returned (.int .i64 c) ∧ RfTo w F p C2 E2 w' :=
  ⟨_, _, _, fun p w F ha => ccompact_any ha s r d f k n, fun p w F ha => rccompact_any ha s r d f k n⟩
/-- A list of calls, cell by cell. -/
def CpsAt (w : World) (A : Option Addr) (m : Nat) : Prop := 0 < m → ∃ b o, A = some ⟨b, o, none⟩ ∧ b < w.heap.size ∧ ∀ i, i < m → ∃ (s r d f k n : Int), w.cell? ⟨b, o + i * 6, none⟩ = some (.int .i64 s) ∧ w.cell? ⟨b, o + i * 6 + 1, none⟩ = some (.int .i64 r) ∧ w.cell? ⟨b, o + i * 6 + 2, none⟩ = some (.int .i64 d) ∧ w.cell? ⟨b, o + i * 6 + 3, none⟩ = some (.int .i64 f) ∧ w.cell? ⟨b, o + i * 6 + 4, none⟩ = some (.int .i64 k) ∧ w.cell? ⟨b, o + i * 6 + 5, none⟩ = some (.int .i64 n)
set_option maxHeartbeats 8000000 in
theorem cps_small {w : World} {G : Nat → Prop} {v0 : Value} (n0 : Nat) (A : Option Addr) (k1 c : Nat) (C : List (BitVec 64)) (h0 : Rd w G 1 v0 n0 (u64s C)) (hn0 : n0 ≤ 200) (hk1 : k1 ≤ 3) (ha : CpsAt w A k1) :
    Calls Tryz.prog 4 #[v0, .slice A k1 c] w (BoolNew true w) := by
  have hl : C.length = n0 := by obtain ⟨_, _, _, _, hl, _⟩ := h0; rw [length_u64s] at hl; omega
  have HAR := Lib.hid (arena_any h0 (by omega))
  obtain ⟨A0, c0, rfl, _⟩ := h0
  have HA := Lib.hid ha
  have hd0 : decide (200 < (n0 : Int)) = false := by simp; omega
  have hd1 : decide (3 < (k1 : Int)) = false := by simp; omega
  clear ha hl
  go_enter Tryz.func4, Tryz.ntmps4
  go_wp2_with fail
  refine HAR.out.mono ?_
  rintro e w1 h1
  obtain ⟨p, q, rfl, hB⟩ := h1.both
  have H1 := Lib.hid hB
  clear h1 hB hd0 hd1
  go_wp2_with fail
  go_loopw [7] (fun i wr => ∃ j : Nat, j ≤ k1 ∧ i = .int .i64 j ∧ ∃ C E, Both w wr p q C E) (fun i _ => k1 - (intOf i).toNat)
  case atStart => exact ⟨0, Nat.zero_le _, rfl, _, _, H1.out⟩
  case round =>
    obtain ⟨i, hi1, rfl, C1, E1, hrel⟩ := hrel
    have HR : Hid (Half w wr p q C1 E1 C1 E1) := Lib.hid hrel
    clear hrel H1
    by_cases hlt : i < k1
    · obtain ⟨b, o, hA, hb, hcell⟩ := HA.out (by omega)
      subst hA
      obtain ⟨s, r, d, f, k, n, c0, c1, c2, c3, c4, c5⟩ := hcell i hlt
      have hold := HR.out.old
      rw [← hold.cell_old hb] at c0 c1 c2 c3 c4 c5
      obtain ⟨x, y, t1, t2⟩ := steps_both k n
      obtain ⟨c', C2, E2, m1, m2⟩ := comp_both C1 E1 s r d f k n
      have T1 := Lib.hid t1
      have T2 := Lib.hid t2
      have M1 := Lib.hid m1
      have M2 := Lib.hid m2
      have HP := Lib.hid (HR.out.pair 37 #[.int .i64 s, .int .i64 r, .int .i64 d, .int .i64 f, .int .i64 k, .int .i64 n])
      clear hold hcell t1 t2 m1 m2
      go_wp2_with fail
      refine (T1.out _).mono ?_
      rintro e w' ⟨rfl, rfl⟩
      clear c0 c1 c2 c3 c4 c5
      go_wp2_with fail
      refine (T2.out _).mono ?_
      rintro e w2 ⟨rfl, o2⟩
      have HP2 := Lib.hid (HP.out.off o2)
      have kS : w2.cell? ⟨wr.heap.size, 0, none⟩ = some (.int .i64 s) ∧ w2.cell? ⟨wr.heap.size, 1, none⟩ = some (.int .i64 r) ∧ w2.cell? ⟨wr.heap.size, 2, none⟩ = some (.int .i64 d) ∧ w2.cell? ⟨wr.heap.size, 3, none⟩ = some (.int .i64 f) ∧ w2.cell? ⟨wr.heap.size, 4, none⟩ = some (.int .i64 k) ∧ w2.cell? ⟨wr.heap.size, 5, none⟩ = some (.int .i64 n) := ⟨HP2.out.cell 0, HP2.out.cell 1, HP2.out.cell 2, HP2.out.cell 3, HP2.out.cell 4, HP2.out.cell 5⟩
      clear o2 HP
      go_wp2_with fail
      go_region_held3 (fun w' => w'.cell? ⟨wr.heap.size, 0, none⟩ = some (.int .i64 s) ∧ w'.cell? ⟨wr.heap.size, 1, none⟩ = some (.int .i64 r) ∧ w'.cell? ⟨wr.heap.size, 2, none⟩ = some (.int .i64 d) ∧ w'.cell? ⟨wr.heap.size, 3, none⟩ = some (.int .i64 f) ∧ w'.cell? ⟨wr.heap.size, 4, none⟩ = some (.int .i64 k) ∧ w'.cell? ⟨wr.heap.size, 5, none⟩ = some (.int .i64 n))
        (first | with_reducible assumption | go_keep)
        (first
          | (go_at_call 12; refine (Pair.first (HP2.out.off (by first | with_reducible exact Off.refl _ _ | with_reducible exact Off.drew (Off.refl _ _) | with_reducible exact Off.drewN (Off.refl _ _) _)) (fun w F ha => M1.out p w F ha)).mono ?_; rintro e w3 ⟨rfl, h3⟩; have H3 := Lib.hid h3; have kq : w3.cell? ⟨wr.heap.size, 0, none⟩ = some (.int .i64 s) ∧ w3.cell? ⟨wr.heap.size, 1, none⟩ = some (.int .i64 r) ∧ w3.cell? ⟨wr.heap.size, 2, none⟩ = some (.int .i64 d) ∧ w3.cell? ⟨wr.heap.size, 3, none⟩ = some (.int .i64 f) ∧ w3.cell? ⟨wr.heap.size, 4, none⟩ = some (.int .i64 k) ∧ w3.cell? ⟨wr.heap.size, 5, none⟩ = some (.int .i64 n) := ⟨h3.cell 0, h3.cell 1, h3.cell 2, h3.cell 3, h3.cell 4, h3.cell 5⟩; clear h3)
          | (go_at_call 13; refine (Pair.second (H3.out.off (by first | with_reducible exact Off.refl _ _ | with_reducible exact Off.drew (Off.refl _ _) | with_reducible exact Off.drewN (Off.refl _ _) _)) (fun w F ha => M2.out q w F ha)).mono ?_; rintro e w4 ⟨rfl, h4⟩; have H4 := Lib.hid h4; have kr : w4.cell? ⟨wr.heap.size, 0, none⟩ = some (.int .i64 s) ∧ w4.cell? ⟨wr.heap.size, 1, none⟩ = some (.int .i64 r) ∧ w4.cell? ⟨wr.heap.size, 2, none⟩ = some (.int .i64 d) ∧ w4.cell? ⟨wr.heap.size, 3, none⟩ = some (.int .i64 f) ∧ w4.cell? ⟨wr.heap.size, 4, none⟩ = some (.int .i64 k) ∧ w4.cell? ⟨wr.heap.size, 5, none⟩ = some (.int .i64 n) := ⟨h4.cell 0, h4.cell 1, h4.cell 2, h4.cell 3, h4.cell 4, h4.cell 5⟩; clear h4)
          | (go_at_call 14; refine ((Pair.both (H4.out.off (by first | with_reducible exact Off.refl _ _ | with_reducible exact Off.drew (Off.refl _ _) | with_reducible exact Off.drewN (Off.refl _ _) _))).same).mono ?_; rintro e w5 ⟨rfl, o5⟩; have H5 := Lib.hid (H4.out.off (Off.also (by first | with_reducible exact Off.refl _ _ | with_reducible exact Off.drew (Off.refl _ _) | with_reducible exact Off.drewN (Off.refl _ _) _) o5)); have kt : w5.cell? ⟨wr.heap.size, 0, none⟩ = some (.int .i64 s) ∧ w5.cell? ⟨wr.heap.size, 1, none⟩ = some (.int .i64 r) ∧ w5.cell? ⟨wr.heap.size, 2, none⟩ = some (.int .i64 d) ∧ w5.cell? ⟨wr.heap.size, 3, none⟩ = some (.int .i64 f) ∧ w5.cell? ⟨wr.heap.size, 4, none⟩ = some (.int .i64 k) ∧ w5.cell? ⟨wr.heap.size, 5, none⟩ = some (.int .i64 n) := ⟨H5.out.cell 0, H5.out.cell 1, H5.out.cell 2, H5.out.cell 3, H5.out.cell 4, H5.out.cell 5⟩; clear o5))
      go_wp2_with fail
      go_roundw
      case rel => exact ⟨i + 1, by omega, by go_num, C2, E2, H5.out.both⟩
      case measure => simp [intOf]; omega
    · have HS := Lib.hid (Solo.off (Solo.new wr 37 #[.int .i64 0, .int .i64 6, .int .i64 8, .int .i64 9, .int .i64 1, .int .i64 1]) (Off.refl _ _))
      have HO := Lib.hid HR.out.old
      clear HR
      go_wp2_with fail
      have kS : (wr.alloc (.cells #[.int .i64 0, .int .i64 6, .int .i64 8, .int .i64 9, .int .i64 1, .int .i64 1] 37)).cell? ⟨wr.heap.size, 0, none⟩ = some (.int .i64 0) ∧ (wr.alloc (.cells #[.int .i64 0, .int .i64 6, .int .i64 8, .int .i64 9, .int .i64 1, .int .i64 1] 37)).cell? ⟨wr.heap.size, 1, none⟩ = some (.int .i64 6) ∧ (wr.alloc (.cells #[.int .i64 0, .int .i64 6, .int .i64 8, .int .i64 9, .int .i64 1, .int .i64 1] 37)).cell? ⟨wr.heap.size, 2, none⟩ = some (.int .i64 8) ∧ (wr.alloc (.cells #[.int .i64 0, .int .i64 6, .int .i64 8, .int .i64 9, .int .i64 1, .int .i64 1] 37)).cell? ⟨wr.heap.size, 3, none⟩ = some (.int .i64 9) ∧ (wr.alloc (.cells #[.int .i64 0, .int .i64 6, .int .i64 8, .int .i64 9, .int .i64 1, .int .i64 1] 37)).cell? ⟨wr.heap.size, 4, none⟩ = some (.int .i64 1) ∧ (wr.alloc (.cells #[.int .i64 0, .int .i64 6, .int .i64 8, .int .i64 9, .int .i64 1, .int .i64 1] 37)).cell? ⟨wr.heap.size, 5, none⟩ = some (.int .i64 1) := ⟨HS.out.2.cell 0, HS.out.2.cell 1, HS.out.2.cell 2, HS.out.2.cell 3, HS.out.2.cell 4, HS.out.2.cell 5⟩
      generalize hw : wr.alloc (.cells #[.int .i64 0, .int .i64 6, .int .i64 8, .int .i64 9, .int .i64 1, .int .i64 1] 37) = W at *
      go_region_held3 (fun w' => w'.cell? ⟨wr.heap.size, 0, none⟩ = some (.int .i64 0) ∧ w'.cell? ⟨wr.heap.size, 1, none⟩ = some (.int .i64 6) ∧ w'.cell? ⟨wr.heap.size, 2, none⟩ = some (.int .i64 8) ∧ w'.cell? ⟨wr.heap.size, 3, none⟩ = some (.int .i64 9) ∧ w'.cell? ⟨wr.heap.size, 4, none⟩ = some (.int .i64 1) ∧ w'.cell? ⟨wr.heap.size, 5, none⟩ = some (.int .i64 1))
        (first | with_reducible assumption | go_keep)
        (first
          | (go_at_call 12; refine (ccompact_nil _).mono ?_; rintro e w3 ⟨rfl, o3⟩; have H3 := Lib.hid (HS.out.off (Off.also (by first | with_reducible exact Off.refl _ _ | with_reducible exact Off.drew (Off.refl _ _) | with_reducible exact Off.drewN (Off.refl _ _) _) o3)); have kq : w3.cell? ⟨wr.heap.size, 0, none⟩ = some (.int .i64 0) ∧ w3.cell? ⟨wr.heap.size, 1, none⟩ = some (.int .i64 6) ∧ w3.cell? ⟨wr.heap.size, 2, none⟩ = some (.int .i64 8) ∧ w3.cell? ⟨wr.heap.size, 3, none⟩ = some (.int .i64 9) ∧ w3.cell? ⟨wr.heap.size, 4, none⟩ = some (.int .i64 1) ∧ w3.cell? ⟨wr.heap.size, 5, none⟩ = some (.int .i64 1) := ⟨H3.out.2.cell 0, H3.out.2.cell 1, H3.out.2.cell 2, H3.out.2.cell 3, H3.out.2.cell 4, H3.out.2.cell 5⟩; clear o3)
          | (go_at_call 13; refine (rccompact_nil _).mono ?_; rintro e w4 ⟨rfl, o4⟩; have H4 := Lib.hid (H3.out.off (Off.also (by first | with_reducible exact Off.refl _ _ | with_reducible exact Off.drew (Off.refl _ _) | with_reducible exact Off.drewN (Off.refl _ _) _) o4)); have kr : w4.cell? ⟨wr.heap.size, 0, none⟩ = some (.int .i64 0) ∧ w4.cell? ⟨wr.heap.size, 1, none⟩ = some (.int .i64 6) ∧ w4.cell? ⟨wr.heap.size, 2, none⟩ = some (.int .i64 8) ∧ w4.cell? ⟨wr.heap.size, 3, none⟩ = some (.int .i64 9) ∧ w4.cell? ⟨wr.heap.size, 4, none⟩ = some (.int .i64 1) ∧ w4.cell? ⟨wr.heap.size, 5, none⟩ = some (.int .i64 1) := ⟨H4.out.2.cell 0, H4.out.2.cell 1, H4.out.2.cell 2, H4.out.2.cell 3, H4.out.2.cell 4, H4.out.2.cell 5⟩; clear o4)
          | (go_at_call 5; refine (awake_ok _).mono ?_; rintro e w5 ⟨rfl, o5⟩; have H5 := Lib.hid (H4.out.off (Off.also (by first | with_reducible exact Off.refl _ _ | with_reducible exact Off.drew (Off.refl _ _) | with_reducible exact Off.drewN (Off.refl _ _) _) o5)); have kt : w5.cell? ⟨wr.heap.size, 0, none⟩ = some (.int .i64 0) ∧ w5.cell? ⟨wr.heap.size, 1, none⟩ = some (.int .i64 6) ∧ w5.cell? ⟨wr.heap.size, 2, none⟩ = some (.int .i64 8) ∧ w5.cell? ⟨wr.heap.size, 3, none⟩ = some (.int .i64 9) ∧ w5.cell? ⟨wr.heap.size, 4, none⟩ = some (.int .i64 1) ∧ w5.cell? ⟨wr.heap.size, 5, none⟩ = some (.int .i64 1) := ⟨H5.out.2.cell 0, H5.out.2.cell 1, H5.out.2.cell 2, H5.out.2.cell 3, H5.out.2.cell 4, H5.out.2.cell 5⟩; clear o5))
      go_wp2_with fail
      go_ret
      exact ⟨rfl, HO.out.also H5.out.1⟩
theorem cps_long0 {w : World} (A0 A : Option Addr) (n0 c0 n c : Nat) (h : 200 < n0) (b0 : n0 ≤ maxLen) (b1 : n ≤ maxLen) :
    Calls Tryz.prog 4 #[.slice A0 n0 c0, .slice A n c] w (BoolNew true w) := by
  unfold maxLen at b0 b1
  have hd0 : decide (200 < (n0 : Int)) = true := by simp; omega
  go_enter Tryz.func4, Tryz.ntmps4
  go_wp2_with fail
  refine (awake_ok _).mono ?_
  rintro e w4 ⟨rfl, h4⟩
  have H4 := Lib.hid h4
  clear h4
  go_wp2
  go_ret
  exact ⟨rfl, H4.out⟩
theorem cps_long1 {w : World} (A0 A : Option Addr) (n0 c0 n c : Nat) (h0 : ¬ 200 < n0) (h : 3 < n) (b0 : n0 ≤ maxLen) (b1 : n ≤ maxLen) :
    Calls Tryz.prog 4 #[.slice A0 n0 c0, .slice A n c] w (BoolNew true w) := by
  unfold maxLen at b0 b1
  have hd0 : decide (200 < (n0 : Int)) = false := by simp; omega
  have hd1 : decide (3 < (n : Int)) = true := by simp; omega
  go_enter Tryz.func4, Tryz.ntmps4
  go_wp2_with fail
  refine (awake_ok _).mono ?_
  rintro e w4 ⟨rfl, h4⟩
  have H4 := Lib.hid h4
  clear h4
  go_wp2
  go_ret
  exact ⟨rfl, H4.out⟩
theorem compactCalls_walk {w : World} {v0 v1 : Value} {n0 n1 : Nat} {C : List (BitVec 64)} {xs : List Value} (h0 : Rd w (Old w) 1 v0 n0 (u64s C)) (h1 : Rd w (Old w) 6 v1 n1 xs) (k1 : ∀ f j κ, j < n1 * 6 → kindAt Tryz.prog f 37 (j % 6) = some κ → ∃ u, xs[j]? = some u ∧ okV κ u) :
    Calls Tryz.prog 4 #[v0, v1] w (BoolNew true w) := by
  obtain ⟨A1, c1, rfl, m1, hc1⟩ := h1.form
  by_cases g0 : 200 < n0
  · obtain ⟨A0, c0, rfl, m0, _⟩ := h0.form
    exact cps_long0 _ _ _ _ _ _ g0 m0 m1
  by_cases g1 : 3 < n1
  · obtain ⟨A0, c0, rfl, m0, _⟩ := h0.form
    exact cps_long1 _ _ _ _ _ _ g0 g1 m0 m1
  refine cps_small n0 A1 n1 c1 C h0 (by omega) (by omega) (fun hp => ?_)
  obtain ⟨b, o, hA, hb, hx⟩ := hc1 hp
  refine ⟨b, o, hA, hb, fun i hi => ?_⟩
  obtain ⟨u0, e0, o0⟩ := k1 4 (i * 6) (some .i64) (by omega) (by rw [Nat.mul_mod_left]; kernel_rfl)
  obtain ⟨u1, e1, o1⟩ := k1 4 (i * 6 + 1) (some .i64) (by omega) (by rw [show (i * 6 + 1) % 6 = 1 by omega]; kernel_rfl)
  obtain ⟨u2, e2, o2⟩ := k1 4 (i * 6 + 2) (some .i64) (by omega) (by rw [show (i * 6 + 2) % 6 = 2 by omega]; kernel_rfl)
  obtain ⟨u3, e3, o3⟩ := k1 4 (i * 6 + 3) (some .i64) (by omega) (by rw [show (i * 6 + 3) % 6 = 3 by omega]; kernel_rfl)
  obtain ⟨u4, e4, o4⟩ := k1 4 (i * 6 + 4) (some .i64) (by omega) (by rw [show (i * 6 + 4) % 6 = 4 by omega]; kernel_rfl)
  obtain ⟨u5, e5, o5⟩ := k1 4 (i * 6 + 5) (some .i64) (by omega) (by rw [show (i * 6 + 5) % 6 = 5 by omega]; kernel_rfl)
  obtain ⟨x0, rfl, q0⟩ := okV_i64 o0
  obtain ⟨x1, rfl, q1⟩ := okV_i64 o1
  obtain ⟨x2, rfl, q2⟩ := okV_i64 o2
  obtain ⟨x3, rfl, q3⟩ := okV_i64 o3
  obtain ⟨x4, rfl, q4⟩ := okV_i64 o4
  obtain ⟨x5, rfl, q5⟩ := okV_i64 o5
  exact ⟨x0, x1, x2, x3, x4, x5, hx _ _ e0, hx _ _ e1, hx _ _ e2, hx _ _ e3, hx _ _ e4, hx _ _ e5⟩
end Go.Proofs.YtedbafgejladiaaGreat

