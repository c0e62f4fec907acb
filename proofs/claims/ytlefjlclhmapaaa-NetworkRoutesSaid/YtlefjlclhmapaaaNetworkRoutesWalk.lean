/-
  The walk of dragnetlaw24.NetworkRoutes.
-/
import Derived.Test.YtlefjlclhmapaaaRef24RtE
import Derived.Test.YtlefjlclhmapaaaAwake24
import Derived.Test.YtlefjlclhmapaaaOpen
import Derived.Deep.RegionHeld3
namespace Go.Proofs.Ytlefjlclhmapaaa
open Go.RowKit Go.ChangeShapes Go.WideShapes Go.ChangeAt
set_option linter.unusedVariables false
set_option maxRecDepth 100000
theorem Half.first {w0 w : World} {p r : Nat} {C C' C2 : List (BitVec 64)} {E E' E2 : List Ev} (h : Half w0 w p r C E C' E') {P : Program} {f : FuncId} {xs : Array Value} {e0 : Ending}
    (hc : ∀ w F, Ar w F p C E → Calls P f xs w fun e w' => e = e0 ∧ ArTo w F p C2 E2 w') : Calls P f xs w fun e w' => e = e0 ∧ Half w0 w' p r C2 E2 C' E' := by
  obtain ⟨F, ha, hk⟩ := Half.ar h
  exact (hc w F ha).mono fun e w' ⟨a, b⟩ => ⟨a, hk _ _ _ b⟩
theorem Half.second {w0 w : World} {p r : Nat} {C C' C2 : List (BitVec 64)} {E E' E2 : List Ev} (h : Half w0 w p r C E C' E') {P : Program} {f : FuncId} {xs : Array Value} {e0 : Ending}
    (hc : ∀ w F, Rf w F r C' E' → Calls P f xs w fun e w' => e = e0 ∧ RfTo w F r C2 E2 w') : Calls P f xs w fun e w' => e = e0 ∧ Half w0 w' p r C E C2 E2 := by
  obtain ⟨F, ha, hk⟩ := Half.rf h
  exact (hc w F ha).mono fun e w' ⟨a, b⟩ => ⟨a, hk _ _ _ b⟩
/-- A list of calls, cell by cell. -/
def RtsAt (w : World) (A : Option Addr) (k : Nat) : Prop := 0 < k → ∃ b o, A = some ⟨b, o, none⟩ ∧ b < w.heap.size ∧ ∀ i, i < k → ∃ (x0 x1 x2 : Int), (-9223372036854775808 ≤ x0 ∧ x0 ≤ 9223372036854775807) ∧ (-9223372036854775808 ≤ x2 ∧ x2 ≤ 9223372036854775807) ∧ w.cell? ⟨b, o + i * 3, none⟩ = some (.int .i64 x0) ∧ w.cell? ⟨b, o + i * 3 + 1, none⟩ = some (.int .i64 x1) ∧ w.cell? ⟨b, o + i * 3 + 2, none⟩ = some (.int .i64 x2)
set_option maxHeartbeats 8000000 in
theorem routes_small {w : World} {G : Nat → Prop} {v0 : Value} (n0 : Nat) (A : Option Addr) (k1 c : Nat) (C : List (BitVec 64)) (h0 : Rd w G 1 v0 n0 (u64s C)) (hn0 : n0 ≤ 200) (hk1 : k1 ≤ 4) (ha : RtsAt w A k1) :
    Calls Try.prog 7 #[v0, .slice A k1 c] w (BoolNew true w) := by
  have hl : C.length = n0 := by obtain ⟨_, _, _, _, hl, _⟩ := h0; rw [length_u64s] at hl; omega
  have HAR := Lib.hid (arena_any h0 (by omega))
  obtain ⟨A0, c0, rfl, _⟩ := h0
  have HA := Lib.hid ha
  have hd0 : decide (200 < (n0 : Int)) = false := by simp; omega
  have hd1 : decide (4 < (k1 : Int)) = false := by simp; omega
  clear ha hl
  go_enter Try.func7, Try.ntmps7
  go_wp2_with fail
  refine HAR.out.mono ?_
  rintro e w1 h1
  obtain ⟨p, r, rfl, hB⟩ := h1.both
  have H1 := Lib.hid hB
  clear h1 hB hd0 hd1
  go_wp2_with fail
  go_loopw [7] (fun i wr => ∃ j : Nat, j ≤ k1 ∧ i = .int .i64 j ∧ ∃ C E, Both w wr p r C E) (fun i _ => k1 - (intOf i).toNat)
  case atStart => exact ⟨0, Nat.zero_le _, rfl, _, _, H1.out⟩
  case round =>
    obtain ⟨i, hi1, rfl, C1, E1, hrel⟩ := hrel
    have HR : Hid (Half w wr p r C1 E1 C1 E1) := Lib.hid hrel
    clear hrel H1
    by_cases hlt : i < k1
    · obtain ⟨b, o, hA, hb, hcell⟩ := HA.out (by omega)
      subst hA
      obtain ⟨x0, x1, x2, bd0, bd2, c1, c2, c3⟩ := hcell i hlt
      have hold := HR.out.old
      rw [← hold.cell_old hb] at c1 c2 c3
      have kS : wr.cell? ⟨b, o + i * 3, none⟩ = some (.int .i64 x0) ∧ wr.cell? ⟨b, o + i * 3 + 1, none⟩ = some (.int .i64 x1) ∧ wr.cell? ⟨b, o + i * 3 + 2, none⟩ = some (.int .i64 x2) := ⟨c1, c2, c3⟩
      have HOC := Lib.hid (fun (w2 : World) (h : Off Nob w w2) => (⟨(h.cell_old hb _).trans ((hold.cell_old hb _).symm.trans c1), (h.cell_old hb _).trans ((hold.cell_old hb _).symm.trans c2), (h.cell_old hb _).trans ((hold.cell_old hb _).symm.trans c3)⟩ : w2.cell? ⟨b, o + i * 3, none⟩ = some (.int .i64 x0) ∧ w2.cell? ⟨b, o + i * 3 + 1, none⟩ = some (.int .i64 x1) ∧ w2.cell? ⟨b, o + i * 3 + 2, none⟩ = some (.int .i64 x2)))
      obtain ⟨c', hc'⟩ : ∃ c', rtE C1.length E1.length x0 x1 x2 = c' := ⟨_, rfl⟩
      obtain ⟨C2, E2, hs'⟩ : ∃ C2 E2, rtR C1 E1 x0 x1 x2 = (C2, E2) := ⟨_, _, rfl⟩
      have HC' := Lib.hid hc'
      have HS' := Lib.hid hs'
      have HB0 := Lib.hid bd0
      have HB2 := Lib.hid bd2
      clear hold hcell c1 c2 c3 hc' hs' bd0 bd2
      go_wp2_with fail
      go_region_held3 (fun w' => w'.cell? ⟨b, o + i * 3, none⟩ = some (.int .i64 x0) ∧ w'.cell? ⟨b, o + i * 3 + 1, none⟩ = some (.int .i64 x1) ∧ w'.cell? ⟨b, o + i * 3 + 2, none⟩ = some (.int .i64 x2))
        (first | with_reducible assumption | go_keep)
        (first
          | (go_at_call 25; refine (Half.first (HR.out.off (by first | with_reducible exact Off.refl _ _ | with_reducible exact Off.drew (Off.refl _ _) | with_reducible exact Off.drewN (Off.refl _ _) _)) (fun w F ha => by have := nroute_any (n := x1) ha x0 x2 HB0.out HB2.out; rw [HC'.out, HS'.out] at this; exact this)).mono ?_; rintro e w2 ⟨rfl, h2⟩; have H2 := Lib.hid h2; have k2 := HOC.out w2 h2.old; clear h2)
          | (go_at_call 26; refine (Half.second (H2.out.off (by first | with_reducible exact Off.refl _ _ | with_reducible exact Off.drew (Off.refl _ _) | with_reducible exact Off.drewN (Off.refl _ _) _)) (fun w F ha => by have := rroute_any (n := x1) ha x0 x2 HB0.out HB2.out; rw [HC'.out, HS'.out] at this; exact this)).mono ?_; rintro e w3 ⟨rfl, h3⟩; have H3 := Lib.hid h3; have k3 := HOC.out w3 h3.old; clear h3)
          | (go_at_call 33; refine ((show Both _ _ _ _ _ _ from H3.out.off (by first | with_reducible exact Off.refl _ _ | with_reducible exact Off.drew (Off.refl _ _) | with_reducible exact Off.drewN (Off.refl _ _) _)).same).mono ?_; rintro e w4 ⟨rfl, o4⟩; have H4 := Lib.hid (H3.out.off (Off.also (by first | with_reducible exact Off.refl _ _ | with_reducible exact Off.drew (Off.refl _ _) | with_reducible exact Off.drewN (Off.refl _ _) _) o4)); have k4 := HOC.out w4 H4.out.old; clear o4))
      go_wp2_with fail
      go_roundw
      case rel => exact ⟨i + 1, by omega, by go_num, C2, E2, H4.out⟩
      case measure => simp [intOf]; omega
    · go_wp2_with fail
      refine (nroute_nil _).mono ?_
      rintro e w4 ⟨rfl, o4⟩
      have H4 := Lib.hid (HR.out.old.also o4)
      clear o4
      go_wp2_with fail
      refine (rroute_nil _).mono ?_
      rintro e w5 ⟨rfl, o5⟩
      have H5 := Lib.hid (H4.out.also o5)
      clear o5
      go_wp2_with fail
      refine (awake_ok _).mono ?_
      rintro e w6 ⟨rfl, o6⟩
      have H6 := Lib.hid (H5.out.also o6)
      clear o6
      go_wp2
      go_ret
      exact ⟨rfl, H6.out⟩
theorem routes_long0 {w : World} (A0 A : Option Addr) (n0 c0 n c : Nat) (h : 200 < n0) (b0 : n0 ≤ maxLen) (b1 : n ≤ maxLen) :
    Calls Try.prog 7 #[.slice A0 n0 c0, .slice A n c] w (BoolNew true w) := by
  unfold maxLen at b0 b1
  have hd0 : decide (200 < (n0 : Int)) = true := by simp; omega
  go_enter Try.func7, Try.ntmps7
  go_wp2_with fail
  refine (awake_ok _).mono ?_
  rintro e w4 ⟨rfl, h4⟩
  have H4 := Lib.hid h4
  clear h4
  go_wp2
  go_ret
  exact ⟨rfl, H4.out⟩
theorem routes_long1 {w : World} (A0 A : Option Addr) (n0 c0 n c : Nat) (h0 : ¬ 200 < n0) (h : 4 < n) (b0 : n0 ≤ maxLen) (b1 : n ≤ maxLen) :
    Calls Try.prog 7 #[.slice A0 n0 c0, .slice A n c] w (BoolNew true w) := by
  unfold maxLen at b0 b1
  have hd0 : decide (200 < (n0 : Int)) = false := by simp; omega
  have hd1 : decide (4 < (n : Int)) = true := by simp; omega
  go_enter Try.func7, Try.ntmps7
  go_wp2_with fail
  refine (awake_ok _).mono ?_
  rintro e w4 ⟨rfl, h4⟩
  have H4 := Lib.hid h4
  clear h4
  go_wp2
  go_ret
  exact ⟨rfl, H4.out⟩
theorem networkRoutes_walk {w : World} {v0 v1 : Value} {n0 n1 : Nat} {C : List (BitVec 64)} {xs : List Value} (h0 : Rd w (Old w) 1 v0 n0 (u64s C)) (h1 : Rd w (Old w) 3 v1 n1 xs) (k1 : ∀ f j κ, j < n1 * 3 → kindAt Try.prog f 67 (j % 3) = some κ → ∃ u, xs[j]? = some u ∧ okV κ u) :
    Calls Try.prog 7 #[v0, v1] w (BoolNew true w) := by
  obtain ⟨A1, c1, rfl, m1, hc1⟩ := h1.form
  by_cases g0 : 200 < n0
  · obtain ⟨A0, c0, rfl, m0, _⟩ := h0.form
    exact routes_long0 _ _ _ _ _ _ g0 m0 m1
  by_cases g1 : 4 < n1
  · obtain ⟨A0, c0, rfl, m0, _⟩ := h0.form
    exact routes_long1 _ _ _ _ _ _ g0 g1 m0 m1
  refine routes_small n0 A1 n1 c1 C h0 (by omega) (by omega) (fun hp => ?_)
  obtain ⟨b, o, hA, hb, hx⟩ := hc1 hp
  refine ⟨b, o, hA, hb, fun i hi => ?_⟩
  obtain ⟨u0, e0, o0⟩ := k1 3 (i * 3) (some .i64) (by omega) (by rw [Nat.mul_mod_left]; kernel_rfl)
  obtain ⟨u1, e1, o1⟩ := k1 3 (i * 3 + 1) (some .i64) (by omega) (by rw [show (i * 3 + 1) % 3 = 1 by omega]; kernel_rfl)
  obtain ⟨u2, e2, o2⟩ := k1 3 (i * 3 + 2) (some .i64) (by omega) (by rw [show (i * 3 + 2) % 3 = 2 by omega]; kernel_rfl)
  obtain ⟨x0, rfl, q0⟩ := okV_i64 o0
  obtain ⟨x1, rfl, q1⟩ := okV_i64 o1
  obtain ⟨x2, rfl, q2⟩ := okV_i64 o2
  exact ⟨x0, x1, x2, q0, q2, hx _ _ e0, hx _ _ e1, hx _ _ e2⟩
end Go.Proofs.Ytlefjlclhmapaaa
