/-
  The walk of dragnetlaw22.SlotsCalls.
-/
import Derived.Test.YtonkhgmfeakbcaaDo22N
import Derived.Test.YtonkhgmfeakbcaaAwake22
import Derived.Test.YtonkhgmfeakbcaaOpen
namespace Go.Proofs.Ytonkhgmfeakbcaa
open Go.RowKit Go.ChangeShapes Go.WideShapes Go.ChangeAt
attribute [local go_sem] bits_and_u64 bits_or_u64 bits_xor_u64 bits_andNot_u64 wrap_u64 bv_add bv_neg bv_sub bv_mul
set_option linter.unusedVariables false
set_option maxRecDepth 100000
/-- A list of calls, cell by cell. -/
def CallsAt (w : World) (A : Option Addr) (k : Nat) : Prop := 0 < k → ∃ b o, A = some ⟨b, o, none⟩ ∧ b < w.heap.size ∧ ∀ i, i < k → ∃ (x0 : Int) (x1 : Int) (x2 : Int) (x3 : Int) (x4 : BitVec 64) (x5 : BitVec 64), (-9223372036854775808 ≤ x2 ∧ x2 ≤ 9223372036854775807) ∧ w.cell? ⟨b, o + i * 6, none⟩ = some (.int .i64 x0) ∧ w.cell? ⟨b, o + i * 6 + 1, none⟩ = some (.int .i64 x1) ∧ w.cell? ⟨b, o + i * 6 + 2, none⟩ = some (.int .i64 x2) ∧ w.cell? ⟨b, o + i * 6 + 3, none⟩ = some (.int .i64 x3) ∧ w.cell? ⟨b, o + i * 6 + 4, none⟩ = some (.int .u64 (n64 x4)) ∧ w.cell? ⟨b, o + i * 6 + 5, none⟩ = some (.int .u64 (n64 x5))
def U8sAt (w : World) (A : Option Addr) (n : Nat) : Prop := 0 < n → ∃ b o, A = some ⟨b, o, none⟩ ∧ b < w.heap.size ∧ ∀ i, i < n → ∃ z : Int, 0 ≤ z ∧ z ≤ 255 ∧ w.cell? ⟨b, o + i, none⟩ = some (.int .u8 z)
set_option maxHeartbeats 8000000 in
theorem calls_small {w : World} {G : Nat → Prop} {v0 : Value} (n0 : Nat) (A B : Option Addr) (k1 c k2 d : Nat) (C : List (BitVec 64)) (h0 : Rd w G 1 v0 n0 (u64s C)) (hn0 : n0 ≤ 200) (hk1 : k1 ≤ 12) (hk2 : k2 ≤ 12) (ha : CallsAt w A k1) (hb : U8sAt w B k2) :
    Calls Try.prog 8 #[v0, .slice A k1 c, .slice B k2 d] w (BoolNew true w) := by
  have hl : C.length = n0 := by obtain ⟨_, _, _, _, hl, _⟩ := h0; rw [length_u64s] at hl; omega
  have HAR := Lib.hid (arena_any h0 (by omega))
  obtain ⟨A0, c0, rfl, _⟩ := h0
  have HA := Lib.hid ha
  have HB := Lib.hid hb
  have hd0 : decide (200 < (n0 : Int)) = false := by simp; omega
  have hd1 : decide (12 < (k1 : Int)) = false := by simp; omega
  have hd2 : decide (12 < (k2 : Int)) = false := by simp; omega
  clear ha hb hl
  go_enter Try.func8, Try.ntmps8
  go_wp2_with fail
  refine HAR.out.mono ?_
  rintro e w1 h1
  obtain ⟨p, r, rfl, hB⟩ := h1.both
  have H1 := Lib.hid hB
  clear h1 hB hd0 hd1 hd2
  go_wp2_with fail
  go_loopw [9] (fun i wr => ∃ j : Nat, j ≤ k1 ∧ j ≤ k2 ∧ i = .int .i64 j ∧ ∃ C E, Both w wr p r C E) (fun i _ => k1 - (intOf i).toNat)
  case atStart => exact ⟨0, Nat.zero_le _, Nat.zero_le _, rfl, _, _, H1.out⟩
  case round =>
    obtain ⟨i, hi1, hi2, rfl, C1, E1, hrel⟩ := hrel
    have HR := Lib.hid hrel
    clear hrel H1
    by_cases hlt : i < k1 ∧ i < k2
    · obtain ⟨g1, g2⟩ := hlt
      obtain ⟨b, o, hA, hb, hcell⟩ := HA.out (by omega)
      subst hA
      obtain ⟨x0, x1, x2, x3, x4, x5, bx2, c0, c1, c2, c3, c4, c5⟩ := hcell i g1
      obtain ⟨b2, o2, hB, hb2, hcell2⟩ := HB.out (by omega)
      subst hB
      obtain ⟨q, q0, q1, cq⟩ := hcell2 i g2
      have hold := HR.out.old
      rw [← hold.cell_old hb] at c0 c1 c2 c3 c4 c5
      rw [← hold.cell_old hb2] at cq
      have kS : wr.cell? ⟨b, o + i * 6, none⟩ = some (.int .i64 x0) ∧ wr.cell? ⟨b, o + i * 6 + 1, none⟩ = some (.int .i64 x1) ∧ wr.cell? ⟨b, o + i * 6 + 2, none⟩ = some (.int .i64 x2) ∧ wr.cell? ⟨b, o + i * 6 + 3, none⟩ = some (.int .i64 x3) ∧ wr.cell? ⟨b, o + i * 6 + 4, none⟩ = some (.int .u64 (n64 x4)) ∧ wr.cell? ⟨b, o + i * 6 + 5, none⟩ = some (.int .u64 (n64 x5)) ∧ wr.cell? ⟨b2, o2 + i, none⟩ = some (.int .u8 q) := ⟨c0, c1, c2, c3, c4, c5, cq⟩
      have HOC := Lib.hid (fun (w2 : World) (h : Off Nob w w2) => (⟨(h.cell_old hb _).trans ((hold.cell_old hb _).symm.trans c0), (h.cell_old hb _).trans ((hold.cell_old hb _).symm.trans c1), (h.cell_old hb _).trans ((hold.cell_old hb _).symm.trans c2), (h.cell_old hb _).trans ((hold.cell_old hb _).symm.trans c3), (h.cell_old hb _).trans ((hold.cell_old hb _).symm.trans c4), (h.cell_old hb _).trans ((hold.cell_old hb _).symm.trans c5), (h.cell_old hb2 _).trans ((hold.cell_old hb2 _).symm.trans cq)⟩ : w2.cell? ⟨b, o + i * 6, none⟩ = some (.int .i64 x0) ∧ w2.cell? ⟨b, o + i * 6 + 1, none⟩ = some (.int .i64 x1) ∧ w2.cell? ⟨b, o + i * 6 + 2, none⟩ = some (.int .i64 x2) ∧ w2.cell? ⟨b, o + i * 6 + 3, none⟩ = some (.int .i64 x3) ∧ w2.cell? ⟨b, o + i * 6 + 4, none⟩ = some (.int .u64 (n64 x4)) ∧ w2.cell? ⟨b, o + i * 6 + 5, none⟩ = some (.int .u64 (n64 x5)) ∧ w2.cell? ⟨b2, o2 + i, none⟩ = some (.int .u8 q)))
      clear hold hcell hcell2 c0 c1 c2 c3 c4 c5 cq
      go_wp2_with fail
      go_region_held3 (fun w' => w'.cell? ⟨b, o + i * 6, none⟩ = some (.int .i64 x0) ∧ w'.cell? ⟨b, o + i * 6 + 1, none⟩ = some (.int .i64 x1) ∧ w'.cell? ⟨b, o + i * 6 + 2, none⟩ = some (.int .i64 x2) ∧ w'.cell? ⟨b, o + i * 6 + 3, none⟩ = some (.int .i64 x3) ∧ w'.cell? ⟨b, o + i * 6 + 4, none⟩ = some (.int .u64 (n64 x4)) ∧ w'.cell? ⟨b, o + i * 6 + 5, none⟩ = some (.int .u64 (n64 x5)) ∧ w'.cell? ⟨b2, o2 + i, none⟩ = some (.int .u8 q))
        (first | with_reducible assumption | go_keep)
        (first
          | (go_at_call 33; refine (do_any (HR.out.off (by first | with_reducible exact Off.refl _ _ | with_reducible exact Off.drew (Off.refl _ _) | with_reducible exact Off.drewN (Off.refl _ _) _)) q q0 q1 x0 x1 x2 x3 x4 x5 bx2).mono ?_; rintro e w2 ⟨rfl, C2, E2, h2⟩; have H2 := Lib.hid h2; have k2 := HOC.out w2 h2.old; clear h2)
          | (go_at_call 34; refine ((H2.out.off (by first | with_reducible exact Off.refl _ _ | with_reducible exact Off.drew (Off.refl _ _) | with_reducible exact Off.drewN (Off.refl _ _) _)).same).mono ?_; rintro e w3 ⟨rfl, o3⟩; have H3 := Lib.hid (H2.out.off (Off.also (by first | with_reducible exact Off.refl _ _ | with_reducible exact Off.drew (Off.refl _ _) | with_reducible exact Off.drewN (Off.refl _ _) _) o3)); have k3 := HOC.out w3 H3.out.old; clear o3))
      go_wp2_with fail
      go_roundw
      case rel => exact ⟨i + 1, by omega, by omega, by go_num, C2, E2, H3.out⟩
      case measure => simp [intOf]; omega
    · have hx : ¬ i < k1 ∨ (i < k1 ∧ ¬ i < k2) := by omega
      clear hlt
      rcases hx with hx | ⟨hx, hy⟩
      all_goals
        go_wp2_with fail
        go_loopw [10] (fun i wr => ∃ k : Nat, k ≤ 4 ∧ i = .int .i64 k ∧ Off Nob w wr) (fun i _ => 4 - (intOf i).toNat)
        case atStart => exact ⟨0, Nat.zero_le _, rfl, HR.out.old⟩
        case round =>
          obtain ⟨j, hj, rfl, hrel⟩ := hrel
          have HO := Lib.hid hrel
          clear hrel
          by_cases hlt : j < 4
          · go_wp2_with fail
            refine (doNil _ j hlt).mono ?_
            rintro e w4 ⟨rfl, o4⟩
            have H4 := Lib.hid (HO.out.also o4)
            clear o4
            go_wp2_with fail
            go_roundw
            case rel => exact ⟨j + 1, by omega, by go_num, H4.out⟩
            case measure => simp [intOf]; omega
          · go_wp2_with fail
            refine (awake_ok _).mono ?_
            rintro e w5 ⟨rfl, o5⟩
            have H5 := Lib.hid (HO.out.also o5)
            clear o5
            go_wp2
            go_ret
            exact ⟨rfl, H5.out⟩
theorem calls_long0 {w : World} (A0 A B : Option Addr) (n0 c0 n c m d : Nat) (h : 200 < n0) (b0 : n0 ≤ maxLen) (b1 : n ≤ maxLen) (b2 : m ≤ maxLen) :
    Calls Try.prog 8 #[.slice A0 n0 c0, .slice A n c, .slice B m d] w (BoolNew true w) := by
  unfold maxLen at b0 b1 b2
  have hd0 : decide (200 < (n0 : Int)) = true := by simp; omega
  go_enter Try.func8, Try.ntmps8
  go_wp2_with fail
  refine (awake_ok _).mono ?_
  rintro e w4 ⟨rfl, h4⟩
  have H4 := Lib.hid h4
  clear h4
  go_wp2
  go_ret
  exact ⟨rfl, H4.out⟩
theorem calls_long1 {w : World} (A0 A B : Option Addr) (n0 c0 n c m d : Nat) (h0 : ¬ 200 < n0) (h : 12 < n) (b0 : n0 ≤ maxLen) (b1 : n ≤ maxLen) (b2 : m ≤ maxLen) :
    Calls Try.prog 8 #[.slice A0 n0 c0, .slice A n c, .slice B m d] w (BoolNew true w) := by
  unfold maxLen at b0 b1 b2
  have hd0 : decide (200 < (n0 : Int)) = false := by simp; omega
  have hd1 : decide (12 < (n : Int)) = true := by simp; omega
  go_enter Try.func8, Try.ntmps8
  go_wp2_with fail
  refine (awake_ok _).mono ?_
  rintro e w4 ⟨rfl, h4⟩
  have H4 := Lib.hid h4
  clear h4
  go_wp2
  go_ret
  exact ⟨rfl, H4.out⟩
theorem calls_long2 {w : World} (A0 A B : Option Addr) (n0 c0 n c m d : Nat) (h0 : ¬ 200 < n0) (h1 : ¬ 12 < n) (h : 12 < m) (b0 : n0 ≤ maxLen) (b1 : n ≤ maxLen) (b2 : m ≤ maxLen) :
    Calls Try.prog 8 #[.slice A0 n0 c0, .slice A n c, .slice B m d] w (BoolNew true w) := by
  unfold maxLen at b0 b1 b2
  have hd0 : decide (200 < (n0 : Int)) = false := by simp; omega
  have hd1 : decide (12 < (n : Int)) = false := by simp; omega
  have hd2 : decide (12 < (m : Int)) = true := by simp; omega
  go_enter Try.func8, Try.ntmps8
  go_wp2_with fail
  refine (awake_ok _).mono ?_
  rintro e w4 ⟨rfl, h4⟩
  have H4 := Lib.hid h4
  clear h4
  go_wp2
  go_ret
  exact ⟨rfl, H4.out⟩
theorem slotsCalls_walk {w : World} {v0 v1 v2 : Value} {n0 n1 n2 : Nat} {C : List (BitVec 64)} {xs : List Value} {zs : List Int} (h0 : Rd w (Old w) 1 v0 n0 (u64s C)) (h1 : Rd w (Old w) 6 v1 n1 xs) (k1 : ∀ f j κ, j < n1 * 6 → kindAt Try.prog f 59 (j % 6) = some κ → ∃ u, xs[j]? = some u ∧ okV κ u)
    (h2 : Rd w (Old w) 1 v2 n2 (zs.map (Value.int .u8))) (k2 : ∀ z ∈ zs, (Lit.int .u8 z).wf = true) :
    Calls Try.prog 8 #[v0, v1, v2] w (BoolNew true w) := by
  have hzl : zs.length = n2 := by obtain ⟨_, _, _, _, hl, _⟩ := h2; rw [List.length_map] at hl; omega
  obtain ⟨A1, c1, rfl, m1, hc1⟩ := h1.form
  obtain ⟨A2, c2, rfl, m2, hc2⟩ := h2.form
  by_cases g0 : 200 < n0
  · obtain ⟨A0, c0, rfl, m0, _⟩ := h0.form
    exact calls_long0 _ _ _ _ _ _ _ _ _ g0 m0 m1 m2
  by_cases g1 : 12 < n1
  · obtain ⟨A0, c0, rfl, m0, _⟩ := h0.form
    exact calls_long1 _ _ _ _ _ _ _ _ _ g0 g1 m0 m1 m2
  by_cases g2 : 12 < n2
  · obtain ⟨A0, c0, rfl, m0, _⟩ := h0.form
    exact calls_long2 _ _ _ _ _ _ _ _ _ g0 g1 g2 m0 m1 m2
  refine calls_small n0 A1 A2 n1 c1 n2 c2 C h0 (by omega) (by omega) (by omega) (fun hp => ?_) (fun hp => ?_)
  · obtain ⟨b, o, hA, hb, hx⟩ := hc1 hp
    refine ⟨b, o, hA, hb, fun i hi => ?_⟩
    obtain ⟨u0, e0, o0⟩ := k1 3 (i * 6) (some .i64) (by omega) (by rw [Nat.mul_mod_left]; kernel_rfl)
    obtain ⟨u1, e1, o1⟩ := k1 3 (i * 6 + 1) (some .i64) (by omega) (by rw [show (i * 6 + 1) % 6 = 1 by omega]; kernel_rfl)
    obtain ⟨u2, e2, o2⟩ := k1 3 (i * 6 + 2) (some .i64) (by omega) (by rw [show (i * 6 + 2) % 6 = 2 by omega]; kernel_rfl)
    obtain ⟨u3, e3, o3⟩ := k1 3 (i * 6 + 3) (some .i64) (by omega) (by rw [show (i * 6 + 3) % 6 = 3 by omega]; kernel_rfl)
    obtain ⟨u4, e4, o4⟩ := k1 3 (i * 6 + 4) (some .u64) (by omega) (by rw [show (i * 6 + 4) % 6 = 4 by omega]; kernel_rfl)
    obtain ⟨u5, e5, o5⟩ := k1 3 (i * 6 + 5) (some .u64) (by omega) (by rw [show (i * 6 + 5) % 6 = 5 by omega]; kernel_rfl)
    obtain ⟨x0, rfl, _⟩ := okV_i64 o0
    obtain ⟨x1, rfl, _⟩ := okV_i64 o1
    obtain ⟨x2, rfl, p2⟩ := okV_i64 o2
    obtain ⟨x3, rfl, _⟩ := okV_i64 o3
    obtain ⟨x4, rfl⟩ := okV_u64 o4
    obtain ⟨x5, rfl⟩ := okV_u64 o5
    exact ⟨x0, x1, x2, x3, x4, x5, p2, hx _ _ e0, hx _ _ e1, hx _ _ e2, hx _ _ e3, hx _ _ e4, hx _ _ e5⟩
  · obtain ⟨b, o, hA, hb, hx⟩ := hc2 hp
    refine ⟨b, o, hA, hb, fun i hi => ?_⟩
    have hi2 : i < zs.length := by omega
    have := bounds_u8 (k2 _ (List.getElem_mem hi2))
    exact ⟨zs[i], this.1, this.2, hx i _ (by simp [hi2])⟩
end Go.Proofs.Ytonkhgmfeakbcaa
