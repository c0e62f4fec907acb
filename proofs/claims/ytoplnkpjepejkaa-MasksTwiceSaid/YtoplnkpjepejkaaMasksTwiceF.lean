/-
  The walk of dragnetlaw07.MasksTwice, where the rows are exchanged.
-/
import Derived.Test.YtoplnkpjepejkaaMasksBoth
import Derived.Test.YtoplnkpjepejkaaMaskPlain
import Derived.Deep.RegionHeld3
import Derived.BigQuiet
import Derived.Deep.QuietTactic
import Derived.IntWalk
namespace Go.Proofs.Ytoplnkpjepejkaa
open Go.RowKit
set_option maxRecDepth 100000
set_option maxHeartbeats 4000000
theorem twice_ok_false {w : World} (A : Option Addr) (nn c : Nat) (C : List (BitVec 64)) (M : BitVec 64) (x y n : Nat) (hn : nn ≤ 200) (hl : C.length = nn) (hr : Rd w (Old w) 1 (.slice A nn c) nn (u64s C)) (hM : ofM M = msk false)
    (hz : rwE (pad C).length (stores C.length).length (msk false) x y n 4 = 0) :
    Calls Try.prog 5 #[.slice A nn c, .agg #[.int .u64 (n64 M), .int .i64 x, .int .i64 y, .int .i64 n]] w (BoolNew true w) := by
  have HR := Lib.hid hr
  have HL := Lib.hid hl
  have HM := Lib.hid hM
  have HZ := Lib.hid hz
  skip
  clear hr hl hM hz
  have hd : decide (200 < (nn : Int)) = false := by simp; omega
  have HB := Lib.hid (BoxAt.new w 31 M x y n)
  have HO := Lib.hid (Off.alloc (Off.refl Nob w) (.cells #[.int .u64 (n64 M), .int .i64 x, .int .i64 y, .int .i64 n] 31))
  go_enter Try.func5, Try.ntmps5
  go_wp2_with fail
  refine (arena_any (HR.out.keep HO.out (fun _ _ h => h)) (by have := HL.out; omega)).mono ?_
  rintro e w1 h1
  obtain ⟨p, r, rfl, F, h1, o1, f1⟩ := h1.have_
  have H1 := Lib.hid h1
  have HF := Lib.hid f1
  have HB1 := Lib.hid (HB.out.off o1)
  have HW := Lib.hid o1
  clear h1 HR o1 f1
  go_wp2_with fail
  refine (cells_of H1.out).mono ?_
  rintro e w2 ⟨v1, rfl, o2, hv1⟩
  have H2 := Lib.hid (H1.out.keep o2 (fun _ _ h => h))
  have HB2 := Lib.hid (HB1.out.off o2)
  have HW2 := Lib.hid (HW.out.also o2)
  have HV1 := Lib.hid hv1
  have HD1 := Lib.hid (show ∀ k, (w1.heap.size ≤ k ∧ k < w2.heap.size) → ¬ F k from fun k hk hf => by have := H1.out.lt k hf; omega)
  clear hv1 o2 HB1 HW H1
  obtain ⟨⟨b0, b1⟩, ⟨b2, b3⟩, b4⟩ := HB2.out
  go_wp2_with fail
  refine Calls.mono (R := fun e w' => e = .returned (.int .u64 0) ∧ w2 = w') (by have := rof_any M w2; rwa [HM.out] at this) ?_
  rintro e w' ⟨rfl, rfl⟩
  have HS := Lib.hid (swapRows_any H2.out (msk false) x y n)
  go_wp2_with fail
  refine Calls.mono (R := fun e w' => e = .returned (.int .i64 0) ∧ ArTo w2 F p (rep (swF (msk false) x y) (pad C, stores C.length) n).1 (rep (swF (msk false) x y) (pad C, stores C.length) n).2 w') (by
    have := HS.out
    unfold rwR at this
    rwa [if_pos HZ.out] at this) ?_
  rintro e w3 ⟨rfl, h3⟩
  obtain ⟨_, g1, g2, _, g3, _, g4, g5, g6⟩ := rwE_zero HZ.out
  have hn1 : 1 ≤ n := by omega
  have hxn : x + n ≤ (pad C).length := by omega
  have hyn : y + n ≤ (pad C).length := by omega
  have hap : x + n ≤ y ∨ y + n ≤ x := by omega
  have hpl : (pad C).length ≤ 200 := by rw [pad_length, HL.out]; omega
  have HQL := Lib.hid (rep_sw_len (msk false) x y (pad C, stores C.length) n).1
  have HQ := Lib.hid (cl_swap (pad C) (stores C.length) false x y n hxn hyn hap n (Nat.le_refl _))
  have HQE := Lib.hid (rep_sw_len (msk false) x y (pad C, stores C.length) n).2
  have HTW := Lib.hid (fun E' => swap_twice (pad C) (stores C.length) E' false x y n hxn hyn hap)
  have H3 := Lib.hid h3.1
  have HG3 := Lib.hid (show ∀ k, (w1.heap.size ≤ k ∧ k < w2.heap.size) → ¬ Grow F w2 w3 k from Grow.apart HD1.out (fun k hk => hk.2))
  have HF3 := Lib.hid (Grow.from_ (w' := w3) HF.out HW2.out.size)
  have HW3 := Lib.hid (HW2.out.own h3.2 HF.out)
  have HV3 := Lib.hid (HV1.out.keep h3.2 HD1.out)
  clear b0 b1 b2 b3 b4 h3 HS H2 HV1 HB2 HW2 g1 g2 g3 g4 g5 g6 HD1
  generalize rep (swF (msk false) x y) (pad C, stores C.length) n = QE at *
  go_wp2_with fail
  refine (cells_of H3.out).mono ?_
  rintro e w4 ⟨v2, rfl, o4, hv2⟩
  have H4 := Lib.hid (H3.out.keep o4 (fun _ _ h => h))
  have HW4 := Lib.hid (HW3.out.also o4)
  have HV4 := Lib.hid (HV3.out.keep o4 (fun _ _ h => h))
  have hv1 := HV4.out
  have hv2' := hv2
  obtain ⟨A1, c1, rfl, _, _, hc1⟩ := hv1
  obtain ⟨A2, c2, rfl, _, _, hc2⟩ := hv2'
  obtain ⟨g1, o1, rfl, _, _, hc1⟩ := hc1 (by omega)
  obtain ⟨g2, o2, rfl, _, _, hc2⟩ := hc2 (by have := HQL.out; omega)
  have HC1 := Lib.hid hc1
  have HC2 := Lib.hid hc2
  have hql : QE.1.length = (pad C).length := HQL.out
  rw [hql]
  clear hv2 o4 H3 HW3 HV3 hc1 hc2 hql
  go_wp2_with fail
  go_loopw [11] (fun i wr => ∃ k : Nat, k ≤ (pad C).length ∧ i = .int .i64 k ∧ Off Nob w4 wr ∧ ∀ ad, wr.cell? ad = w4.cell? ad) (fun i _ => (pad C).length - (intOf i).toNat)
  case atStart => exact ⟨0, Nat.zero_le _, rfl, Off.refl _ _, fun _ => rfl⟩
  case round =>
    obtain ⟨k, hk, rfl, ho, hcl⟩ := hrel
    have HWR := Lib.hid ho
    have HCL := Lib.hid hcl
    obtain ⟨⟨b0, b1⟩, ⟨b2, b3⟩, _⟩ := (HB.out.off HW4.out).off ho
    by_cases hlt : k < (pad C).length
    · skip
      have hfn : k < (pad C).length := hlt
      have hcA : wr.cell? ⟨g2, o2 + k, none⟩ = some (.int .u64 (n64 (cl (pad C) (k)))) := by
        rw [hcl]
        have h9 := HC2.out k _ (getElem_u64s _ k (by have := HQL.out; omega))
        rw [h9, HQ.out k, if_neg (by decide)]
      have hcB : wr.cell? ⟨g1, o1 + (k), none⟩ = some (.int .u64 (n64 (cl (pad C) (k)))) := by
        rw [hcl]
        exact HC1.out _ _ (getElem_u64s _ _ hfn)
      have hd3 : decide ((pad C).length ≤ k) = false := by simp; omega
      have hd2 : decide (((pad C).length : Int) ≤ (k : Int)) = false := by simp; omega
      revert hcA hcB
      generalize cl (pad C) k = z
      intro hcA hcB
      clear hcl ho
      go_wp2_with fail
      go_quiet (fail)
      go_wp2_with fail
      go_roundw
      case rel => exact ⟨k + 1, by omega, by go_num, HWR.out.drewN _, fun ad => HCL.out ad⟩
      case measure => simp [intOf]; omega
    · obtain rfl : k = (pad C).length := by omega
      have HAr := Lib.hid (H4.out.keep ho (fun _ _ h => h))
      have HV5 := Lib.hid (HV4.out.keep ho (fun _ _ h => h))
      have HW5 := Lib.hid (HW4.out.also ho)
      have hrw : rwE QE.1.length QE.2.length (msk false) x y n 4 = 0 := by
        obtain ⟨m1, m2, m3, m4, m5, m6, m7, m8, _⟩ := rwE_zero HZ.out
        have hql : QE.1.length = (pad C).length := HQL.out
        have hqe : QE.2.length = (stores C.length).length + 4 * n := HQE.out
        rw [length_stores, HL.out] at hqe
        exact rwE_mk m1 m2 m3 m4 (by omega) m6 (by omega) m8 (by omega) (by omega)
      have HS := Lib.hid (swapRows_any HAr.out (msk false) x y n)
      have HRW := Lib.hid hrw
      have HE5 := Lib.hid (rep_sw_len (msk false) x y (QE.1, QE.2) n).2
      have hqe2 : QE.2.length = nn + 4 * n := by have hqe : QE.2.length = (stores C.length).length + 4 * n := HQE.out; rw [length_stores, HL.out] at hqe; exact hqe
      have HQ2 := Lib.hid hqe2
      clear hcl ho HC1 HC2 hrw hqe2
      go_wp2_with fail
      refine Calls.mono (R := fun e w' => e = .returned (.int .i64 0) ∧ ArTo wr (Grow F w2 w3) p (pad C) (rep (swF (msk false) x y) (QE.1, QE.2) n).2 w') (by
        have := HS.out
        unfold rwR at this
        rw [if_pos HRW.out] at this
        have h8 := HTW.out QE.2
        rw [Int.toNat_natCast, Int.toNat_natCast, Int.toNat_natCast] at this
        change Calls _ _ _ _ (fun e w' => e = .returned (.int .i64 0) ∧ ArTo wr (Grow F w2 w3) p (rep (swF (msk false) x y) (QE.1, QE.2) n).1 (rep (swF (msk false) x y) (QE.1, QE.2) n).2 w') at this
        rw [h8] at this
        exact this) ?_
      rintro e w5 ⟨rfl, h5⟩
      have HA5 := Lib.hid h5.1
      have HW6 := Lib.hid (HW5.out.own h5.2 HF3.out)
      have HV6 := Lib.hid (HV5.out.keep h5.2 HG3.out)
      have HB6 := Lib.hid (HB.out.off HW6.out)
      have hbx3 := HB6.out.2.1.2
      have hEq : (((rep (swF (msk false) x y) (QE.1, QE.2) n).2.length : Int) == (nn : Int) + 8 * (n : Int)) = true := by
        have h9 := HE5.out
        have h10 := HQ2.out
        rw [beq_iff_eq, h9]
        show ((QE.2.length + 4 * n : Nat) : Int) = _
        omega
      have hn64 : n ≤ 64 := by have := (rwE_zero HZ.out).2.2.1; omega
      have hw1 : IntKind.i64.wrap (8 * (n : Int)) = 8 * (n : Int) := IntWalk.i64_in _ (by omega)
      have hw2 : IntKind.i64.wrap ((nn : Int) + 8 * (n : Int)) = (nn : Int) + 8 * (n : Int) := IntWalk.i64_in _ (by omega)
      have HCF := Lib.hid (cells_fin HA5.out HB6.out)
      have HSF := Lib.hid (fun (W : World) (v : Value) (H : Nat → Prop) => same_fin (v := v) (H := H) HB6.out HV6.out W)
      have HTF := Lib.hid (steps_fin HA5.out)
      clear b0 b1 b2 b3 h5 HAr HV5 HW5 HS
      generalize rep (swF (msk false) x y) (QE.1, QE.2) n = QF at *
      go_wp2_with fail
      go_region_held3 (fun w' => w'.cell? ⟨w.heap.size, 3, none⟩ = some (.int .i64 (n : Int)))
        (first | assumption | go_keep)
        (first
          | (go_at_call 22; refine (HCF.out _ (by first | exact Off.refl _ _ | exact Off.drew (Off.refl _ _))).mono ?_; rintro e w6 ⟨v6, rfl, hk6, o6, hv6⟩)
          | (go_at_call 24; refine (HSF.out _ _ _ o6 hv6).mono ?_; rintro e w7 ⟨rfl, hk7, o7⟩)
          | (go_at_call 25; refine (HTF.out _ o7).mono ?_; rintro e w8 ⟨rfl, rfl⟩)
          | (go_at_call 19; refine (awake_ok _).mono ?_; rintro e w9 ⟨rfl, o9⟩; have hk9 : w9.cell? ⟨w.heap.size, 3, none⟩ = some (.int .i64 (n : Int)) := ((HB6.out.off o7).off o9).2.1.2))
      have HEND := Lib.hid (HO.out.also (HW6.out.also (o7.also o9)))
      clear o6 o7 o9 hv6 hw1 hw2
      go_wp2
      go_ret
      exact ⟨rfl, HEND.out⟩
end Go.Proofs.Ytoplnkpjepejkaa
