/-
  The walk of dragnetlaw07.MasksMoves, one way: mask true, MoveRows refused, Clear done.
-/
import Derived.Test.YtoplnkpjepejkaaMovesBoth
namespace Go.Proofs.Ytoplnkpjepejkaa
open Go.RowKit
set_option maxRecDepth 100000
set_option maxHeartbeats 4000000
theorem moves_true_err_ok {w : World} (A : Option Addr) (nn c : Nat) (C : List (BitVec 64)) (M : BitVec 64) (x : Nat) (y n : Int) (hn : nn ≤ 200) (hl : C.length = nn) (hr : Rd w (Old w) 1 (.slice A nn c) nn (u64s C)) (hM : ofM M = msk true)
    (hz : rwE (pad C).length (stores C.length).length (msk true) x y n 3 ≠ 0) (hk : ckE (pad C).length (stores C.length).length (msk true) 1 2 [(x : Int)] = 0) :
    Calls Try.prog 6 #[.slice A nn c, .agg #[.int .u64 (n64 M), .int .i64 x, .int .i64 y, .int .i64 n]] w (BoolNew true w) := by
  have HR := Lib.hid hr
  have HL := Lib.hid hl
  have HM := Lib.hid hM
  have HZ := Lib.hid hz
  have HK := Lib.hid hk
  have hq : (rwE (pad C).length (stores C.length).length (msk true) x y n 3 == 0) = false := by rw [beq_eq_false_iff_ne]; exact hz
  clear hr hl hM hz hk
  have hd : decide (200 < (nn : Int)) = false := by simp; omega
  have HB := Lib.hid (BoxAt.new w 31 M x y n)
  have HO := Lib.hid (Off.alloc (Off.refl Nob w) (.cells #[.int .u64 (n64 M), .int .i64 x, .int .i64 y, .int .i64 n] 31))
  go_enter Try.func6, Try.ntmps6
  go_wp2_with fail
  refine (arena_any (HR.out.keep HO.out (fun _ _ h => h)) (by have := HL.out; omega)).mono ?_
  rintro e w1 h1
  obtain ⟨p, r, rfl, F, h1, o1, f1⟩ := h1.have_
  have H1 := Lib.hid h1
  have HF := Lib.hid f1
  have HB1 := Lib.hid (HB.out.off o1)
  have HW := Lib.hid o1
  clear h1 HR o1 f1
  go_wp2_with fail
  refine (cells_of H1.out).mono ?_
  rintro e w2 ⟨v1, rfl, o2, hv1⟩
  have H2 := Lib.hid (H1.out.keep o2 (fun _ _ h => h))
  have HB2 := Lib.hid (HB1.out.off o2)
  have HW2 := Lib.hid (HW.out.also o2)
  have HV1 := Lib.hid hv1
  have HD1 := Lib.hid (show ∀ k, (w1.heap.size ≤ k ∧ k < w2.heap.size) → ¬ F k from fun k hk hf => by have := H1.out.lt k hf; omega)
  clear hv1 o2 HB1 HW H1
  obtain ⟨⟨b0, b1⟩, ⟨b2, b3⟩, b4⟩ := HB2.out
  go_wp2_with fail
  refine Calls.mono (R := fun e w' => e = .returned (.int .u64 18446744073709551615) ∧ w2 = w') (by have := rof_any M w2; rwa [HM.out] at this) ?_
  rintro e w' ⟨rfl, rfl⟩
  have HS := Lib.hid (moveRows_any H2.out (msk true) x y n)
  go_wp2_with fail
  refine Calls.mono (R := fun e w' => e = .returned (.int .i64 (rwE (pad C).length (stores C.length).length (msk true) x y n 3)) ∧ ArTo w2 F p (pad C) (stores C.length) w') (by
    have := HS.out
    unfold rwR at this
    rwa [if_neg HZ.out] at this) ?_
  rintro e w3 ⟨rfl, h3⟩
  have hpl : (pad C).length ≤ 200 := by rw [pad_length, HL.out]; omega
  have hp1 : 1 ≤ (pad C).length := by rw [pad_length]; omega
  have H3 := Lib.hid h3.1
  have HG3 := Lib.hid (show ∀ k, (w1.heap.size ≤ k ∧ k < w2.heap.size) → ¬ Grow F w2 w3 k from Grow.apart HD1.out (fun k hk => hk.2))
  have HF3 := Lib.hid (Grow.from_ (w' := w3) HF.out HW2.out.size)
  have HW3 := Lib.hid (HW2.out.own h3.2 HF.out)
  have HV3 := Lib.hid (HV1.out.keep h3.2 HD1.out)
  clear b0 b1 b2 b3 b4 h3 HS H2 HV1 HB2 HW2 HD1
  go_wp2_with fail
  refine (cells_of H3.out).mono ?_
  rintro e w4 ⟨v2, rfl, o4, hv2⟩
  have H4 := Lib.hid (H3.out.keep o4 (fun _ _ h => h))
  have HW4 := Lib.hid (HW3.out.also o4)
  have HU4 := Lib.hid hv2
  have HD4 := Lib.hid (show ∀ k, (w3.heap.size ≤ k ∧ k < w4.heap.size) → ¬ Grow F w2 w3 k from fun k hk hf => by have := H3.out.lt k hf; omega)
  have hv1 := HV3.out.keep o4 (fun _ _ h => h)
  obtain ⟨A1, c1, rfl, _, _, hc1⟩ := hv1
  obtain ⟨A2, c2, rfl, _, _, hc2⟩ := hv2
  obtain ⟨g1, o1, rfl, _, _, hc1⟩ := hc1 (by omega)
  obtain ⟨g2, o2, rfl, _, _, hc2⟩ := hc2 (by omega)
  have HC1 := Lib.hid hc1
  have HC2 := Lib.hid hc2
  clear o4 H3 HW3 HV3 hc1 hc2
  go_wp2_with fail
  go_loopw [11] (fun i wr => ∃ k : Nat, k ≤ (pad C).length ∧ i = .int .i64 k ∧ Off Nob w4 wr ∧ ∀ ad, wr.cell? ad = w4.cell? ad) (fun i _ => (pad C).length - (intOf i).toNat)
  case atStart => exact ⟨0, Nat.zero_le _, rfl, Off.refl _ _, fun _ => rfl⟩
  case round =>
    obtain ⟨k, hk, rfl, ho, hcl⟩ := hrel
    have HWR := Lib.hid ho
    have HCL := Lib.hid hcl
    obtain ⟨⟨b0, b1⟩, ⟨b2, b3⟩, _⟩ := (HB.out.off HW4.out).off ho
    by_cases hlt : k < (pad C).length
    · have hfn : k < (pad C).length := hlt
      have hcA : wr.cell? ⟨g2, o2 + k, none⟩ = some (.int .u64 (n64 (cl (pad C) (k)))) := by
        rw [hcl]
        have h9 := HC2.out k _ (getElem_u64s _ k (by omega))
        rw [h9]
      have hcB : wr.cell? ⟨g1, o1 + (k), none⟩ = some (.int .u64 (n64 (cl (pad C) (k)))) := by
        rw [hcl]
        exact HC1.out _ _ (getElem_u64s _ _ hfn)
      revert hcA hcB
      generalize cl (pad C) (k) = z
      intro hcA hcB
      have hd2 : decide (((pad C).length : Int) ≤ (k : Int)) = false := by simp; omega
      have hd3 : decide ((pad C).length ≤ k) = false := by simp; omega
      clear hcl ho
      go_wp2_with fail
      go_quiet (fail)
      go_wp2_with fail
      go_roundw
      case rel => exact ⟨k + 1, by omega, by go_num, HWR.out.drewN _, fun ad => HCL.out ad⟩
      case measure => simp [intOf]; omega
    · obtain rfl : k = (pad C).length := by omega
      have HAr := Lib.hid (H4.out.keep ho (fun _ _ h => h))
      have HU5 := Lib.hid (HU4.out.keep ho (fun _ _ h => h))
      have HW5 := Lib.hid (HW4.out.also ho)
      clear hcl ho HC1 HC2 HU4
      have HS := Lib.hid (clearA_any HAr.out (msk true) x)
      go_wp2_with fail
      refine Calls.mono (R := fun e w' => e = .returned (.int .i64 0) ∧ ArTo wr (Grow F w2 w3) p ((pad C).set x (cl (pad C) x &&& ~~~ (msk true))) ((stores C.length) ++ [(1, x), (2, x)]) w') (by
        have := HS.out
        unfold clR at this
        rwa [if_pos HK.out] at this) ?_
      rintro e w5 ⟨rfl, h5⟩
      have HA5 := Lib.hid h5.1
      have HW6 := Lib.hid (HW5.out.own h5.2 HF3.out)
      have HU6 := Lib.hid (HU5.out.keep h5.2 HD4.out)
      have hxr : x < (pad C).length := by
        obtain ⟨_, m1, _⟩ := ckE_zero HK.out
        have := (rowsE_one m1).1
        omega
      have HXR := Lib.hid hxr
      have HDL := Lib.hid (show ((pad C).set x (cl (pad C) x &&& ~~~ (msk true))).length = (pad C).length by rw [List.length_set])
      have HDC := Lib.hid (fun j => cl_set (pad C) x j (cl (pad C) x &&& ~~~ (msk true)) hxr)
      have hxn2 : x < (pad C).length := by have h7 : (pad C).length = (pad C).length := rfl; omega
      clear hxr
      generalize ((pad C).set x (cl (pad C) x &&& ~~~ (msk true))) = D at *
      clear b0 b1 b2 b3 h5 HAr HU5 HW5 HS
      go_wp2_with fail
      refine (cells_of HA5.out).mono ?_
      rintro e w6 ⟨v3, rfl, o6, hv3⟩
      have HW7 := Lib.hid (HW6.out.also o6)
      have hu := HU6.out.keep o6 (fun _ _ h => h)
      obtain ⟨A4, c4, e4, _, _, hc4⟩ := hu
      obtain ⟨A5, c5, rfl, _, _, hc5⟩ := hv3
      injection e4 with e4a e4b e4c
      obtain ⟨g4, o4, e4d, _, _, hc4⟩ := hc4 (by omega)
      rw [← e4a] at e4d
      injection e4d with e4d
      injection e4d with e4e e4f
      subst e4e e4f
      obtain ⟨g5, o5, rfl, _, _, hc5⟩ := hc5 (by have := HDL.out; omega)
      have HC4 := Lib.hid hc4
      have HC5 := Lib.hid hc5
      have hdl : D.length = (pad C).length := HDL.out
      rw [hdl]
      clear o6 hc4 hc5 hdl HA5 HW6 HU6 e4a e4b e4c
      go_wp2_with fail
      go_loopw [15] (fun i wq => ∃ k : Nat, k ≤ (pad C).length ∧ i = .int .i64 k ∧ Off Nob w6 wq ∧ ∀ ad, wq.cell? ad = w6.cell? ad) (fun i _ => (pad C).length - (intOf i).toNat)
      case atStart => exact ⟨0, Nat.zero_le _, rfl, Off.refl _ _, fun _ => rfl⟩
      case round =>
        obtain ⟨k, hk, rfl, ho, hcl⟩ := hrel
        have HWR2 := Lib.hid ho
        have HCL2 := Lib.hid hcl
        obtain ⟨⟨b0, b1⟩, ⟨b2, b3⟩, _⟩ := (HB.out.off HW7.out).off ho
        by_cases hlt : k < (pad C).length
        · by_cases hkx : k = x
          · subst hkx
            have hcL : wr.cell? ⟨g5, o5 + k, none⟩ = some (.int .u64 (n64 (cl D k))) := by
              rw [hcl]
              exact HC5.out k _ (getElem_u64s _ k (by have := HDL.out; omega))
            have hz0 : cl D k = 0#64 := by rw [HDC.out k, if_pos rfl, msk_not]; show _ &&& msk false = _; rw [msk_false, BitVec.and_zero]
            rw [hz0] at hcL
            have hcL2 : wr.cell? ⟨g5, o5 + k, none⟩ = some (.int .u64 0) := hcL
            clear hcL hz0
            clear hcl ho
            go_wp2_with fail
            go_roundw
            case rel => exact ⟨k + 1, by omega, by go_num, HWR2.out, fun ad => HCL2.out ad⟩
            case measure => simp [intOf]; omega
          · have hkq : ((k : Int) == (x : Int)) = false := by rw [beq_eq_false_iff_ne]; omega
            have hcL : wr.cell? ⟨g5, o5 + k, none⟩ = some (.int .u64 (n64 (cl D k))) := by
              rw [hcl]
              exact HC5.out k _ (getElem_u64s _ k (by have := HDL.out; omega))
            have hcF : wr.cell? ⟨g2, o2 + k, none⟩ = some (.int .u64 (n64 (cl (pad C) k))) := by
              rw [hcl]
              exact HC4.out k _ (getElem_u64s _ k (by omega))
            rw [HDC.out k, if_neg (fun h => hkx h.symm)] at hcL
            revert hcL hcF
            generalize cl (pad C) k = z
            intro hcL hcF
            clear hkx
            clear hcl ho
            go_wp2_with fail
            go_quiet (fail)
            go_wp2_with fail
            go_roundw
            case rel => exact ⟨k + 1, by omega, by go_num, HWR2.out.drewN _, fun ad => HCL2.out ad⟩
            case measure => simp [intOf]; omega
        · obtain rfl : k = (pad C).length := by omega
          have HW8 := Lib.hid (HW7.out.also ho)
          clear hcl ho
          go_wp2_with fail
          refine (awake_ok _).mono ?_
          rintro e w9 ⟨rfl, o9⟩
          have HEND := Lib.hid (HO.out.also (HW8.out.also o9))
          clear o9
          go_wp2
          go_ret
          exact ⟨rfl, HEND.out⟩
end Go.Proofs.Ytoplnkpjepejkaa
