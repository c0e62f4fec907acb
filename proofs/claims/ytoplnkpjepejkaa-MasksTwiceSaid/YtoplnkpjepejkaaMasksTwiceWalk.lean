/-
  The walk of dragnetlaw07.MasksTwice.
-/
import Derived.Test.YtoplnkpjepejkaaMasksBoth
import Derived.Test.YtoplnkpjepejkaaMaskPlain
import Derived.Test.YtoplnkpjepejkaaMasksTwiceT
import Derived.Test.YtoplnkpjepejkaaMasksTwiceF
namespace Go.Proofs.Ytoplnkpjepejkaa
open Go.RowKit
set_option maxRecDepth 100000
set_option maxHeartbeats 4000000
theorem twice_err_true {w : World} (A : Option Addr) (nn c : Nat) (C : List (BitVec 64)) (M : BitVec 64) (x y n : Int) (hn : nn ≤ 200) (hl : C.length = nn) (hr : Rd w (Old w) 1 (.slice A nn c) nn (u64s C)) (hM : ofM M = msk true)
    (hz : rwE (pad C).length (stores C.length).length (msk true) x y n 4 ≠ 0) :
    Calls Try.prog 5 #[.slice A nn c, .agg #[.int .u64 (n64 M), .int .i64 x, .int .i64 y, .int .i64 n]] w (BoolNew true w) := by
  have HR := Lib.hid hr
  have HL := Lib.hid hl
  have HM := Lib.hid hM
  have HZ := Lib.hid hz
  have hq : (rwE (pad C).length (stores C.length).length (msk true) x y n 4 != 0) = true := by rw [bne_iff_ne]; exact hz
  clear hr hl hM hz
  have hd : decide (200 < (nn : Int)) = false := by simp; omega
  have HB := Lib.hid (BoxAt.new w 31 M x y n)
  have HO := Lib.hid (Off.alloc (Off.refl Nob w) (.cells #[.int .u64 (n64 M), .int .i64 x, .int .i64 y, .int .i64 n] 31))
  go_enter Try.func5, Try.ntmps5
  go_wp2_with fail
  refine (arena_any (HR.out.keep HO.out (fun _ _ h => h)) (by have := HL.out; omega)).mono ?_
  rintro e w1 h1
  obtain ⟨p, r, rfl, F, h1, o1, f1⟩ := h1.have_
  have H1 := Lib.hid h1
  have HF := Lib.hid f1
  have HB1 := Lib.hid (HB.out.off o1)
  have HW := Lib.hid o1
  clear h1 HR o1 f1
  go_wp2_with fail
  refine (cells_of H1.out).mono ?_
  rintro e w2 ⟨v1, rfl, o2, hv1⟩
  have H2 := Lib.hid (H1.out.keep o2 (fun _ _ h => h))
  have HB2 := Lib.hid (HB1.out.off o2)
  have HW2 := Lib.hid (HW.out.also o2)
  have HV1 := Lib.hid hv1
  have HD1 := Lib.hid (show ∀ k, (w1.heap.size ≤ k ∧ k < w2.heap.size) → ¬ F k from fun k hk hf => by have := H1.out.lt k hf; omega)
  clear hv1 o2 HB1 HW H1
  obtain ⟨⟨b0, b1⟩, ⟨b2, b3⟩, b4⟩ := HB2.out
  go_wp2_with fail
  refine Calls.mono (R := fun e w' => e = .returned (.int .u64 18446744073709551615) ∧ w2 = w') (by have := rof_any M w2; rwa [HM.out] at this) ?_
  rintro e w' ⟨rfl, rfl⟩
  have HS := Lib.hid (swapRows_any H2.out (msk true) x y n)
  go_wp2_with fail
  refine Calls.mono (R := fun e w' => e = .returned (.int .i64 (rwE (pad C).length (stores C.length).length (msk true) x y n 4)) ∧ ArTo w2 F p (pad C) (stores C.length) w') (by
    have := HS.out
    unfold rwR at this
    rwa [if_neg HZ.out] at this) ?_
  rintro e w3 ⟨rfl, h3⟩
  have H3 := Lib.hid h3.1
  have HW3 := Lib.hid (HW2.out.own h3.2 HF.out)
  have HV3 := Lib.hid (HV1.out.keep h3.2 HD1.out)
  clear b0 b1 b2 b3 b4 h3 HS H2 HV1 HB2 HW2
  go_wp2_with fail
  refine (cells_of H3.out).mono ?_
  rintro e w4 ⟨v2, rfl, o4, hv2⟩
  have H4 := Lib.hid (H3.out.keep o4 (fun _ _ h => h))
  have HW4 := Lib.hid (HW3.out.also o4)
  have HV4 := Lib.hid (HV3.out.keep o4 (fun _ _ h => h))
  have HU4 := Lib.hid hv2
  clear hv2 o4 H3 HW3 HV3
  go_wp2_with fail
  refine Calls.mono (R := BoolNew true w4) (by have := sameCells_any HV4.out HU4.out; rwa [sameB_refl] at this) ?_
  rintro e w5 ⟨rfl, o5⟩
  have H5 := Lib.hid (H4.out.keep o5 (fun _ _ h => h))
  have HW5 := Lib.hid (HW4.out.also o5)
  have hs : (((stores C.length).length : Int) == (nn : Int)) = true := by rw [beq_iff_eq, length_stores, HL.out]
  clear o5 H4 HW4 HV4 HU4
  go_wp2_with fail
  refine (steps_any H5.out).mono ?_
  rintro e w' ⟨rfl, rfl⟩
  go_wp2_with fail
  refine (awake_ok _).mono ?_
  rintro e w6 ⟨rfl, o6⟩
  have HW6 := Lib.hid (HW5.out.also o6)
  clear o6
  go_wp2
  go_ret
  exact ⟨rfl, HO.out.also HW6.out⟩
theorem twice_err_false {w : World} (A : Option Addr) (nn c : Nat) (C : List (BitVec 64)) (M : BitVec 64) (x y n : Int) (hn : nn ≤ 200) (hl : C.length = nn) (hr : Rd w (Old w) 1 (.slice A nn c) nn (u64s C)) (hM : ofM M = msk false)
    (hz : rwE (pad C).length (stores C.length).length (msk false) x y n 4 ≠ 0) :
    Calls Try.prog 5 #[.slice A nn c, .agg #[.int .u64 (n64 M), .int .i64 x, .int .i64 y, .int .i64 n]] w (BoolNew true w) := by
  have HR := Lib.hid hr
  have HL := Lib.hid hl
  have HM := Lib.hid hM
  have HZ := Lib.hid hz
  have hq : (rwE (pad C).length (stores C.length).length (msk false) x y n 4 != 0) = true := by rw [bne_iff_ne]; exact hz
  clear hr hl hM hz
  have hd : decide (200 < (nn : Int)) = false := by simp; omega
  have HB := Lib.hid (BoxAt.new w 31 M x y n)
  have HO := Lib.hid (Off.alloc (Off.refl Nob w) (.cells #[.int .u64 (n64 M), .int .i64 x, .int .i64 y, .int .i64 n] 31))
  go_enter Try.func5, Try.ntmps5
  go_wp2_with fail
  refine (arena_any (HR.out.keep HO.out (fun _ _ h => h)) (by have := HL.out; omega)).mono ?_
  rintro e w1 h1
  obtain ⟨p, r, rfl, F, h1, o1, f1⟩ := h1.have_
  have H1 := Lib.hid h1
  have HF := Lib.hid f1
  have HB1 := Lib.hid (HB.out.off o1)
  have HW := Lib.hid o1
  clear h1 HR o1 f1
  go_wp2_with fail
  refine (cells_of H1.out).mono ?_
  rintro e w2 ⟨v1, rfl, o2, hv1⟩
  have H2 := Lib.hid (H1.out.keep o2 (fun _ _ h => h))
  have HB2 := Lib.hid (HB1.out.off o2)
  have HW2 := Lib.hid (HW.out.also o2)
  have HV1 := Lib.hid hv1
  have HD1 := Lib.hid (show ∀ k, (w1.heap.size ≤ k ∧ k < w2.heap.size) → ¬ F k from fun k hk hf => by have := H1.out.lt k hf; omega)
  clear hv1 o2 HB1 HW H1
  obtain ⟨⟨b0, b1⟩, ⟨b2, b3⟩, b4⟩ := HB2.out
  go_wp2_with fail
  refine Calls.mono (R := fun e w' => e = .returned (.int .u64 0) ∧ w2 = w') (by have := rof_any M w2; rwa [HM.out] at this) ?_
  rintro e w' ⟨rfl, rfl⟩
  have HS := Lib.hid (swapRows_any H2.out (msk false) x y n)
  go_wp2_with fail
  refine Calls.mono (R := fun e w' => e = .returned (.int .i64 (rwE (pad C).length (stores C.length).length (msk false) x y n 4)) ∧ ArTo w2 F p (pad C) (stores C.length) w') (by
    have := HS.out
    unfold rwR at this
    rwa [if_neg HZ.out] at this) ?_
  rintro e w3 ⟨rfl, h3⟩
  have H3 := Lib.hid h3.1
  have HW3 := Lib.hid (HW2.out.own h3.2 HF.out)
  have HV3 := Lib.hid (HV1.out.keep h3.2 HD1.out)
  clear b0 b1 b2 b3 b4 h3 HS H2 HV1 HB2 HW2
  go_wp2_with fail
  refine (cells_of H3.out).mono ?_
  rintro e w4 ⟨v2, rfl, o4, hv2⟩
  have H4 := Lib.hid (H3.out.keep o4 (fun _ _ h => h))
  have HW4 := Lib.hid (HW3.out.also o4)
  have HV4 := Lib.hid (HV3.out.keep o4 (fun _ _ h => h))
  have HU4 := Lib.hid hv2
  clear hv2 o4 H3 HW3 HV3
  go_wp2_with fail
  refine Calls.mono (R := BoolNew true w4) (by have := sameCells_any HV4.out HU4.out; rwa [sameB_refl] at this) ?_
  rintro e w5 ⟨rfl, o5⟩
  have H5 := Lib.hid (H4.out.keep o5 (fun _ _ h => h))
  have HW5 := Lib.hid (HW4.out.also o5)
  have hs : (((stores C.length).length : Int) == (nn : Int)) = true := by rw [beq_iff_eq, length_stores, HL.out]
  clear o5 H4 HW4 HV4 HU4
  go_wp2_with fail
  refine (steps_any H5.out).mono ?_
  rintro e w' ⟨rfl, rfl⟩
  go_wp2_with fail
  refine (awake_ok _).mono ?_
  rintro e w6 ⟨rfl, o6⟩
  have HW6 := Lib.hid (HW5.out.also o6)
  clear o6
  go_wp2
  go_ret
  exact ⟨rfl, HO.out.also HW6.out⟩
theorem twice_long {w : World} (A : Option Addr) (nn c : Nat) (M : BitVec 64) (x y n : Int) (hn : 200 < nn) (hm : nn ≤ maxLen) :
    Calls Try.prog 5 #[.slice A nn c, .agg #[.int .u64 (n64 M), .int .i64 x, .int .i64 y, .int .i64 n]] w (BoolNew true w) := by
  unfold maxLen at hm
  have hd : decide (200 < (nn : Int)) = true := by simp; omega
  go_enter Try.func5, Try.ntmps5
  go_wp2_with fail
  refine (awake_ok _).mono ?_
  rintro e w4 ⟨rfl, h4⟩
  have H4 := Lib.hid h4
  clear h4
  go_wp2
  go_ret
  exact ⟨rfl, (Off.alloc (Off.refl _ _) _).also H4.out⟩
theorem masksTwice_walk {w : World} {v : Value} {nn : Nat} {C : List (BitVec 64)} (h : Rd w (Old w) 1 v nn (u64s C)) (M : BitVec 64) (x y n : Int) :
    Calls Try.prog 5 #[v, .agg #[.int .u64 (n64 M), .int .i64 x, .int .i64 y, .int .i64 n]] w (BoolNew true w) := by
  have hr := h
  obtain ⟨A, c, rfl, hm, hl, hc⟩ := h
  rw [length_u64s, Nat.mul_one] at hl
  rcases Nat.lt_or_ge 200 nn with h1 | h1
  · exact twice_long A nn c M x y n h1 hm
  · obtain ⟨b, hb⟩ : ∃ b, ofM M = msk b := ⟨_, rfl⟩
    by_cases hz : rwE (pad C).length (stores C.length).length (msk b) x y n 4 = 0
    · obtain ⟨_, g1, _, g2, _, g3, _⟩ := rwE_zero hz
      obtain ⟨x, rfl⟩ := Int.eq_ofNat_of_zero_le g2
      obtain ⟨y, rfl⟩ := Int.eq_ofNat_of_zero_le g3
      obtain ⟨n, rfl⟩ := Int.eq_ofNat_of_zero_le (show 0 ≤ n by omega)
      cases b
      · exact twice_ok_false A nn c C M x y n h1 hl hr hb hz
      · exact twice_ok_true A nn c C M x y n h1 hl hr hb hz
    · cases b
      · exact twice_err_false A nn c C M x y n h1 hl hr hb hz
      · exact twice_err_true A nn c C M x y n h1 hl hr hb hz
end Go.Proofs.Ytoplnkpjepejkaa
