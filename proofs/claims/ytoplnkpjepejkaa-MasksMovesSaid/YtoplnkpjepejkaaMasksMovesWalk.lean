/-
  The walk of dragnetlaw07.MasksMoves.
-/
import Derived.Test.YtoplnkpjepejkaaMovesTOO
import Derived.Test.YtoplnkpjepejkaaMovesTOE
import Derived.Test.YtoplnkpjepejkaaMovesTEO
import Derived.Test.YtoplnkpjepejkaaMovesTEE
import Derived.Test.YtoplnkpjepejkaaMovesFOO
import Derived.Test.YtoplnkpjepejkaaMovesFOE
import Derived.Test.YtoplnkpjepejkaaMovesFEO
import Derived.Test.YtoplnkpjepejkaaMovesFEE
namespace Go.Proofs.Ytoplnkpjepejkaa
open Go.RowKit
set_option maxRecDepth 100000
theorem moves_long {w : World} (A : Option Addr) (nn c : Nat) (M : BitVec 64) (x y n : Int) (hn : 200 < nn) (hm : nn ≤ maxLen) :
    Calls Try.prog 6 #[.slice A nn c, .agg #[.int .u64 (n64 M), .int .i64 x, .int .i64 y, .int .i64 n]] w (BoolNew true w) := by
  unfold maxLen at hm
  have hd : decide (200 < (nn : Int)) = true := by simp; omega
  go_enter Try.func6, Try.ntmps6
  go_wp2_with fail
  refine (awake_ok _).mono ?_
  rintro e w4 ⟨rfl, h4⟩
  have H4 := Lib.hid h4
  clear h4
  go_wp2
  go_ret
  exact ⟨rfl, (Off.alloc (Off.refl _ _) _).also H4.out⟩
theorem masksMoves_walk {w : World} {v : Value} {nn : Nat} {C : List (BitVec 64)} (h : Rd w (Old w) 1 v nn (u64s C)) (M : BitVec 64) (x y n : Int) :
    Calls Try.prog 6 #[v, .agg #[.int .u64 (n64 M), .int .i64 x, .int .i64 y, .int .i64 n]] w (BoolNew true w) := by
  have hr := h
  obtain ⟨A, c, rfl, hm, hl, hc⟩ := h
  rw [length_u64s, Nat.mul_one] at hl
  rcases Nat.lt_or_ge 200 nn with h1 | h1
  · exact moves_long A nn c M x y n h1 hm
  · obtain ⟨b, hb⟩ : ∃ b, ofM M = msk b := ⟨_, rfl⟩
    by_cases hz : rwE (pad C).length (stores C.length).length (msk b) x y n 3 = 0
    · obtain ⟨_, g1, _, g2, _, g3, _⟩ := rwE_zero hz
      obtain ⟨x, rfl⟩ := Int.eq_ofNat_of_zero_le g2
      obtain ⟨y, rfl⟩ := Int.eq_ofNat_of_zero_le g3
      obtain ⟨n, rfl⟩ := Int.eq_ofNat_of_zero_le (show 0 ≤ n by omega)
      by_cases hk : ckE (rep (mvF (msk b) x y) (pad C, stores C.length) n).1.length (rep (mvF (msk b) x y) (pad C, stores C.length) n).2.length (msk b) 1 2 [(x : Int)] = 0
      · cases b
        · exact moves_false_ok_ok A nn c C M x y n h1 hl hr hb hz hk
        · exact moves_true_ok_ok A nn c C M x y n h1 hl hr hb hz hk
      · cases b
        · exact moves_false_ok_err A nn c C M x y n h1 hl hr hb hz hk
        · exact moves_true_ok_err A nn c C M x y n h1 hl hr hb hz hk
    · by_cases hk : ckE (pad C).length (stores C.length).length (msk b) 1 2 [x] = 0
      · obtain ⟨_, m1, _⟩ := ckE_zero hk
        obtain ⟨x, rfl⟩ := Int.eq_ofNat_of_zero_le (rowsE_one m1).1.1
        cases b
        · exact moves_false_err_ok A nn c C M x y n h1 hl hr hb hz hk
        · exact moves_true_err_ok A nn c C M x y n h1 hl hr hb hz hk
      · cases b
        · exact moves_false_err_err A nn c C M x y n h1 hl hr hb hz hk
        · exact moves_true_err_err A nn c C M x y n h1 hl hr hb hz hk
end Go.Proofs.Ytoplnkpjepejkaa
