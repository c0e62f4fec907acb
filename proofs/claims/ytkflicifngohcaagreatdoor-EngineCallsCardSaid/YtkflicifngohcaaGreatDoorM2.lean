/-
 Plain lemmas on words of 64 bits, as the model's integers of the kind u64 hold them. Nothing of the program is named here.
-/
import Derived.WalkKit
import Derived.WalkSpells
import Derived.WalkLawsBesides
set_option linter.unusedVariables false
set_option linter.unusedSimpArgs false
namespace Go.Proofs.YtkflicifngohcaaGreatDoor
open Go.RowKit
def bv (n : Int) : BitVec 64 := BitVec.ofInt 64 n
def n64 (x : BitVec 64) : Int := (x.toNat : Int)
def InU (n : Int) : Prop := 0 ≤ n ∧ n < 18446744073709551616
theorem n64_nonneg (x : BitVec 64) : 0 ≤ n64 x := Int.natCast_nonneg _
@[go_sem, simp] theorem bv_n64 (x : BitVec 64) : bv (n64 x) = x := by
 apply BitVec.eq_of_toNat_eq; simp [bv, n64, BitVec.ofInt_natCast]
theorem n64_bv {n : Int} (h : InU n) : n64 (bv n) = n := by
 obtain ⟨h0, h1⟩ := h
 obtain ⟨k, rfl⟩ := Int.eq_ofNat_of_zero_le h0
 unfold n64 bv
 rw [BitVec.ofInt_natCast, BitVec.toNat_ofNat, Nat.mod_eq_of_lt (by omega)]
theorem n64_inj {x y : BitVec 64} (h : n64 x = n64 y) : x = y := by
 have := congrArg bv h; simpa using this
theorem wrap_u64 (n : Int) : IntKind.u64.wrap n = n64 (bv n) := by
 rw [IntKind.wrap_u64]; unfold n64 bv
 rw [BitVec.toNat_ofInt]
 have : (0 : Int) ≤ n % 18446744073709551616 := Int.emod_nonneg _ (by decide)
 simp; omega
theorem bits_and_u64 (a b : Int) : bits .and .u64 a b = n64 (bv a &&& bv b) := by
 show IntKind.u64.wrap ((BitVec.ofInt 64 a &&& BitVec.ofInt 64 b).toNat : Int) = _
 rw [wrap_u64]; exact congrArg n64 (bv_n64 _)
theorem bits_or_u64 (a b : Int) : bits .or .u64 a b = n64 (bv a ||| bv b) := by
 show IntKind.u64.wrap ((BitVec.ofInt 64 a ||| BitVec.ofInt 64 b).toNat : Int) = _
 rw [wrap_u64]; exact congrArg n64 (bv_n64 _)
theorem bits_xor_u64 (a b : Int) : bits .xor .u64 a b = n64 (bv a ^^^ bv b) := by
 show IntKind.u64.wrap ((BitVec.ofInt 64 a ^^^ BitVec.ofInt 64 b).toNat : Int) = _
 rw [wrap_u64]; exact congrArg n64 (bv_n64 _)
theorem bits_andNot_u64 (a b : Int) : bits .andNot .u64 a b = n64 (bv a &&& ~~~ bv b) := by
 show IntKind.u64.wrap ((BitVec.ofInt 64 a &&& ~~~ BitVec.ofInt 64 b).toNat : Int) = _
 rw [wrap_u64]; exact congrArg n64 (bv_n64 _)
theorem bv_add (a b : Int) : bv (a + b) = bv a + bv b := BitVec.ofInt_add ..
theorem bv_neg (a : Int) : bv (-a) = - bv a := by unfold bv; exact BitVec.ofInt_neg
theorem bv_sub (a b : Int) : bv (a - b) = bv a - bv b := by
 rw [Int.sub_eq_add_neg, bv_add, bv_neg, BitVec.sub_eq_add_neg]
theorem bv_mul (a b : Int) : bv (a * b) = bv a * bv b := BitVec.ofInt_mul ..
theorem n64_eq_iff (x y : BitVec 64) : (n64 x = n64 y) = (x = y) := propext ⟨n64_inj, fun h => h ▸ rfl⟩
theorem n64_beq (x y : BitVec 64) : (n64 x == n64 y) = (x == y) := by
 rw [Bool.eq_iff_iff]; simp [n64_eq_iff]
end Go.Proofs.YtkflicifngohcaaGreatDoor

namespace Go.Proofs.YtkflicifngohcaaGreatDoor
def msk (b : Bool) : BitVec 64 := if b then 18446744073709551615#64 else 0#64
def ofM (a : BitVec 64) : BitVec 64 := msk (decide (a.toNat % 2 = 1))
def zeM (a : BitVec 64) : BitVec 64 := msk (decide (a.toNat = 0))
def selM (m a b : BitVec 64) : BitVec 64 := b ^^^ (m &&& (a ^^^ b))
def isM (m : BitVec 64) : Bool := decide (m = msk true) || decide (m = msk false)
theorem bv_max : bv IntKind.u64.max = 18446744073709551615#64 := by decide
theorem bv_one : bv 1 = 1#64 := by decide
theorem ones_all : (18446744073709551615#64) = BitVec.allOnes 64 := by decide
theorem msk_true : msk true = BitVec.allOnes 64 := ones_all
theorem msk_false : msk false = 0#64 := rfl
theorem inv_eq (a : BitVec 64) : 18446744073709551615#64 ^^^ a = ~~~ a := by rw [ones_all, BitVec.allOnes_xor]
theorem and_one (a : BitVec 64) : (a &&& 1#64).toNat = a.toNat % 2 := by
 rw [BitVec.toNat_and]; show a.toNat &&& 1 = _; rw [Nat.and_one_is_mod]
theorem of_eq (a : BitVec 64) : -(a &&& 1#64) = ofM a := by
 unfold ofM
 apply BitVec.eq_of_toNat_eq
 rw [BitVec.toNat_neg, and_one]
 by_cases h : a.toNat % 2 = 1
 ·rw [decide_eq_true h, h]; rfl
 ·have : a.toNat % 2 = 0 := by omega
  rw [decide_eq_false h, this]; rfl
theorem msb_toNat (a : BitVec 64) : a.msb = decide (9223372036854775808 ≤ a.toNat) := by rw [BitVec.msb_eq_decide]
theorem shr63 (a : BitVec 64) : a >>> 63 = if a.msb then 1#64 else 0#64 := by
 apply BitVec.eq_of_toNat_eq
 rw [BitVec.toNat_ushiftRight, msb_toNat, Nat.shiftRight_eq_div_pow]
 have := a.isLt
 by_cases h : 9223372036854775808 ≤ a.toNat
 ·rw [decide_eq_true h]; show a.toNat / 2 ^ 63 = 1; omega
 ·rw [decide_eq_false h]; show a.toNat / 2 ^ 63 = 0; omega
theorem isM_iff (m : BitVec 64) : isM m = decide (m = ofM m) := by
 unfold isM
 rw [Bool.eq_iff_iff]
 simp only [Bool.or_eq_true, decide_eq_true_eq]
 constructor
 ·rintro (h | h) <;> subst h <;> rfl
 ·intro h
  unfold ofM at h
  by_cases h1 : m.toNat % 2 = 1
  ·rw [decide_eq_true h1] at h; exact .inl h
  ·rw [decide_eq_false h1] at h; exact .inr h
theorem zero_shr (x : BitVec 64) : (x ||| -x).msb = !decide (x.toNat = 0) := by
 rw [BitVec.msb_or, msb_toNat x, msb_toNat (-x), BitVec.toNat_neg]
 have := x.isLt
 rw [Bool.eq_iff_iff]
 simp
 omega
theorem n64_shr63 (a : BitVec 64) : n64 a / (9223372036854775808 : Int) = n64 (a >>> 63) := by
 unfold n64
 rw [BitVec.toNat_ushiftRight, Nat.shiftRight_eq_div_pow]
 omega
end Go.Proofs.YtkflicifngohcaaGreatDoor
