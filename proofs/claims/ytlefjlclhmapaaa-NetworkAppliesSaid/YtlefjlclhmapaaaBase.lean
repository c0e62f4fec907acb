/-
  Plain lemmas on words of 64 bits, as the model's integers of the kind u64 hold them. Nothing of the program is named here.
-/
import Derived.WalkKit
import Derived.WalkSpells
import Derived.WalkLawsBesides
namespace Go.Proofs.Ytlefjlclhmapaaa
open Go.RowKit

/-- The word of a number. -/
def bv (n : Int) : BitVec 64 := BitVec.ofInt 64 n
/-- The number of a word. -/
def n64 (x : BitVec 64) : Int := (x.toNat : Int)
/-- A number that fits. -/
def InU (n : Int) : Prop := 0 ≤ n ∧ n < 18446744073709551616

theorem n64_nonneg (x : BitVec 64) : 0 ≤ n64 x := Int.natCast_nonneg _
theorem n64_lt (x : BitVec 64) : n64 x < 18446744073709551616 := by have := x.isLt; unfold n64; omega
theorem inU (x : BitVec 64) : InU (n64 x) := ⟨n64_nonneg x, n64_lt x⟩
@[go_sem, simp] theorem bv_n64 (x : BitVec 64) : bv (n64 x) = x := by
  apply BitVec.eq_of_toNat_eq; simp [bv, n64, BitVec.ofInt_natCast]
theorem n64_bv {n : Int} (h : InU n) : n64 (bv n) = n := by
  obtain ⟨h0, h1⟩ := h
  obtain ⟨k, rfl⟩ := Int.eq_ofNat_of_zero_le h0
  unfold n64 bv
  rw [BitVec.ofInt_natCast, BitVec.toNat_ofNat, Nat.mod_eq_of_lt (by omega)]
theorem n64_inj {x y : BitVec 64} (h : n64 x = n64 y) : x = y := by
  have := congrArg bv h; simpa using this
theorem wrap_u64 (n : Int) : IntKind.u64.wrap n = n64 (bv n) := by
  rw [IntKind.wrap_u64]; unfold n64 bv
  rw [BitVec.toNat_ofInt]
  have : (0 : Int) ≤ n % 18446744073709551616 := Int.emod_nonneg _ (by decide)
  simp; omega
theorem bits_and_u64 (a b : Int) : bits .and .u64 a b = n64 (bv a &&& bv b) := by
  show IntKind.u64.wrap ((BitVec.ofInt 64 a &&& BitVec.ofInt 64 b).toNat : Int) = _
  rw [wrap_u64]; exact congrArg n64 (bv_n64 _)
theorem bits_or_u64 (a b : Int) : bits .or .u64 a b = n64 (bv a ||| bv b) := by
  show IntKind.u64.wrap ((BitVec.ofInt 64 a ||| BitVec.ofInt 64 b).toNat : Int) = _
  rw [wrap_u64]; exact congrArg n64 (bv_n64 _)
theorem bits_xor_u64 (a b : Int) : bits .xor .u64 a b = n64 (bv a ^^^ bv b) := by
  show IntKind.u64.wrap ((BitVec.ofInt 64 a ^^^ BitVec.ofInt 64 b).toNat : Int) = _
  rw [wrap_u64]; exact congrArg n64 (bv_n64 _)
theorem bits_andNot_u64 (a b : Int) : bits .andNot .u64 a b = n64 (bv a &&& ~~~ bv b) := by
  show IntKind.u64.wrap ((BitVec.ofInt 64 a &&& ~~~ BitVec.ofInt 64 b).toNat : Int) = _
  rw [wrap_u64]; exact congrArg n64 (bv_n64 _)
theorem bv_add (a b : Int) : bv (a + b) = bv a + bv b := BitVec.ofInt_add ..
theorem bv_neg (a : Int) : bv (-a) = - bv a := by unfold bv; exact BitVec.ofInt_neg
theorem bv_sub (a b : Int) : bv (a - b) = bv a - bv b := by
  rw [Int.sub_eq_add_neg, bv_add, bv_neg, BitVec.sub_eq_add_neg]
theorem bv_mul (a b : Int) : bv (a * b) = bv a * bv b := BitVec.ofInt_mul ..
theorem n64_eq_iff (x y : BitVec 64) : (n64 x = n64 y) = (x = y) := propext ⟨n64_inj, fun h => h ▸ rfl⟩
theorem n64_beq (x y : BitVec 64) : (n64 x == n64 y) = (x == y) := by
  rw [Bool.eq_iff_iff]; simp [n64_eq_iff]
theorem n64_lt_iff (x y : BitVec 64) : (n64 x < n64 y) = (x < y) := by unfold n64; rw [BitVec.lt_def]; simp
theorem n64_le_iff (x y : BitVec 64) : (n64 x ≤ n64 y) = (x ≤ y) := by unfold n64; rw [BitVec.le_def]; simp
end Go.Proofs.Ytlefjlclhmapaaa
