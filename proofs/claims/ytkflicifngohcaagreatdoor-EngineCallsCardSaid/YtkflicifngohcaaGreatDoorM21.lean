/-
 masks.Of, masks.Is, masks.Select, compare.Less: their contracts.
-/
import Derived.Test.YtkflicifngohcaaGreatDoorRows
import Derived.Test.YtkflicifngohcaaGreatDoorM2
import Derived.Test.YtkflicifngohcaaGreatDoorM1
import Derived.WalkLawsBesides
set_option linter.unusedVariables false
set_option linter.unusedSimpArgs false
namespace Go.Proofs.YtkflicifngohcaaGreatDoor
open Go.RowKit
attribute [local go_sem] bits_and_u64 bits_or_u64 bits_xor_u64 bits_andNot_u64 wrap_u64 bv_add bv_neg bv_sub bv_mul
set_option maxRecDepth 100000
theorem spread_any (a : BitVec 64) (w : World) :
  Calls Tryz.prog 98 #[.int .u64 (n64 a)] w fun e w' => e = .returned (.int .u64 (n64 (ofM a))) ∧ w = w' := by
 go_enter Tryz.func98, Tryz.ntmps98
 go_wp2
 go_ret
 exact ⟨ret_int (by rw [bv_one, of_eq]), rfl⟩
theorem of_any (a : BitVec 64) (w : World) :
  Calls Tryz.prog 92 #[.int .u64 (n64 a)] w fun e w' => e = .returned (.int .u64 (n64 (ofM a))) ∧ w = w' := by
 go_enter Tryz.func92, Tryz.ntmps92
 go_wp2_with fail
 refine (spread_any a w).mono ?_
 rintro e w' ⟨rfl, rfl⟩
 go_wp2
 go_ret
 exact ⟨rfl, rfl⟩
theorem is_any (a : BitVec 64) (w : World) :
  Calls Tryz.prog 46 #[.int .u64 (n64 a)] w fun e w' => e = .returned (.bool (isM a)) ∧ w = w' := by
 have HI := hID (show (n64 a == n64 (ofM a)) = isM a from by rw [isM_iff, n64_beq, Bool.eq_iff_iff]; simp)
 go_enter Tryz.func46, Tryz.ntmps46
 go_wp2_with fail
 refine (of_any a w).mono ?_
 rintro e w' ⟨rfl, rfl⟩
 go_wp2
 go_ret
 exact ⟨ret_bool HI.out, rfl⟩
theorem select_any (m a b : BitVec 64) (w : World) :
  Calls Tryz.prog 51 #[.int .u64 (n64 m), .int .u64 (n64 a), .int .u64 (n64 b)] w fun e w' => e = .returned (.int .u64 (n64 (selM m a b))) ∧ w = w' := by
 go_enter Tryz.func51, Tryz.ntmps51
 go_wp2
 go_ret
 exact ⟨rfl, rfl⟩
end Go.Proofs.YtkflicifngohcaaGreatDoor

namespace Go.Proofs.YtkflicifngohcaaGreatDoor
open Go.RowKit
attribute [local go_sem] bits_and_u64 bits_or_u64 bits_xor_u64 bits_andNot_u64 wrap_u64 bv_add bv_neg bv_sub bv_mul
set_option maxRecDepth 100000
theorem zero_eq (x : BitVec 64) : ~~~ (ofM ((x ||| -x) >>> 63)) = zeM x := by
 rw [shr63, zero_shr]
 unfold zeM ofM
 by_cases h : x.toNat = 0
 ·rw [decide_eq_true h]; rfl
 ·rw [decide_eq_false h]; rfl
theorem top_any (a : BitVec 64) (w : World) :
  Calls Tryz.prog 97 #[.int .u64 (n64 a)] w fun e w' => e = .returned (.int .u64 (n64 (a >>> 63))) ∧ w = w' := by
 go_enter Tryz.func97, Tryz.ntmps97
 go_wp2
 go_ret
 exact ⟨ret_int (by rw [n64_shr63]), rfl⟩
theorem zero_any (a : BitVec 64) (w : World) :
  Calls Tryz.prog 53 #[.int .u64 (n64 a)] w fun e w' => e = .returned (.int .u64 (n64 (zeM a))) ∧ w = w' := by
 go_enter Tryz.func53, Tryz.ntmps53
 go_wp2_with fail
 refine (top_any _ w).mono ?_
 rintro e w' ⟨rfl, rfl⟩
 go_wp2_with fail
 refine (spread_any _ w).mono ?_
 rintro e w' ⟨rfl, rfl⟩
 go_wp2
 go_ret
 exact ⟨ret_int (by rw [bv_max, inv_eq, zero_eq]), rfl⟩
def maxM (a b : BitVec 64) : BitVec 64 := BitVec.ofNat 64 (max a.toNat b.toNat)
def minM (a b : BitVec 64) : BitVec 64 := BitVec.ofNat 64 (min a.toNat b.toNat)
theorem maxM_toNat (a b : BitVec 64) : (maxM a b).toNat = max a.toNat b.toNat := by
 unfold maxM; have := a.isLt; have := b.isLt; rw [BitVec.toNat_ofNat, Nat.mod_eq_of_lt (by omega)]
theorem minM_toNat (a b : BitVec 64) : (minM a b).toNat = min a.toNat b.toNat := by
 unfold minM; have := a.isLt; have := b.isLt; rw [BitVec.toNat_ofNat, Nat.mod_eq_of_lt (by omega)]
theorem n64_max (a b : BitVec 64) : max (n64 a) (n64 b) = n64 (maxM a b) := by unfold n64; rw [maxM_toNat]; omega
theorem n64_min (a b : BitVec 64) : min (n64 a) (n64 b) = n64 (minM a b) := by unfold n64; rw [minM_toNat]; omega
theorem run_max_u64 {P : Program} {w : World} (ts : Array TypeId) (t : TypeId) (a b : BitVec 64) : (Builtin.max_ ts t #[.int .u64 (n64 a), .int .u64 (n64 b)]).run P w = .ok (.int .u64 (n64 (maxM a b))) w := by
 rw [run_max_int2]
 congr 2
 rw [← n64_max]
 split <;> omega
theorem run_min_u64 {P : Program} {w : World} (ts : Array TypeId) (t : TypeId) (a b : BitVec 64) : (Builtin.min_ ts t #[.int .u64 (n64 a), .int .u64 (n64 b)]).run P w = .ok (.int .u64 (n64 (minM a b))) w := by
 rw [run_min_int2]
 congr 2
 rw [← n64_min]
 split <;> omega
end Go.Proofs.YtkflicifngohcaaGreatDoor

namespace Go.Proofs.YtkflicifngohcaaGreatDoor
open Go.RowKit
attribute [local go_sem] bits_and_u64 bits_or_u64 bits_xor_u64 bits_andNot_u64 wrap_u64 bv_add bv_neg bv_sub bv_mul
set_option maxRecDepth 100000
theorem rzero_any (a : BitVec 64) (w : World) :
  Calls Tryz.prog 73 #[.int .u64 (n64 a)] w fun e w' => e = .returned (.int .u64 (n64 (zeM a))) ∧ w = w' := by
 by_cases h : a.toNat = 0
 ·have HF := hID (show (18446744073709551615 : Int) = n64 (zeM a) by unfold zeM; rw [decide_eq_true h]; rfl)
  have hq : (n64 a == 0) = true := by rw [beq_iff_eq]; unfold n64; omega
  go_enter Tryz.func73, Tryz.ntmps73
  go_wp2
  go_ret
  exact ⟨ret_int HF.out, rfl⟩
 ·have HF := hID (show (0 : Int) = n64 (zeM a) by unfold zeM; rw [decide_eq_false h]; rfl)
  have hq : (n64 a == 0) = false := by rw [beq_eq_false_iff_ne]; unfold n64; omega
  go_enter Tryz.func73, Tryz.ntmps73
  go_wp2
  go_ret
  exact ⟨ret_int HF.out, rfl⟩
theorem bv_ones : bv 18446744073709551615 = 18446744073709551615#64 := by decide
theorem ones_sub (m : BitVec 64) : 18446744073709551615#64 - m = ~~~ m := by
 apply BitVec.eq_of_toNat_eq
 rw [BitVec.toNat_sub, BitVec.toNat_not]
 have := m.isLt
 show (2 ^ 64 - m.toNat + 18446744073709551615) % 2 ^ 64 = _
 omega
theorem select_eq (m a b : BitVec 64) : (m &&& a) ||| (~~~ m &&& b) = selM m a b := by
 unfold selM
 ext i hi
 simp only [BitVec.getElem_or, BitVec.getElem_and, BitVec.getElem_not, BitVec.getElem_xor]
 cases m[i] <;> cases a[i] <;> cases b[i] <;> rfl
theorem rnot_any (a : BitVec 64) (w : World) :
  Calls Tryz.prog 72 #[.int .u64 (n64 a)] w fun e w' => e = .returned (.int .u64 (n64 (~~~ a))) ∧ w = w' := by
 go_enter Tryz.func72, Tryz.ntmps72
 go_wp2
 go_ret
 refine ⟨ret_int ?_, rfl⟩
 first | rw [bv_ones, ones_sub] | (unfold n64; rw [BitVec.toNat_not]; have := a.isLt; omega)
theorem rselect_any (m a b : BitVec 64) (w : World) :
  Calls Tryz.prog 71 #[.int .u64 (n64 m), .int .u64 (n64 a), .int .u64 (n64 b)] w fun e w' => e = .returned (.int .u64 (n64 (selM m a b))) ∧ w = w' := by
 go_enter Tryz.func71, Tryz.ntmps71
 go_wp2_with fail
 refine (rnot_any m w).mono ?_
 rintro e w' ⟨rfl, rfl⟩
 go_wp2
 go_ret
 exact ⟨ret_int (by rw [select_eq]), rfl⟩
theorem ris_any (m : BitVec 64) (w : World) :
  Calls Tryz.prog 68 #[.int .u64 (n64 m)] w fun e w' => e = .returned (.bool (isM m)) ∧ w = w' := by
 by_cases h : m = 0#64
 ·subst h
  have hq : (n64 0#64 == 0) = true := rfl
  have HF := hID (show isM 0#64 = true from rfl)
  go_enter Tryz.func68, Tryz.ntmps68
  go_wp2
  go_ret
  exact ⟨ret_bool (by rw [HF.out]), rfl⟩
 ·have hq : (n64 m == 0) = false := by
   rw [beq_eq_false_iff_ne]
   exact fun e => h (n64_inj e)
  have HF := hID (show (n64 m == 18446744073709551615) = isM m by
   rw [Bool.eq_iff_iff, beq_iff_eq]
   unfold isM
   simp only [Bool.or_eq_true, decide_eq_true_eq]
   constructor
   ·intro e; exact .inl (n64_inj e)
   ·rintro (e | e)
    ·rw [e]; rfl
    ·exact absurd e h)
  clear h
  go_enter Tryz.func68, Tryz.ntmps68
  go_wp2
  go_ret
  exact ⟨ret_bool HF.out, rfl⟩
end Go.Proofs.YtkflicifngohcaaGreatDoor
