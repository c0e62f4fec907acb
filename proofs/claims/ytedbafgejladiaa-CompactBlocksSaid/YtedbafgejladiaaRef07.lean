import Derived.Test.YtedbafgejladiaaRows
import Derived.Test.YtedbafgejladiaaWords
import Derived.Test.YtedbafgejladiaaMem
import Derived.WalkLawsBesides
/-
  masks.Of, masks.Is, masks.Select, compare.Less: their contracts.
-/
namespace Go.Proofs.Ytedbafgejladiaa
open Go.RowKit
attribute [local go_sem] bits_and_u64 bits_or_u64 bits_xor_u64 bits_andNot_u64 wrap_u64 bv_add bv_neg bv_sub bv_mul
set_option maxRecDepth 100000
theorem spread_any (a : BitVec 64) (w : World) :
    Calls Try.prog 77 #[.int .u64 (n64 a)] w fun e w' => e = .returned (.int .u64 (n64 (ofM a))) ∧ w = w' := by
  go_enter Try.func77, Try.ntmps77
  go_wp2
  go_ret
  exact ⟨ret_int (by rw [bv_one, of_eq]), rfl⟩
theorem of_any (a : BitVec 64) (w : World) :
    Calls Try.prog 89 #[.int .u64 (n64 a)] w fun e w' => e = .returned (.int .u64 (n64 (ofM a))) ∧ w = w' := by
  go_enter Try.func89, Try.ntmps89
  go_wp2_with fail
  refine (spread_any a w).mono ?_
  rintro e w' ⟨rfl, rfl⟩
  go_wp2
  go_ret
  exact ⟨rfl, rfl⟩
theorem is_any (a : BitVec 64) (w : World) :
    Calls Try.prog 74 #[.int .u64 (n64 a)] w fun e w' => e = .returned (.bool (isM a)) ∧ w = w' := by
  have HI := Lib.hid (show (n64 a == n64 (ofM a)) = isM a from by rw [isM_iff, n64_beq, Bool.eq_iff_iff]; simp)
  go_enter Try.func74, Try.ntmps74
  go_wp2_with fail
  refine (of_any a w).mono ?_
  rintro e w' ⟨rfl, rfl⟩
  go_wp2
  go_ret
  exact ⟨ret_bool HI.out, rfl⟩
theorem select_any (m a b : BitVec 64) (w : World) :
    Calls Try.prog 93 #[.int .u64 (n64 m), .int .u64 (n64 a), .int .u64 (n64 b)] w fun e w' => e = .returned (.int .u64 (n64 (selM m a b))) ∧ w = w' := by
  go_enter Try.func93, Try.ntmps93
  go_wp2
  go_ret
  exact ⟨rfl, rfl⟩
theorem borrow_any (a b : BitVec 64) (w : World) :
    Calls Try.prog 91 #[.int .u64 (n64 a), .int .u64 (n64 b)] w fun e w' => e = .returned (.int .u64 (n64 ((~~~ a &&& b) ||| ((~~~ a ||| b) &&& (a - b))))) ∧ w = w' := by
  go_enter Try.func91, Try.ntmps91
  go_wp2
  go_ret
  exact ⟨ret_int (by rw [bv_max, inv_eq]), rfl⟩
theorem order_less (a b : BitVec 64) (w : World) :
    Calls Try.prog 90 #[.func (.func 91) #[] #[], .int .u64 (n64 a), .int .u64 (n64 b)] w fun e w' => e = .returned (.int .u64 (n64 (ltM a b))) ∧ w = w' := by
  go_enter Try.func90, Try.ntmps90
  go_wp2_with fail
  refine (borrow_any a b w).mono ?_
  rintro e w' ⟨rfl, rfl⟩
  go_wp2_with fail
  rw [n64_shr63]
  refine (of_any _ w).mono ?_
  rintro e w' ⟨rfl, rfl⟩
  go_wp2
  go_ret
  exact ⟨ret_int (by rw [borrow_shr]), rfl⟩
theorem less_any (a b : BitVec 64) (w : World) :
    Calls Try.prog 69 #[.int .u64 (n64 a), .int .u64 (n64 b)] w fun e w' => e = .returned (.int .u64 (n64 (ltM a b))) ∧ w = w' := by
  go_enter Try.func69, Try.ntmps69
  go_wp2_with fail
  refine (order_less a b w).mono ?_
  rintro e w' ⟨rfl, rfl⟩
  go_wp2
  go_ret
  exact ⟨rfl, rfl⟩
end Go.Proofs.Ytedbafgejladiaa

/-
  counters.Sum, Rest, Next and their references.
-/
namespace Go.Proofs.Ytedbafgejladiaa
open Go.RowKit
attribute [local go_sem] bits_and_u64 bits_or_u64 bits_xor_u64 bits_andNot_u64 wrap_u64 bv_add bv_neg bv_sub bv_mul
set_option maxRecDepth 100000

/-- A sum that is at most most. -/
def sumM (a b most : BitVec 64) : BitVec 64 := BitVec.ofNat 64 (min (a.toNat + b.toNat) most.toNat)
/-- A difference, or 0. -/
def restM (a b : BitVec 64) : BitVec 64 := BitVec.ofNat 64 (a.toNat - b.toNat)
theorem sumM_toNat (a b most : BitVec 64) : (sumM a b most).toNat = min (a.toNat + b.toNat) most.toNat := by
  unfold sumM
  have := most.isLt
  rw [BitVec.toNat_ofNat, Nat.mod_eq_of_lt (by omega)]
theorem restM_toNat (a b : BitVec 64) : (restM a b).toNat = a.toNat - b.toNat := by
  unfold restM
  have := a.isLt
  rw [BitVec.toNat_ofNat, Nat.mod_eq_of_lt (by omega)]
theorem sum_eq (a b most : BitVec 64) : selM (ltM (a + b) a ||| ltM most (a + b)) most (a + b) = sumM a b most := by
  unfold ltM
  rw [msk_or, sel_msk]
  have h1 := a.isLt
  have h2 := b.isLt
  have h3 := most.isLt
  apply BitVec.eq_of_toNat_eq
  rw [sumM_toNat, BitVec.toNat_add]
  by_cases hc : (a.toNat + b.toNat) % 2 ^ 64 < a.toNat
  · rw [decide_eq_true hc]
    show most.toNat = _
    omega
  · rw [decide_eq_false hc, Bool.false_or]
    by_cases hd : most.toNat < (a.toNat + b.toNat) % 2 ^ 64
    · rw [decide_eq_true hd]
      show most.toNat = _
      omega
    · rw [decide_eq_false hd]
      show (a + b).toNat = _
      rw [BitVec.toNat_add]
      omega
theorem rest_eq (a b : BitVec 64) : (a - b) &&& ~~~ ltM a b = restM a b := by
  unfold ltM
  rw [msk_not]
  have h1 := a.isLt
  have h2 := b.isLt
  apply BitVec.eq_of_toNat_eq
  rw [restM_toNat]
  by_cases hc : a.toNat < b.toNat
  · rw [decide_eq_true hc]
    show ((a - b) &&& 0#64).toNat = _
    rw [BitVec.and_zero]
    show 0 = _
    omega
  · rw [decide_eq_false hc]
    show ((a - b) &&& msk true).toNat = _
    rw [msk_true, BitVec.and_allOnes, BitVec.toNat_sub]
    omega

theorem plus_any (a b : BitVec 64) (w : World) :
    Calls Try.prog 92 #[.int .u64 (n64 a), .int .u64 (n64 b)] w fun e w' => e = .returned (.tuple #[.int .u64 (n64 (a + b)), .int .u64 (n64 (ltM (a + b) a))]) ∧ w = w' := by
  go_enter Try.func92, Try.ntmps92
  go_wp2_with fail
  refine (less_any (a + b) a w).mono ?_
  rintro e w' ⟨rfl, rfl⟩
  go_wp2
  go_ret2
  exact ⟨rfl, rfl⟩
theorem sum_any (a b c : BitVec 64) (w : World) :
    Calls Try.prog 73 #[.int .u64 (n64 a), .int .u64 (n64 b), .int .u64 (n64 c)] w fun e w' => e = .returned (.int .u64 (n64 (sumM a b c))) ∧ w = w' := by
  go_enter Try.func73, Try.ntmps73
  go_wp2_with fail
  refine (plus_any a b w).mono ?_
  rintro e w' ⟨rfl, rfl⟩
  go_wp2_with fail
  refine (less_any c (a + b) w).mono ?_
  rintro e w' ⟨rfl, rfl⟩
  go_wp2_with fail
  refine (select_any _ c (a + b) w).mono ?_
  rintro e w' ⟨rfl, rfl⟩
  go_wp2
  go_ret
  exact ⟨ret_int (by rw [sum_eq]), rfl⟩
end Go.Proofs.Ytedbafgejladiaa

/-
  masks.Zero; minimum and maximum of words.
-/
namespace Go.Proofs.Ytedbafgejladiaa
open Go.RowKit
attribute [local go_sem] bits_and_u64 bits_or_u64 bits_xor_u64 bits_andNot_u64 wrap_u64 bv_add bv_neg bv_sub bv_mul
set_option linter.unusedVariables false
set_option maxRecDepth 100000
theorem zero_eq (x : BitVec 64) : ~~~ (ofM ((x ||| -x) >>> 63)) = zeM x := by
  rw [shr63, zero_shr]
  unfold zeM ofM
  by_cases h : x.toNat = 0
  · rw [decide_eq_true h]; rfl
  · rw [decide_eq_false h]; rfl
theorem top_any (a : BitVec 64) (w : World) :
    Calls Try.prog 76 #[.int .u64 (n64 a)] w fun e w' => e = .returned (.int .u64 (n64 (a >>> 63))) ∧ w = w' := by
  go_enter Try.func76, Try.ntmps76
  go_wp2
  go_ret
  exact ⟨ret_int (by rw [n64_shr63]), rfl⟩
theorem zero_any (a : BitVec 64) (w : World) :
    Calls Try.prog 41 #[.int .u64 (n64 a)] w fun e w' => e = .returned (.int .u64 (n64 (zeM a))) ∧ w = w' := by
  go_enter Try.func41, Try.ntmps41
  go_wp2_with fail
  refine (top_any _ w).mono ?_
  rintro e w' ⟨rfl, rfl⟩
  go_wp2_with fail
  refine (spread_any _ w).mono ?_
  rintro e w' ⟨rfl, rfl⟩
  go_wp2
  go_ret
  exact ⟨ret_int (by rw [bv_max, inv_eq, zero_eq]), rfl⟩
def maxM (a b : BitVec 64) : BitVec 64 := BitVec.ofNat 64 (max a.toNat b.toNat)
def minM (a b : BitVec 64) : BitVec 64 := BitVec.ofNat 64 (min a.toNat b.toNat)
theorem maxM_toNat (a b : BitVec 64) : (maxM a b).toNat = max a.toNat b.toNat := by
  unfold maxM; have := a.isLt; have := b.isLt; rw [BitVec.toNat_ofNat, Nat.mod_eq_of_lt (by omega)]
theorem minM_toNat (a b : BitVec 64) : (minM a b).toNat = min a.toNat b.toNat := by
  unfold minM; have := a.isLt; have := b.isLt; rw [BitVec.toNat_ofNat, Nat.mod_eq_of_lt (by omega)]
theorem n64_max (a b : BitVec 64) : max (n64 a) (n64 b) = n64 (maxM a b) := by unfold n64; rw [maxM_toNat]; omega
theorem n64_min (a b : BitVec 64) : min (n64 a) (n64 b) = n64 (minM a b) := by unfold n64; rw [minM_toNat]; omega
theorem run_max_u64 {P : Program} {w : World} (ts : Array TypeId) (t : TypeId) (a b : BitVec 64) : (Builtin.max_ ts t #[.int .u64 (n64 a), .int .u64 (n64 b)]).run P w = .ok (.int .u64 (n64 (maxM a b))) w := by
  rw [run_max_int2]
  congr 2
  rw [← n64_max]
  split <;> omega
theorem run_min_u64 {P : Program} {w : World} (ts : Array TypeId) (t : TypeId) (a b : BitVec 64) : (Builtin.min_ ts t #[.int .u64 (n64 a), .int .u64 (n64 b)]).run P w = .ok (.int .u64 (n64 (minM a b))) w := by
  rw [run_min_int2]
  congr 2
  rw [← n64_min]
  split <;> omega
end Go.Proofs.Ytedbafgejladiaa

/-
  dragnetref07.Of, Zero, Not, Select, Is: the references return what the program's functions do.
-/
namespace Go.Proofs.Ytedbafgejladiaa
open Go.RowKit
attribute [local go_sem] bits_and_u64 bits_or_u64 bits_xor_u64 bits_andNot_u64 wrap_u64 bv_add bv_neg bv_sub bv_mul
set_option maxRecDepth 100000
theorem bv_ones : bv 18446744073709551615 = 18446744073709551615#64 := by decide
theorem ones_sub (m : BitVec 64) : 18446744073709551615#64 - m = ~~~ m := by
  apply BitVec.eq_of_toNat_eq
  rw [BitVec.toNat_sub, BitVec.toNat_not]
  have := m.isLt
  show (2 ^ 64 - m.toNat + 18446744073709551615) % 2 ^ 64 = _
  omega
theorem select_eq (m a b : BitVec 64) : (m &&& a) ||| (~~~ m &&& b) = selM m a b := by
  unfold selM
  ext i hi
  simp only [BitVec.getElem_or, BitVec.getElem_and, BitVec.getElem_not, BitVec.getElem_xor]
  cases m[i] <;> cases a[i] <;> cases b[i] <;> rfl
end Go.Proofs.Ytedbafgejladiaa

