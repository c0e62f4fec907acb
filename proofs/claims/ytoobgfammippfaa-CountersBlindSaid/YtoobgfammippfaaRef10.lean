/-
  dragnetref10.Sum, Rest, Next: the references return what the program's functions do.
-/
import Derived.Test.YtoobgfammippfaaSum
namespace Go.Proofs.Ytoobgfammippfaa
open Go.RowKit
attribute [local go_sem] bits_and_u64 bits_or_u64 bits_xor_u64 bits_andNot_u64 wrap_u64 bv_add bv_neg bv_sub bv_mul
set_option maxRecDepth 100000
theorem n64_def (a : BitVec 64) : n64 a = (a.toNat : Int) := rfl
set_option maxHeartbeats 1000000 in
theorem rsum_any (a b c : BitVec 64) (w : World) :
    Calls Try.prog 11 #[.int .u64 (n64 a), .int .u64 (n64 b), .int .u64 (n64 c)] w fun e w' => e = .returned (.int .u64 (n64 (sumM a b c))) ∧ w = w' := by
  have ha := a.isLt
  have hb := b.isLt
  have hc := c.isLt
  have HA := Lib.hid ha
  have HB := Lib.hid hb
  have HC := Lib.hid hc
  clear ha hb hc
  by_cases h1 : n64 c ≤ n64 a
  · have HF : Hid (n64 c = n64 (sumM a b c)) := Lib.hid (by unfold n64 at h1 ⊢; rw [sumM_toNat]; omega)
    go_enter Try.func11, Try.ntmps11
    go_wp2
    go_ret
    exact ⟨ret_int HF.out, rfl⟩
  by_cases h2 : n64 c ≤ n64 b
  · have HF : Hid (n64 c = n64 (sumM a b c)) := Lib.hid (by unfold n64 at h2 ⊢; rw [sumM_toNat]; omega)
    go_enter Try.func11, Try.ntmps11
    go_wp2
    go_ret
    exact ⟨ret_int HF.out, rfl⟩
  by_cases h3 : n64 (c - b) < n64 a
  · have HF : Hid (n64 c = n64 (sumM a b c)) := Lib.hid (by
      have := HA.out; have := HB.out; have := HC.out
      unfold n64 at h1 h2 h3 ⊢; rw [BitVec.toNat_sub] at h3; rw [sumM_toNat]; omega)
    go_enter Try.func11, Try.ntmps11
    go_wp2
    go_ret
    exact ⟨ret_int HF.out, rfl⟩
  · have HF : Hid (n64 (a + b) = n64 (sumM a b c)) := Lib.hid (by
      have := HA.out; have := HB.out; have := HC.out
      unfold n64 at h1 h2 h3 ⊢; rw [BitVec.toNat_sub] at h3; rw [sumM_toNat, BitVec.toNat_add]; omega)
    go_enter Try.func11, Try.ntmps11
    go_wp2
    go_ret
    exact ⟨ret_int HF.out, rfl⟩
theorem rrest_any (a b : BitVec 64) (w : World) :
    Calls Try.prog 13 #[.int .u64 (n64 a), .int .u64 (n64 b)] w fun e w' => e = .returned (.int .u64 (n64 (restM a b))) ∧ w = w' := by
  by_cases h1 : n64 a ≤ n64 b
  · have HF : Hid ((0 : Int) = n64 (restM a b)) := Lib.hid (by unfold n64 at h1 ⊢; rw [restM_toNat]; omega)
    go_enter Try.func13, Try.ntmps13
    go_wp2
    go_ret
    exact ⟨ret_int HF.out, rfl⟩
  · have HF : Hid (n64 (a - b) = n64 (restM a b)) := Lib.hid (by have := a.isLt; have := b.isLt; unfold n64 at h1 ⊢; rw [restM_toNat, BitVec.toNat_sub]; omega)
    go_enter Try.func13, Try.ntmps13
    go_wp2
    go_ret
    exact ⟨ret_int HF.out, rfl⟩
theorem n64_mod2 (m : BitVec 64) : n64 m % 2 = n64 (m &&& 1#64) := by unfold n64; rw [and_one]; omega
theorem rnext_any (a m c : BitVec 64) (w : World) :
    Calls Try.prog 15 #[.int .u64 (n64 a), .int .u64 (n64 m), .int .u64 (n64 c)] w fun e w' => e = .returned (.int .u64 (n64 (sumM a (m &&& 1#64) c))) ∧ w = w' := by
  have h0 := n64_nonneg m
  go_enter Try.func15, Try.ntmps15
  go_wp2_with fail
  rw [n64_mod2]
  refine (rsum_any a _ c w).mono ?_
  rintro e w' ⟨rfl, rfl⟩
  go_wp2
  go_ret
  exact ⟨rfl, rfl⟩
end Go.Proofs.Ytoobgfammippfaa
