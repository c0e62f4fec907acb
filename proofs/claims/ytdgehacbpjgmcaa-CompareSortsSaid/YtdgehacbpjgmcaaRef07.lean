/-
  dragnetref07.Of, Zero, Not, Select, Is: the references return what the program's functions do.
-/
import Derived.Test.YtdgehacbpjgmcaaMasks
namespace Go.Proofs.Ytdgehacbpjgmcaa
open Go.RowKit
attribute [local go_sem] bits_and_u64 bits_or_u64 bits_xor_u64 bits_andNot_u64 wrap_u64 bv_add bv_neg bv_sub bv_mul
set_option maxRecDepth 100000
theorem rof_any (a : BitVec 64) (w : World) :
    Calls Try.prog 40 #[.int .u64 (n64 a)] w fun e w' => e = .returned (.int .u64 (n64 (ofM a))) ∧ w = w' := by
  have h0 := n64_nonneg a
  by_cases h : a.toNat % 2 = 1
  · have HF := Lib.hid (show (18446744073709551615 : Int) = n64 (ofM a) by unfold ofM; rw [decide_eq_true h]; rfl)
    have hq : (n64 a % 2 == 1) = true := by rw [beq_iff_eq]; unfold n64; omega
    go_enter Try.func40, Try.ntmps40
    go_wp2
    go_ret
    exact ⟨ret_int HF.out, rfl⟩
  · have HF := Lib.hid (show (0 : Int) = n64 (ofM a) by unfold ofM; rw [decide_eq_false h]; rfl)
    have hq : (n64 a % 2 == 1) = false := by rw [beq_eq_false_iff_ne]; unfold n64; omega
    go_enter Try.func40, Try.ntmps40
    go_wp2
    go_ret
    exact ⟨ret_int HF.out, rfl⟩
theorem bv_ones : bv 18446744073709551615 = 18446744073709551615#64 := by decide
theorem ones_sub (m : BitVec 64) : 18446744073709551615#64 - m = ~~~ m := by
  apply BitVec.eq_of_toNat_eq
  rw [BitVec.toNat_sub, BitVec.toNat_not]
  have := m.isLt
  show (2 ^ 64 - m.toNat + 18446744073709551615) % 2 ^ 64 = _
  omega
theorem select_eq (m a b : BitVec 64) : (m &&& a) ||| (~~~ m &&& b) = selM m a b := by
  unfold selM
  ext i hi
  simp only [BitVec.getElem_or, BitVec.getElem_and, BitVec.getElem_not, BitVec.getElem_xor]
  cases m[i] <;> cases a[i] <;> cases b[i] <;> rfl
theorem rnot_any (a : BitVec 64) (w : World) :
    Calls Try.prog 92 #[.int .u64 (n64 a)] w fun e w' => e = .returned (.int .u64 (n64 (~~~ a))) ∧ w = w' := by
  go_enter Try.func92, Try.ntmps92
  go_wp2
  go_ret
  refine ⟨ret_int ?_, rfl⟩
  first | rw [bv_ones, ones_sub] | (unfold n64; rw [BitVec.toNat_not]; have := a.isLt; omega)
theorem rselect_any (m a b : BitVec 64) (w : World) :
    Calls Try.prog 91 #[.int .u64 (n64 m), .int .u64 (n64 a), .int .u64 (n64 b)] w fun e w' => e = .returned (.int .u64 (n64 (selM m a b))) ∧ w = w' := by
  go_enter Try.func91, Try.ntmps91
  go_wp2_with fail
  refine (rnot_any m w).mono ?_
  rintro e w' ⟨rfl, rfl⟩
  go_wp2
  go_ret
  exact ⟨ret_int (by rw [select_eq]), rfl⟩
theorem ris_any (m : BitVec 64) (w : World) :
    Calls Try.prog 89 #[.int .u64 (n64 m)] w fun e w' => e = .returned (.bool (isM m)) ∧ w = w' := by
  by_cases h : m = 0#64
  · subst h
    have hq : (n64 0#64 == 0) = true := rfl
    have HF := Lib.hid (show isM 0#64 = true from rfl)
    go_enter Try.func89, Try.ntmps89
    go_wp2
    go_ret
    exact ⟨ret_bool (by rw [HF.out]), rfl⟩
  · have hq : (n64 m == 0) = false := by
      rw [beq_eq_false_iff_ne]
      exact fun e => h (n64_inj e)
    have HF := Lib.hid (show (n64 m == 18446744073709551615) = isM m by
      rw [Bool.eq_iff_iff, beq_iff_eq]
      unfold isM
      simp only [Bool.or_eq_true, decide_eq_true_eq]
      constructor
      · intro e; exact .inl (n64_inj e)
      · rintro (e | e)
        · rw [e]; rfl
        · exact absurd e h)
    clear h
    go_enter Try.func89, Try.ntmps89
    go_wp2
    go_ret
    exact ⟨ret_bool HF.out, rfl⟩
end Go.Proofs.Ytdgehacbpjgmcaa
