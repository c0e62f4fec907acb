/-
  dragnetref23.asked and Ranks over the specification's arena.
-/
import Derived.Test.YtlbahocncbmjnaaPrefTop
import Derived.Test.YtlbahocncbmjnaaRef07
import Derived.Test.YtlbahocncbmjnaaPair
namespace Go.Proofs.Ytlbahocncbmjnaa
open Go.RowKit
attribute [local go_sem] bits_and_u64 bits_or_u64 bits_xor_u64 bits_andNot_u64 wrap_u64 bv_add bv_neg bv_sub bv_mul
set_option linter.unusedVariables false
set_option maxRecDepth 100000
attribute [local go_sem] bv_one
theorem n64_mod2 (m : BitVec 64) : n64 m % 2 = n64 (m &&& 1#64) := by unfold n64; rw [and_one]; omega
theorem ofM_one (v : BitVec 64) : ofM v &&& 1#64 = v &&& 1#64 := by
  apply BitVec.eq_of_toNat_eq
  rw [and_one, and_one]
  unfold ofM
  by_cases h : v.toNat % 2 = 1
  · rw [decide_eq_true h, h]; rfl
  · have : v.toNat % 2 = 0 := by omega
    rw [decide_eq_false h, this]; rfl
theorem odd_of {v : BitVec 64} (h : v.toNat % 2 = 1) : ofM v = msk true ∧ v &&& 1#64 = 1#64 ∧ (n64 (v &&& 1#64) == 1) = true := by
  have h1 : v &&& 1#64 = 1#64 := by apply BitVec.eq_of_toNat_eq; rw [and_one, h]; rfl
  refine ⟨by unfold ofM; rw [decide_eq_true h], h1, by rw [h1]; rfl⟩
theorem even_of {v : BitVec 64} (h : ¬ v.toNat % 2 = 1) : ofM v = msk false ∧ v &&& 1#64 = 0#64 ∧ (n64 (v &&& 1#64) == 1) = false := by
  have h1 : v &&& 1#64 = 0#64 := by apply BitVec.eq_of_toNat_eq; rw [and_one, show v.toNat % 2 = 0 by omega]; rfl
  refine ⟨by unfold ofM; rw [decide_eq_false h], h1, by rw [h1]; rfl⟩
theorem msk_true_and (x : BitVec 64) : msk true &&& x = x := by rw [msk_true, BitVec.allOnes_and]
theorem msk_false_and (x : BitVec 64) : msk false &&& x = 0#64 := by rw [msk_false, BitVec.zero_and]
section
variable {w : World} {F : Nat → Prop} {r : Nat} {C : List (BitVec 64)} {E : List Ev}
set_option maxHeartbeats 2000000 in
theorem pasked_any (h : Rf w F r C E) (base n out : Int) (s : Nat) (hs : s ≤ 3) :
    Calls Try.prog 52 #[.pointer (some ⟨r, 0, none⟩), .int .i64 base, .int .i64 n, .int .i64 out, .int .i64 (s : Int)] w fun e w' => e = .returned (.int .i64 (pkE C.length E.length base n out s)) ∧ w = w' := by
  have h2 := h.n2
  have H := Lib.hid h
  clear h
  by_cases n1 : n < 1
  · have HF := Lib.hid (show pkE C.length E.length base n out s = 7 by unfold pkE; rw [if_pos (.inl n1)])
    go_enter Try.func52, Try.ntmps52
    go_wp2_with fail
    go_ret
    exact ⟨by rw [HF.out]; rfl, rfl⟩
  by_cases n2 : 288 < n
  · have HF := Lib.hid (show pkE C.length E.length base n out s = 7 by unfold pkE; rw [if_pos (.inr n2)])
    go_enter Try.func52, Try.ntmps52
    go_wp2_with fail
    go_ret
    exact ⟨by rw [HF.out]; rfl, rfl⟩
  have hn : ¬ (n < 1 ∨ 288 < n) := by omega
  by_cases hb : hasE C.length base (3 * n) = 0
  · have HB := Lib.hid hb
    by_cases ho : hasE C.length out n = 0
    · have HO := Lib.hid ho
      have g1 : 0 ≤ base ∧ base + 3 * n ≤ C.length := by unfold hasE at hb; split at hb; cases hb; omega
      have g2 : 0 ≤ out ∧ out + n ≤ C.length := by unfold hasE at ho; split at ho; cases ho; omega
      obtain ⟨g1, g3⟩ := g1
      obtain ⟨g2, g4⟩ := g2
      by_cases hv : out < base + 3 * n ∧ base < out + n
      · have HF := Lib.hid (show pkE C.length E.length base n out s = 2 by unfold pkE; rw [if_neg hn, if_pos hb, if_pos ho, if_pos hv])
        obtain ⟨v1, v2⟩ := hv
        clear hb ho hn
        go_enter Try.func52, Try.ntmps52
        go_wp2_with fail
        refine Calls.mono (R := fun e w' => e = .returned (.int .i64 0) ∧ w = w') (by have := rhas_any H.out base (3 * n); rwa [HB.out] at this) ?_
        rintro e w' ⟨rfl, rfl⟩
        go_wp2_with fail
        refine Calls.mono (R := fun e w' => e = .returned (.int .i64 0) ∧ w = w') (by have := rhas_any H.out out n; rwa [HO.out] at this) ?_
        rintro e w' ⟨rfl, rfl⟩
        go_wp2_with fail
        go_ret
        exact ⟨by rw [HF.out]; rfl, rfl⟩
      · have HF := Lib.hid (show pkE C.length E.length base n out s = roomE E.length ((s : Int) * n) by unfold pkE; rw [if_neg hn, if_pos hb, if_pos ho, if_neg hv])
        have hxy : ¬ out < base + 3 * n ∨ (out < base + 3 * n ∧ ¬ base < out + n) := by omega
        have m1 : 0 ≤ (s : Int) * n := Int.mul_nonneg (by omega) (by omega)
        have m2 : (s : Int) * n ≤ 3 * n := Int.mul_le_mul_of_nonneg_right (by omega) (by omega)
        clear hb ho hn hv
        rcases hxy with hxy | ⟨hxy, hyx⟩
        all_goals
          go_enter Try.func52, Try.ntmps52
          go_wp2_with fail
          refine Calls.mono (R := fun e w' => e = .returned (.int .i64 0) ∧ w = w') (by have := rhas_any H.out base (3 * n); rwa [HB.out] at this) ?_
          rintro e w' ⟨rfl, rfl⟩
          go_wp2_with fail
          refine Calls.mono (R := fun e w' => e = .returned (.int .i64 0) ∧ w = w') (by have := rhas_any H.out out n; rwa [HO.out] at this) ?_
          rintro e w' ⟨rfl, rfl⟩
          go_wp2_with fail
          refine (rroom_any H.out ((s : Int) * n)).mono ?_
          rintro e w' ⟨rfl, rfl⟩
          go_wp2_with fail
          go_ret
          exact ⟨by rw [HF.out]; rfl, rfl⟩
    · have HF := Lib.hid (show pkE C.length E.length base n out s = hasE C.length out n by unfold pkE; rw [if_neg hn, if_pos hb, if_neg ho])
      have hq : (hasE C.length out n == 0) = false := by rw [beq_eq_false_iff_ne]; exact ho
      clear hb ho hn
      go_enter Try.func52, Try.ntmps52
      go_wp2_with fail
      refine Calls.mono (R := fun e w' => e = .returned (.int .i64 0) ∧ w = w') (by have := rhas_any H.out base (3 * n); rwa [HB.out] at this) ?_
      rintro e w' ⟨rfl, rfl⟩
      go_wp2_with fail
      refine (rhas_any H.out out n).mono ?_
      rintro e w' ⟨rfl, rfl⟩
      go_wp2_with fail
      go_ret
      exact ⟨by rw [HF.out]; rfl, rfl⟩
  · have HF := Lib.hid (show pkE C.length E.length base n out s = hasE C.length base (3 * n) by unfold pkE; rw [if_neg hn, if_neg hb])
    have hq : (hasE C.length base (3 * n) == 0) = false := by rw [beq_eq_false_iff_ne]; exact hb
    clear hb hn
    go_enter Try.func52, Try.ntmps52
    go_wp2_with fail
    refine (rhas_any H.out base (3 * n)).mono ?_
    rintro e w' ⟨rfl, rfl⟩
    go_wp2_with fail
    go_ret
    exact ⟨by rw [HF.out]; rfl, rfl⟩
def RVePost (w : World) (F : Nat → Prop) (p : Nat) (r : (BitVec 64 × Int) × (List (BitVec 64) × List Ev)) (e : Ending) (w' : World) : Prop :=
  e = .returned (.tuple #[.int .u64 (n64 r.1.1), .int .i64 r.1.2]) ∧ RfTo w F p r.2.1 r.2.2 w'
attribute [local go_sem] n64_mod2
set_option maxHeartbeats 4000000 in
theorem rranks_any (h : Rf w F r C E) (base n out : Int) :
    Calls Try.prog 38 #[.pointer (some ⟨r, 0, none⟩), .int .i64 base, .int .i64 n, .int .i64 out] w (RVePost w F r (prR C E base n out 2 rkF)) := by
  have H := Lib.hid h
  have hn2 := h.n2
  by_cases hz : pkE C.length E.length base n out ((2 : Nat) : Int) = 0
  · obtain ⟨g1, g2, g3, g4, g5, g6, _, g8⟩ := pkE_zero hz
    obtain ⟨base, rfl⟩ := Int.eq_ofNat_of_zero_le g3
    obtain ⟨out, rfl⟩ := Int.eq_ofNat_of_zero_le g5
    obtain ⟨n, rfl⟩ := Int.eq_ofNat_of_zero_le (show 0 ≤ n by omega)
    have HR := Lib.hid (show prR C E (base : Int) (n : Int) (out : Int) 2 rkF = (((repS (rkF base out) (C, E, 0#64) n).2.2, 0), ((repS (rkF base out) (C, E, 0#64) n).1, (repS (rkF base out) (C, E, 0#64) n).2.1)) from by unfold prR; rw [if_pos hz]; rfl)
    have HK := Lib.hid (pasked_any h base n out 2 (by decide))
    have HZ := Lib.hid hz
    have G4 := Lib.hid (show base + 3 * n ≤ C.length by omega)
    have G6 := Lib.hid (show out + n ≤ C.length by omega)
    have G8 := Lib.hid (show E.length + 2 * n ≤ 8388608 by omega)
    have n1 : 1 ≤ n := by omega
    have n2 : n ≤ 288 := by omega
    have x1 : base ≤ 65536 := by omega
    have x2 : out ≤ 65536 := by omega
    have HL := Lib.hid (fun i => repS_len (rkF base out) 2 (rkF_len base out) (C, E, 0#64) i)
    clear h hz g1 g2 g3 g4 g5 g6 g8
    go_enter Try.func38, Try.ntmps38
    go_wp2_with fail
    refine Calls.mono (R := fun e w' => e = .returned (.int .i64 0) ∧ w = w') (by have := HK.out; rwa [HZ.out] at this) ?_
    rintro e w' ⟨rfl, rfl⟩
    go_wp2_with fail
    go_loopw [11, 12] (fun m i wr => ∃ j : Nat, j ≤ n ∧ i = .int .i64 j ∧ m = .int .u64 (n64 (repS (rkF base out) (C, E, 0#64) j).2.2) ∧ RfTo w F r (repS (rkF base out) (C, E, 0#64) j).1 (repS (rkF base out) (C, E, 0#64) j).2.1 wr) (fun _ i _ => n - (intOf i).toNat)
    case atStart => exact ⟨0, Nat.zero_le _, rfl, rfl, RfTo.refl H.out⟩
    case round =>
      obtain ⟨j, hj, rfl, rfl, hrel⟩ := hrel
      have HRL := Lib.hid hrel
      clear hrel
      by_cases hlt : j < n
      · obtain ⟨l1, l2⟩ := HL.out j
        have L1 : Hid ((repS (rkF base out) (C, E, 0#64) j).1.length = C.length) := Lib.hid l1
        have L2 : Hid ((repS (rkF base out) (C, E, 0#64) j).2.1.length = E.length + 2 * j) := Lib.hid l2
        have HRS := Lib.hid (repS_succ (rkF base out) (C, E, 0#64) j)
        clear l1 l2
        revert HRL L1 L2 HRS
        generalize (repS (rkF base out) (C, E, 0#64) j) = q
        obtain ⟨D, E1, many⟩ := q
        intro HRL L1 L2 HRS
        have L1' : D.length = C.length := L1.out
        have L2' : E1.length = E.length + 2 * j := L2.out
        have LD := Lib.hid L1'
        have LE := Lib.hid L2'
        have hA : base + 3 * j < D.length := by have := G4.out; omega
        have hB : out + j < D.length := by have := G6.out; omega
        have HA := Lib.hid hA
        have HB := Lib.hid hB
        clear L1' L2' L1 L2 hA hB
        have hnn := n64_nonneg (cl D (base + 3 * j))
        go_wp2_with fail
        refine (rload_ok HRL.out.1 ((base : Int) + 3 * (j : Int)) (by omega) (by have := HA.out; show _ < (D.length : Int); omega) (by have := LE.out; have := G8.out; show E1.length < _; omega)).mono ?_
        rintro e u1 ⟨rfl, h1⟩
        rw [show ((base : Int) + 3 * (j : Int)).toNat = base + 3 * j by omega] at h1
        rw [show ((base : Int) + 3 * (j : Int)).toNat = base + 3 * j by omega]
        have H1 := Lib.hid (HRL.out.trans h1)
        clear h1
        go_wp2_with fail
        refine (rstore_ok H1.out.1 ((out : Int) + (j : Int)) (many) (by omega) (by have := HB.out; show _ < (D.length : Int); omega) (by have := LE.out; have := G8.out; simp; omega)).mono ?_
        rintro e u3 ⟨rfl, h3⟩
        rw [show ((out : Int) + (j : Int)).toNat = out + j by omega] at h3
        have H3 := Lib.hid (H1.out.trans h3)
        clear h3 H1
        go_wp2_with fail
        go_roundw
        case rel =>
          have h9 := H3.out
          simp only [List.append_assoc, List.cons_append, List.nil_append] at h9
          refine ⟨j + 1, by omega, by go_num, ?_, ?_⟩
          · rw [HRS.out]; unfold rkF; rw [ofM_one]
          · rw [HRS.out]; unfold rkF; exact h9
        case measure => simp [intOf]; omega
      · obtain rfl : n = j := by omega
        go_wp2_with fail
        go_ret2
        rw [HR.out]
        exact ⟨rfl, HRL.out⟩
  · have HR := Lib.hid (show prR C E base n out 2 rkF = ((0#64, pkE C.length E.length base n out ((2 : Nat) : Int)), (C, E)) from by unfold prR; rw [if_neg hz])
    have HK := Lib.hid (pasked_any h base n out 2 (by decide))
    have hq : (pkE C.length E.length base n out ((2 : Nat) : Int) != 0) = true := by rw [bne_iff_ne]; exact hz
    have hq2 : (pkE C.length E.length base n out ((2 : Nat) : Int) == 0) = false := by rw [beq_eq_false_iff_ne]; exact hz
    revert HR HK hq hq2
    generalize pkE C.length E.length base n out ((2 : Nat) : Int) = c
    intro HR HK hq hq2
    clear h hz
    go_enter Try.func38, Try.ntmps38
    go_wp2_with fail
    refine HK.out.mono ?_
    rintro e w' ⟨rfl, rfl⟩
    go_wp2_with fail
    go_ret2
    rw [HR.out]
    exact ⟨rfl, RfTo.refl H.out⟩
end

end Go.Proofs.Ytlbahocncbmjnaa
