/-
  dragnetref23.Split and Distances over the specification's arena.
-/
import Derived.Test.YtlbahocncbmjnaaRef23a
namespace Go.Proofs.Ytlbahocncbmjnaa
open Go.RowKit
attribute [local go_sem] bits_and_u64 bits_or_u64 bits_xor_u64 bits_andNot_u64 wrap_u64 bv_add bv_neg bv_sub bv_mul
set_option linter.unusedVariables false
set_option maxRecDepth 100000
attribute [local go_sem] bv_one
section
variable {w : World} {F : Nat → Prop} {r : Nat} {C : List (BitVec 64)} {E : List Ev}
attribute [local go_sem] n64_mod2
set_option maxHeartbeats 4000000 in
theorem rsplit_any (h : Rf w F r C E) (base n out : Int) (k : BitVec 64) :
    Calls Try.prog 39 #[.pointer (some ⟨r, 0, none⟩), .int .i64 base, .int .i64 n, .int .i64 out, .int .u64 (n64 k)] w (RVePost w F r (prR C E base n out 3 (spF k))) := by
  have H := Lib.hid h
  have hn2 := h.n2
  by_cases hz : pkE C.length E.length base n out ((3 : Nat) : Int) = 0
  · obtain ⟨g1, g2, g3, g4, g5, g6, _, g8⟩ := pkE_zero hz
    obtain ⟨base, rfl⟩ := Int.eq_ofNat_of_zero_le g3
    obtain ⟨out, rfl⟩ := Int.eq_ofNat_of_zero_le g5
    obtain ⟨n, rfl⟩ := Int.eq_ofNat_of_zero_le (show 0 ≤ n by omega)
    have HR := Lib.hid (show prR C E (base : Int) (n : Int) (out : Int) 3 (spF k) = (((repS (spF k base out) (C, E, 0#64) n).2.2, 0), ((repS (spF k base out) (C, E, 0#64) n).1, (repS (spF k base out) (C, E, 0#64) n).2.1)) from by unfold prR; rw [if_pos hz]; rfl)
    have HK := Lib.hid (pasked_any h base n out 3 (by decide))
    have HZ := Lib.hid hz
    have G4 := Lib.hid (show base + 3 * n ≤ C.length by omega)
    have G6 := Lib.hid (show out + n ≤ C.length by omega)
    have G8 := Lib.hid (show E.length + 3 * n ≤ 8388608 by omega)
    have n1 : 1 ≤ n := by omega
    have n2 : n ≤ 288 := by omega
    have x1 : base ≤ 65536 := by omega
    have x2 : out ≤ 65536 := by omega
    have HL := Lib.hid (fun i => repS_len (spF k base out) 3 (spF_len k base out) (C, E, 0#64) i)
    clear h hz g1 g2 g3 g4 g5 g6 g8
    go_enter Try.func39, Try.ntmps39
    go_wp2_with fail
    refine Calls.mono (R := fun e w' => e = .returned (.int .i64 0) ∧ w = w') (by have := HK.out; rwa [HZ.out] at this) ?_
    rintro e w' ⟨rfl, rfl⟩
    go_wp2_with fail
    go_loopw [13, 14] (fun m i wr => ∃ j : Nat, j ≤ n ∧ i = .int .i64 j ∧ m = .int .u64 (n64 (repS (spF k base out) (C, E, 0#64) j).2.2) ∧ RfTo w F r (repS (spF k base out) (C, E, 0#64) j).1 (repS (spF k base out) (C, E, 0#64) j).2.1 wr) (fun _ i _ => n - (intOf i).toNat)
    case atStart => exact ⟨0, Nat.zero_le _, rfl, rfl, RfTo.refl H.out⟩
    case round =>
      obtain ⟨j, hj, rfl, rfl, hrel⟩ := hrel
      have HRL := Lib.hid hrel
      clear hrel
      by_cases hlt : j < n
      · obtain ⟨l1, l2⟩ := HL.out j
        have L1 : Hid ((repS (spF k base out) (C, E, 0#64) j).1.length = C.length) := Lib.hid l1
        have L2 : Hid ((repS (spF k base out) (C, E, 0#64) j).2.1.length = E.length + 3 * j) := Lib.hid l2
        have HRS := Lib.hid (repS_succ (spF k base out) (C, E, 0#64) j)
        clear l1 l2
        revert HRL L1 L2 HRS
        generalize (repS (spF k base out) (C, E, 0#64) j) = q
        obtain ⟨D, E1, many⟩ := q
        intro HRL L1 L2 HRS
        have L1' : D.length = C.length := L1.out
        have L2' : E1.length = E.length + 3 * j := L2.out
        have LD := Lib.hid L1'
        have LE := Lib.hid L2'
        have hA : base + 3 * j < D.length := by have := G4.out; omega
        have hB : out + j < D.length := by have := G6.out; omega
        have HA := Lib.hid hA
        have HB := Lib.hid hB
        clear L1' L2' L1 L2 hA hB
        have hnn := n64_nonneg (cl D (base + 3 * j))
        go_wp2_with fail
        refine (rload_ok HRL.out.1 ((base : Int) + 3 * (j : Int)) (by omega) (by have := HA.out; show _ < (D.length : Int); omega) (by have := LE.out; have := G8.out; show E1.length < _; omega)).mono ?_
        rintro e u1 ⟨rfl, h1⟩
        rw [show ((base : Int) + 3 * (j : Int)).toNat = base + 3 * j by omega] at h1
        rw [show ((base : Int) + 3 * (j : Int)).toNat = base + 3 * j by omega]
        have H1 := Lib.hid (HRL.out.trans h1)
        clear h1
        go_wp2_with fail
        refine (rload_ok H1.out.1 ((out : Int) + (j : Int)) (by omega) (by have := HB.out; show _ < (D.length : Int); omega) (by have := LE.out; have := G8.out; simp; omega)).mono ?_
        rintro e u2 ⟨rfl, h2⟩
        rw [show ((out : Int) + (j : Int)).toNat = out + j by omega] at h2
        rw [show ((out : Int) + (j : Int)).toNat = out + j by omega]
        have H2 := Lib.hid (H1.out.trans h2)
        clear h2 H1
        by_cases ho : (cl D (base + 3 * j)).toNat % 2 = 1
        · by_cases hr : n64 (cl D (out + j)) < n64 k
          · obtain ⟨o1, o2, hq⟩ := odd_of ho
            have HSP : Hid (spK k base out D j = msk true) := Lib.hid (by unfold spK ltM; rw [o1, msk_true_and]; rw [show decide ((cl D (out + j)).toNat < k.toNat) = true from by simp; unfold n64 at hr; omega])
            have HCN : Hid (many + (cl D (base + 3 * j) &&& 1#64) - 1#64 = many + ((ofM (cl D (base + 3 * j)) &&& ~~~ spK k base out D j) &&& 1#64)) := Lib.hid (by rw [HSP.out, o1, o2]; show many + 1#64 - 1#64 = many + ((msk true &&& ~~~ msk true) &&& 1#64); rw [show (msk true &&& ~~~ msk true) &&& 1#64 = 0#64 from rfl, BitVec.add_zero, BitVec.add_sub_cancel])
            have HO2 := Lib.hid o2
            clear o1 o2
            go_wp2_with fail
            refine Calls.mono (R := fun e w' => e = .returned (.int .u64 (n64 (spK k base out D j))) ∧ u2 = w') (by have := rof_any 1#64 u2; rw [show ofM 1#64 = spK k base out D j from HSP.out.symm] at this; exact this) ?_
            rintro e w' ⟨rfl, rfl⟩
            go_wp2_with fail
            refine (rstore_ok H2.out.1 ((base : Int) + 3 * (j : Int)) (spK k base out D j) (by omega) (by have := HA.out; show _ < (D.length : Int); omega) (by have := LE.out; have := G8.out; simp; omega)).mono ?_
            rintro e u3 ⟨rfl, h3⟩
            rw [show ((base : Int) + 3 * (j : Int)).toNat = base + 3 * j by omega] at h3
            have H3 := Lib.hid (H2.out.trans h3)
            clear h3 H2
            go_wp2_with fail
            go_roundw
            case rel =>
              have h9 := H3.out
              simp only [List.append_assoc, List.cons_append, List.nil_append] at h9
              refine ⟨j + 1, by omega, by go_num, ?_, ?_⟩
              · rw [HRS.out]; unfold spF; rw [← HCN.out]; first | done | rfl | (rw [HO2.out]; rfl) | (congr 2; simp)
              · rw [HRS.out]; unfold spF; exact h9
            case measure => simp [intOf]; omega
          · obtain ⟨o1, o2, hq⟩ := odd_of ho
            have HSP : Hid (spK k base out D j = msk false) := Lib.hid (by unfold spK ltM; rw [o1, msk_true_and]; rw [show decide ((cl D (out + j)).toNat < k.toNat) = false from by simp; unfold n64 at hr; omega])
            have HCN : Hid (many + (cl D (base + 3 * j) &&& 1#64) - 0#64 = many + ((ofM (cl D (base + 3 * j)) &&& ~~~ spK k base out D j) &&& 1#64)) := Lib.hid (by rw [HSP.out, o1, o2]; show many + 1#64 - 0#64 = many + ((msk true &&& ~~~ msk false) &&& 1#64); rw [show (msk true &&& ~~~ msk false) &&& 1#64 = 1#64 from rfl, BitVec.sub_zero])
            have HO2 := Lib.hid o2
            clear o1 o2
            go_wp2_with fail
            refine Calls.mono (R := fun e w' => e = .returned (.int .u64 (n64 (spK k base out D j))) ∧ u2 = w') (by have := rof_any 0#64 u2; rw [show ofM 0#64 = spK k base out D j from HSP.out.symm] at this; exact this) ?_
            rintro e w' ⟨rfl, rfl⟩
            go_wp2_with fail
            refine (rstore_ok H2.out.1 ((base : Int) + 3 * (j : Int)) (spK k base out D j) (by omega) (by have := HA.out; show _ < (D.length : Int); omega) (by have := LE.out; have := G8.out; simp; omega)).mono ?_
            rintro e u3 ⟨rfl, h3⟩
            rw [show ((base : Int) + 3 * (j : Int)).toNat = base + 3 * j by omega] at h3
            have H3 := Lib.hid (H2.out.trans h3)
            clear h3 H2
            go_wp2_with fail
            go_roundw
            case rel =>
              have h9 := H3.out
              simp only [List.append_assoc, List.cons_append, List.nil_append] at h9
              refine ⟨j + 1, by omega, by go_num, ?_, ?_⟩
              · rw [HRS.out]; unfold spF; rw [← HCN.out]; first | done | rfl | (rw [HO2.out]; rfl) | (congr 2; simp)
              · rw [HRS.out]; unfold spF; exact h9
            case measure => simp [intOf]; omega
        · obtain ⟨o1, o2, hq⟩ := even_of ho
          have HSP : Hid (spK k base out D j = msk false) := Lib.hid (by unfold spK; rw [o1, msk_false_and]; rfl)
          have HCN : Hid (many + (cl D (base + 3 * j) &&& 1#64) - 0#64 = many + ((ofM (cl D (base + 3 * j)) &&& ~~~ spK k base out D j) &&& 1#64)) := Lib.hid (by rw [HSP.out, o1, o2]; show many + 0#64 - 0#64 = many + ((msk false &&& ~~~ msk false) &&& 1#64); rw [show (msk false &&& ~~~ msk false) &&& 1#64 = 0#64 from rfl, BitVec.sub_zero])
          have HO2 := Lib.hid o2
          clear o1 o2
          go_wp2_with fail
          refine Calls.mono (R := fun e w' => e = .returned (.int .u64 (n64 (spK k base out D j))) ∧ u2 = w') (by have := rof_any 0#64 u2; rw [show ofM 0#64 = spK k base out D j from HSP.out.symm] at this; exact this) ?_
          rintro e w' ⟨rfl, rfl⟩
          go_wp2_with fail
          refine (rstore_ok H2.out.1 ((base : Int) + 3 * (j : Int)) (spK k base out D j) (by omega) (by have := HA.out; show _ < (D.length : Int); omega) (by have := LE.out; have := G8.out; simp; omega)).mono ?_
          rintro e u3 ⟨rfl, h3⟩
          rw [show ((base : Int) + 3 * (j : Int)).toNat = base + 3 * j by omega] at h3
          have H3 := Lib.hid (H2.out.trans h3)
          clear h3 H2
          go_wp2_with fail
          go_roundw
          case rel =>
            have h9 := H3.out
            simp only [List.append_assoc, List.cons_append, List.nil_append] at h9
            refine ⟨j + 1, by omega, by go_num, ?_, ?_⟩
            · rw [HRS.out]; unfold spF; rw [← HCN.out]; first | done | rfl | (rw [HO2.out]; rfl) | (congr 2; simp)
            · rw [HRS.out]; unfold spF; exact h9
          case measure => simp [intOf]; omega
      · obtain rfl : n = j := by omega
        go_wp2_with fail
        go_ret2
        rw [HR.out]
        exact ⟨rfl, HRL.out⟩
  · have HR := Lib.hid (show prR C E base n out 3 (spF k) = ((0#64, pkE C.length E.length base n out ((3 : Nat) : Int)), (C, E)) from by unfold prR; rw [if_neg hz])
    have HK := Lib.hid (pasked_any h base n out 3 (by decide))
    have hq : (pkE C.length E.length base n out ((3 : Nat) : Int) != 0) = true := by rw [bne_iff_ne]; exact hz
    have hq2 : (pkE C.length E.length base n out ((3 : Nat) : Int) == 0) = false := by rw [beq_eq_false_iff_ne]; exact hz
    revert HR HK hq hq2
    generalize pkE C.length E.length base n out ((3 : Nat) : Int) = c
    intro HR HK hq hq2
    clear h hz
    go_enter Try.func39, Try.ntmps39
    go_wp2_with fail
    refine HK.out.mono ?_
    rintro e w' ⟨rfl, rfl⟩
    go_wp2_with fail
    go_ret2
    rw [HR.out]
    exact ⟨rfl, RfTo.refl H.out⟩
set_option maxHeartbeats 4000000 in
theorem rdist_any (h : Rf w F r C E) (base n out : Int) :
    Calls Try.prog 40 #[.pointer (some ⟨r, 0, none⟩), .int .i64 base, .int .i64 n, .int .i64 out] w (RErPost w F r (prR C E base n out 3 diF).1.2 (prR C E base n out 3 diF).2) := by
  have H := Lib.hid h
  have hn2 := h.n2
  by_cases hz : pkE C.length E.length base n out ((3 : Nat) : Int) = 0
  · obtain ⟨g1, g2, g3, g4, g5, g6, _, g8⟩ := pkE_zero hz
    obtain ⟨base, rfl⟩ := Int.eq_ofNat_of_zero_le g3
    obtain ⟨out, rfl⟩ := Int.eq_ofNat_of_zero_le g5
    obtain ⟨n, rfl⟩ := Int.eq_ofNat_of_zero_le (show 0 ≤ n by omega)
    have HR := Lib.hid (show prR C E (base : Int) (n : Int) (out : Int) 3 diF = (((repS (diF base out) (C, E, 0#64) n).2.2, 0), ((repS (diF base out) (C, E, 0#64) n).1, (repS (diF base out) (C, E, 0#64) n).2.1)) from by unfold prR; rw [if_pos hz]; rfl)
    have HK := Lib.hid (pasked_any h base n out 3 (by decide))
    have HZ := Lib.hid hz
    have G4 := Lib.hid (show base + 3 * n ≤ C.length by omega)
    have G6 := Lib.hid (show out + n ≤ C.length by omega)
    have G8 := Lib.hid (show E.length + 3 * n ≤ 8388608 by omega)
    have n1 : 1 ≤ n := by omega
    have n2 : n ≤ 288 := by omega
    have x1 : base ≤ 65536 := by omega
    have x2 : out ≤ 65536 := by omega
    have HL := Lib.hid (fun i => repS_len (diF base out) 3 (diF_len base out) (C, E, 0#64) i)
    clear h hz g1 g2 g3 g4 g5 g6 g8
    go_enter Try.func40, Try.ntmps40
    go_wp2_with fail
    refine Calls.mono (R := fun e w' => e = .returned (.int .i64 0) ∧ w = w') (by have := HK.out; rwa [HZ.out] at this) ?_
    rintro e w' ⟨rfl, rfl⟩
    go_wp2_with fail
    go_loopw [10] (fun i wr => ∃ j : Nat, j ≤ n ∧ i = .int .i64 j ∧ RfTo w F r (repS (diF base out) (C, E, 0#64) j).1 (repS (diF base out) (C, E, 0#64) j).2.1 wr) (fun i _ => n - (intOf i).toNat)
    case atStart => exact ⟨0, Nat.zero_le _, rfl, RfTo.refl H.out⟩
    case round =>
      obtain ⟨j, hj, rfl, hrel⟩ := hrel
      have HRL := Lib.hid hrel
      clear hrel
      by_cases hlt : j < n
      · obtain ⟨l1, l2⟩ := HL.out j
        have L1 : Hid ((repS (diF base out) (C, E, 0#64) j).1.length = C.length) := Lib.hid l1
        have L2 : Hid ((repS (diF base out) (C, E, 0#64) j).2.1.length = E.length + 3 * j) := Lib.hid l2
        have HRS := Lib.hid (repS_succ (diF base out) (C, E, 0#64) j)
        clear l1 l2
        revert HRL L1 L2 HRS
        generalize (repS (diF base out) (C, E, 0#64) j) = q
        obtain ⟨D, E1, many⟩ := q
        intro HRL L1 L2 HRS
        have L1' : D.length = C.length := L1.out
        have L2' : E1.length = E.length + 3 * j := L2.out
        have LD := Lib.hid L1'
        have LE := Lib.hid L2'
        have hA : base + 3 * j < D.length := by have := G4.out; omega
        have hB : out + j < D.length := by have := G6.out; omega
        have HA := Lib.hid hA
        have HB := Lib.hid hB
        clear L1' L2' L1 L2 hA hB
        have hnn := n64_nonneg (cl D (base + 3 * j))
        go_wp2_with fail
        refine (rload_ok HRL.out.1 ((base : Int) + 3 * (j : Int)) (by omega) (by have := HA.out; show _ < (D.length : Int); omega) (by have := LE.out; have := G8.out; show E1.length < _; omega)).mono ?_
        rintro e u1 ⟨rfl, h1⟩
        rw [show ((base : Int) + 3 * (j : Int)).toNat = base + 3 * j by omega] at h1
        rw [show ((base : Int) + 3 * (j : Int)).toNat = base + 3 * j by omega]
        have H1 := Lib.hid (HRL.out.trans h1)
        clear h1
        go_wp2_with fail
        refine (rload_ok H1.out.1 ((out : Int) + (j : Int)) (by omega) (by have := HB.out; show _ < (D.length : Int); omega) (by have := LE.out; have := G8.out; simp; omega)).mono ?_
        rintro e u2 ⟨rfl, h2⟩
        rw [show ((out : Int) + (j : Int)).toNat = out + j by omega] at h2
        rw [show ((out : Int) + (j : Int)).toNat = out + j by omega]
        have H2 := Lib.hid (H1.out.trans h2)
        clear h2 H1
        by_cases ho : (cl D (base + 3 * j)).toNat % 2 = 1
        · obtain ⟨o1, o2, hq⟩ := odd_of ho
          have HV : Hid (ofM (cl D (base + 3 * j)) &&& (BitVec.ofNat 64 j - cl D (out + j)) = BitVec.ofNat 64 j - cl D (out + j)) := Lib.hid (by rw [o1, msk_true_and])
          have hbn := bv_nat j
          clear o1 o2
          go_wp2_with fail
          refine (rstore_ok H2.out.1 ((out : Int) + (j : Int)) (BitVec.ofNat 64 j - cl D (out + j)) (by omega) (by have := HB.out; show _ < (D.length : Int); omega) (by have := LE.out; have := G8.out; simp; omega)).mono ?_
          rintro e u3 ⟨rfl, h3⟩
          rw [show ((out : Int) + (j : Int)).toNat = out + j by omega] at h3
          have H3 := Lib.hid (H2.out.trans h3)
          clear h3 H2
          clear hbn
          go_wp2_with fail
          go_roundw
          case rel =>
            have h9 := H3.out
            simp only [List.append_assoc, List.cons_append, List.nil_append] at h9
            refine ⟨j + 1, by omega, by go_num, ?_⟩
            rw [HRS.out]; unfold diF; rw [HV.out]; exact h9
          case measure => simp [intOf]; omega
        · obtain ⟨o1, o2, hq⟩ := even_of ho
          have HV : Hid (ofM (cl D (base + 3 * j)) &&& (BitVec.ofNat 64 j - cl D (out + j)) = 0#64) := Lib.hid (by rw [o1, msk_false_and])
          have hbn := bv_nat j
          clear o1 o2
          go_wp2_with fail
          refine (rstore_ok H2.out.1 ((out : Int) + (j : Int)) (0#64) (by omega) (by have := HB.out; show _ < (D.length : Int); omega) (by have := LE.out; have := G8.out; simp; omega)).mono ?_
          rintro e u3 ⟨rfl, h3⟩
          rw [show ((out : Int) + (j : Int)).toNat = out + j by omega] at h3
          have H3 := Lib.hid (H2.out.trans h3)
          clear h3 H2
          clear hbn
          go_wp2_with fail
          go_roundw
          case rel =>
            have h9 := H3.out
            simp only [List.append_assoc, List.cons_append, List.nil_append] at h9
            refine ⟨j + 1, by omega, by go_num, ?_⟩
            rw [HRS.out]; unfold diF; rw [HV.out]; exact h9
          case measure => simp [intOf]; omega
      · obtain rfl : n = j := by omega
        go_wp2_with fail
        go_ret
        rw [HR.out]
        exact ⟨rfl, HRL.out⟩
  · have HR := Lib.hid (show prR C E base n out 3 diF = ((0#64, pkE C.length E.length base n out ((3 : Nat) : Int)), (C, E)) from by unfold prR; rw [if_neg hz])
    have HK := Lib.hid (pasked_any h base n out 3 (by decide))
    have hq : (pkE C.length E.length base n out ((3 : Nat) : Int) != 0) = true := by rw [bne_iff_ne]; exact hz
    have hq2 : (pkE C.length E.length base n out ((3 : Nat) : Int) == 0) = false := by rw [beq_eq_false_iff_ne]; exact hz
    revert HR HK hq hq2
    generalize pkE C.length E.length base n out ((3 : Nat) : Int) = c
    intro HR HK hq hq2
    clear h hz
    go_enter Try.func40, Try.ntmps40
    go_wp2_with fail
    refine HK.out.mono ?_
    rintro e w' ⟨rfl, rfl⟩
    go_wp2_with fail
    refine wp_loop_rounds 1 ?_
    rw [rounds_succ]
    by_cases hn0 : 0 < n
    all_goals
      go_wp2_with fail
      go_ret
      rw [HR.out]
      exact ⟨rfl, RfTo.refl H.out⟩
end

end Go.Proofs.Ytlbahocncbmjnaa
