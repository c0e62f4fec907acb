/-
  dragnetref09's changed, Put and Add.
-/
import Derived.Test.YtgdklokoeeokbaaRef09
namespace Go.Proofs.Ytgdklokoeeokbaa
open Go.RowKit
attribute [local go_sem] bits_and_u64 bits_or_u64 bits_xor_u64 bits_andNot_u64 wrap_u64 bv_add bv_neg bv_sub bv_mul
set_option linter.unusedVariables false
set_option maxRecDepth 100000
section
variable {w : World} {F : Nat → Prop} {r : Nat} {C : List (BitVec 64)} {E : List Ev}
set_option maxHeartbeats 1500000 in
theorem rchanged_ok (h : Rf w F r C E) (base n : Nat) (idx keep v : BitVec 64) (mb : Bool) (val : BitVec 64 → BitVec 64) (hval : ∀ x, val x = x * keep + v) (hz : lkE C.length E.length base n ((2 : Nat) : Int) = 0) :
    Calls Try.prog 60 #[.pointer (some ⟨r, 0, none⟩), .int .i64 (base : Int), .int .i64 (n : Int), .int .u64 (n64 idx), .int .u64 (n64 (msk mb)), .int .u64 (n64 keep), .int .u64 (n64 v)] w fun e w' => e = .returned (.int .i64 0) ∧ RfTo w F r (chS val idx (msk mb) base C E n).1 (chS val idx (msk mb) base C E n).2 w' := by
  obtain ⟨g1, g2, g3, g4, g5⟩ := lkE_zero hz
  have hn2 := h.n2
  have HC := Lib.hid (rtable_any h base n 2 (by decide))
  have HZ := Lib.hid hz
  have HA := Lib.hid h
  have G5 := Lib.hid g5
  have HI := Lib.hid (show isM (msk mb) = true by cases mb <;> decide)
  have HV := Lib.hid hval
  have d1 : decide ((n : Int) < 1) = false := by simp; omega
  have d2 : decide ((4096 : Int) < (n : Int)) = false := by simp; omega
  have hmz : (n64 (msk mb) != 0) = mb := by cases mb <;> decide
  have HMZ := Lib.hid hmz
  clear h hz g5 hval hmz
  obtain ⟨m, hm⟩ : ∃ m, msk mb = m := ⟨_, rfl⟩
  rw [hm] at HI HMZ ⊢
  have HM := Lib.hid hm
  clear hm
  go_enter Try.func60, Try.ntmps60
  go_wp2_with fail
  refine Calls.mono (R := fun e w' => e = .returned (.bool true) ∧ w = w') (by have := ris_any m w; rwa [HI.out] at this) ?_
  rintro e w' ⟨rfl, rfl⟩
  go_wp2_with fail
  refine Calls.mono (R := fun e w' => e = .returned (.int .i64 0) ∧ w = w') (by have := HC.out; rwa [HZ.out] at this) ?_
  rintro e w' ⟨rfl, rfl⟩
  clear HC HZ
  go_wp2_with fail
  go_loopw [16] (fun i wr => ∃ k : Nat, k ≤ n ∧ i = .int .i64 k ∧ RfTo w F r (chS val idx m base C E k).1 (chS val idx m base C E k).2 wr) (fun i _ => n - (intOf i).toNat)
  case atStart => exact ⟨0, Nat.zero_le _, rfl, RfTo.refl HA.out⟩
  case round =>
    obtain ⟨k, hk, rfl, hto⟩ := hrel
    have HT := Lib.hid hto
    by_cases hlt : k < n
    · obtain ⟨ha, ho⟩ := hto
      have hb1 : (base : Int) + (k : Int) ≤ 65536 := by omega
      have hb2 : 0 ≤ (base : Int) + (k : Int) := by omega
      obtain ⟨l1, l2⟩ := chS_len val idx m base C E k
      have HL := Lib.hid (rload_ok ha ((base : Int) + (k : Int)) (by omega) (by rw [l1]; omega) (by rw [l2]; have := G5.out; omega))
      rw [show ((base : Int) + (k : Int)).toNat = base + k by omega, chS_out val idx m base C E k (base + k) (.inr (Nat.le_refl _))] at HL
      have L1 := Lib.hid l1
      have L2 := Lib.hid l2
      have hkv : bv (k : Int) = BitVec.ofNat 64 k := BitVec.ofInt_natCast ..
      have HKV := Lib.hid hkv
      clear ha ho l1 l2 hkv
      have ST : Hid (∀ (w1 : World) (y : BitVec 64), selM (m &&& eqM (BitVec.ofNat 64 k) idx) (val (cl C (base + k))) (cl C (base + k)) = y → RfTo w F r (chS val idx m base C E k).1 ((chS val idx m base C E k).2 ++ [(1, base + k)]) w1 → Calls Try.prog 27 #[.pointer (some ⟨r, 0, none⟩), .int .i64 ((base : Int) + (k : Int)), .int .u64 (n64 y)] w1 fun e w2 => e = .returned (.int .i64 0) ∧ RfTo w F r (chS val idx m base C E (k + 1)).1 (chS val idx m base C E (k + 1)).2 w2) := Lib.hid (fun w1 y hy h1 => by
        have := rstore_ok h1.1 ((base : Int) + (k : Int)) y (by omega) (by rw [L1.out]; omega) (by rw [List.length_append, L2.out]; have := G5.out; simp; omega)
        rw [show ((base : Int) + (k : Int)).toNat = base + k by omega, List.append_assoc] at this
        subst hy
        exact this.mono fun e w2 ⟨a, b⟩ => ⟨a, h1.trans b⟩)
      go_wp2_with fail
      refine HL.out.mono ?_
      rintro e w1 ⟨rfl, h1⟩
      have H1 := Lib.hid (HT.out.trans h1)
      clear h1 HL
      cases mb with
      | false =>
        have HSEL : Hid (selM (m &&& eqM (BitVec.ofNat 64 k) idx) (val (cl C (base + k))) (cl C (base + k)) = cl C (base + k)) := Lib.hid (by rw [← HM.out]; unfold eqM; rw [msk_and, Bool.false_and, sel_msk, if_neg (by decide)])
        have t1 := HMZ.out
        go_wp2_with fail
        refine (ST.out w1 _ HSEL.out H1.out).mono ?_
        rintro e w2 ⟨rfl, h2⟩
        have H2 := Lib.hid h2
        clear h2
        go_wp2_with fail
        go_roundw
        case rel => exact ⟨k + 1, by omega, by go_num, H2.out⟩
        case measure => simp [intOf]; omega
      | true =>
        have t1 := HMZ.out
        by_cases hix : BitVec.ofNat 64 k = idx
        · have HSEL : Hid (selM (m &&& eqM (BitVec.ofNat 64 k) idx) (val (cl C (base + k))) (cl C (base + k)) = cl C (base + k) * keep + v) := Lib.hid (by rw [← HM.out]; unfold eqM; rw [decide_eq_true hix, msk_and, sel_msk, if_pos (by rfl)]; exact HV.out _)
          have t2 : (n64 idx == n64 (bv (k : Int))) = true := by rw [HKV.out, hix, beq_self_eq_true]
          clear hix
          go_wp2_with fail
          refine (ST.out w1 _ HSEL.out H1.out).mono ?_
          rintro e w2 ⟨rfl, h2⟩
          have H2 := Lib.hid h2
          clear h2
          go_wp2_with fail
          go_roundw
          case rel => exact ⟨k + 1, by omega, by go_num, H2.out⟩
          case measure => simp [intOf]; omega
        · have HSEL : Hid (selM (m &&& eqM (BitVec.ofNat 64 k) idx) (val (cl C (base + k))) (cl C (base + k)) = cl C (base + k)) := Lib.hid (by rw [← HM.out]; unfold eqM; rw [decide_eq_false hix, msk_and, sel_msk, if_neg (by decide)])
          have t2 : (n64 idx == n64 (bv (k : Int))) = false := by rw [HKV.out, beq_eq_false_iff_ne]; intro hh; exact hix (n64_inj hh).symm
          clear hix
          go_wp2_with fail
          refine (ST.out w1 _ HSEL.out H1.out).mono ?_
          rintro e w2 ⟨rfl, h2⟩
          have H2 := Lib.hid h2
          clear h2
          go_wp2_with fail
          go_roundw
          case rel => exact ⟨k + 1, by omega, by go_num, H2.out⟩
          case measure => simp [intOf]; omega
    · obtain rfl : n = k := by omega
      clear hto
      go_wp2
      go_ret
      exact ⟨rfl, HT.out⟩
theorem rchanged_bad (h : Rf w F r C E) (base n : Int) (idx keep v m : BitVec 64) (hb : ¬ (1 ≤ n ∧ n ≤ 4096)) :
    Calls Try.prog 60 #[.pointer (some ⟨r, 0, none⟩), .int .i64 base, .int .i64 n, .int .u64 (n64 idx), .int .u64 (n64 m), .int .u64 (n64 keep), .int .u64 (n64 v)] w fun e w' => e = .returned (.int .i64 7) ∧ RfTo w F r C E w' := by
  have HA := Lib.hid h
  clear h
  by_cases c1 : n < 1
  · have d1 : decide (n < 1) = true := decide_eq_true c1
    clear hb
    go_enter Try.func60, Try.ntmps60
    go_wp2
    go_ret
    exact ⟨rfl, RfTo.refl HA.out⟩
  · have d1 : decide (n < 1) = false := decide_eq_false c1
    have d2 : decide (4096 < n) = true := decide_eq_true (by omega)
    clear hb
    go_enter Try.func60, Try.ntmps60
    go_wp2
    go_ret
    exact ⟨rfl, RfTo.refl HA.out⟩
theorem rchanged_mask (h : Rf w F r C E) (base n : Int) (idx keep v m : BitVec 64) (h1 : 1 ≤ n) (h2 : n ≤ 4096) (hm : isM m = false) :
    Calls Try.prog 60 #[.pointer (some ⟨r, 0, none⟩), .int .i64 base, .int .i64 n, .int .u64 (n64 idx), .int .u64 (n64 m), .int .u64 (n64 keep), .int .u64 (n64 v)] w fun e w' => e = .returned (.int .i64 2) ∧ RfTo w F r C E w' := by
  have HA := Lib.hid h
  have d1 : decide (n < 1) = false := decide_eq_false (by omega)
  have d2 : decide (4096 < n) = false := decide_eq_false (by omega)
  clear h
  go_enter Try.func60, Try.ntmps60
  go_wp2_with fail
  refine Calls.mono (R := fun e w' => e = .returned (.bool false) ∧ w = w') (by have := ris_any m w; rwa [hm] at this) ?_
  rintro e w' ⟨rfl, rfl⟩
  go_wp2
  go_ret
  exact ⟨rfl, RfTo.refl HA.out⟩
theorem rchanged_err (h : Rf w F r C E) (base n : Int) (idx keep v m : BitVec 64) (h1 : 1 ≤ n) (h2 : n ≤ 4096) (hm : isM m = true) (hz : lkE C.length E.length base n ((2 : Nat) : Int) ≠ 0) :
    Calls Try.prog 60 #[.pointer (some ⟨r, 0, none⟩), .int .i64 base, .int .i64 n, .int .u64 (n64 idx), .int .u64 (n64 m), .int .u64 (n64 keep), .int .u64 (n64 v)] w fun e w' => e = .returned (.int .i64 (lkE C.length E.length base n ((2 : Nat) : Int))) ∧ RfTo w F r C E w' := by
  have HA := Lib.hid h
  have d1 : decide (n < 1) = false := decide_eq_false (by omega)
  have d2 : decide (4096 < n) = false := decide_eq_false (by omega)
  have d3 : decide (0 < n) = true := decide_eq_true (by omega)
  have HC := Lib.hid (rtable_any h base n 2 (by decide))
  have hq : (lkE C.length E.length base n ((2 : Nat) : Int) == 0) = false := by rw [beq_eq_false_iff_ne]; exact hz
  obtain ⟨e, he⟩ : ∃ e, lkE C.length E.length base n ((2 : Nat) : Int) = e := ⟨_, rfl⟩
  rw [he] at HC hq ⊢
  clear h hz he
  go_enter Try.func60, Try.ntmps60
  go_wp2_with fail
  refine Calls.mono (R := fun e w' => e = .returned (.bool true) ∧ w = w') (by have := ris_any m w; rwa [hm] at this) ?_
  rintro e' w' ⟨rfl, rfl⟩
  go_wp2_with fail
  refine Calls.mono (R := fun e' w' => e' = .returned (.int .i64 e) ∧ w = w') HC.out ?_
  rintro e' w' ⟨rfl, rfl⟩
  go_wp2_with fail
  go_loopw [16] (fun i wr => i = .int .i64 0 ∧ wr = w) (fun i _ => 0)
  case atStart => exact ⟨rfl, rfl⟩
  case round =>
    obtain ⟨rfl, rfl⟩ := hrel
    go_wp2
    go_ret
    exact ⟨rfl, RfTo.refl HA.out⟩
theorem rchanged_any (h : Rf w F r C E) (base n : Int) (idx keep v m : BitVec 64) (val : BitVec 64 → BitVec 64) (hval : ∀ x, val x = x * keep + v) :
    Calls Try.prog 60 #[.pointer (some ⟨r, 0, none⟩), .int .i64 base, .int .i64 n, .int .u64 (n64 idx), .int .u64 (n64 m), .int .u64 (n64 keep), .int .u64 (n64 v)] w fun e w' => e = .returned (.int .i64 (chE C.length E.length base n m)) ∧ RfTo w F r (chR val C E base n idx m).1 (chR val C E base n idx m).2 w' := by
  by_cases hb : 1 ≤ n ∧ n ≤ 4096
  · cases hm : isM m with
    | false =>
      have he : chE C.length E.length base n m = 2 := by unfold chE; rw [if_pos hb, if_neg (by rw [hm]; decide)]
      have hr : chR val C E base n idx m = (C, E) := by unfold chR; rw [if_neg (by rw [he]; decide)]
      rw [he, hr]
      exact rchanged_mask h base n idx keep v m hb.1 hb.2 hm
    | true =>
      have he : chE C.length E.length base n m = lkE C.length E.length base n 2 := by unfold chE; rw [if_pos hb, if_pos hm]
      by_cases hz : lkE C.length E.length base n ((2 : Nat) : Int) = 0
      · have hr : chR val C E base n idx m = chS val idx m base.toNat C E n.toNat := by unfold chR; rw [if_pos (he.trans hz)]
        rw [he, hr, show lkE C.length E.length base n 2 = 0 from hz]
        obtain ⟨g1, g2, g3, _⟩ := lkE_zero hz
        obtain ⟨base, rfl⟩ := Int.eq_ofNat_of_zero_le g3
        obtain ⟨n, rfl⟩ := Int.eq_ofNat_of_zero_le (show 0 ≤ n by omega)
        have hmk : m = msk (decide (m.toNat % 2 = 1)) := by rw [isM_iff, decide_eq_true_eq] at hm; exact hm
        have := rchanged_ok h base n idx keep v (decide (m.toNat % 2 = 1)) val hval hz
        rw [← hmk] at this
        exact this
      · have hr : chR val C E base n idx m = (C, E) := by unfold chR; rw [if_neg (by rw [he]; exact hz)]
        rw [he, hr]
        exact rchanged_err h base n idx keep v m hb.1 hb.2 hm hz
  · have he : chE C.length E.length base n m = 7 := by unfold chE; rw [if_neg hb]
    have hr : chR val C E base n idx m = (C, E) := by unfold chR; rw [if_neg (by rw [he]; decide)]
    rw [he, hr]
    exact rchanged_bad h base n idx keep v m hb
theorem rput_any (h : Rf w F r C E) (base n : Int) (idx m v : BitVec 64) :
    Calls Try.prog 41 #[.pointer (some ⟨r, 0, none⟩), .int .i64 base, .int .i64 n, .int .u64 (n64 idx), .int .u64 (n64 m), .int .u64 (n64 v)] w fun e w' => e = .returned (.int .i64 (chE C.length E.length base n m)) ∧ RfTo w F r (chR (fun _ => v) C E base n idx m).1 (chR (fun _ => v) C E base n idx m).2 w' := by
  have HD := Lib.hid (rchanged_any h base n idx 0#64 v m (fun _ => v) (fun x => by simp))
  obtain ⟨e0, he⟩ : ∃ e, chE C.length E.length base n m = e := ⟨_, rfl⟩
  obtain ⟨r0, hr⟩ : ∃ r, chR (fun _ => v) C E base n idx m = r := ⟨_, rfl⟩
  rw [he, hr, show n64 0#64 = 0 by decide] at HD
  rw [he, hr]
  clear h he hr
  go_enter Try.func41, Try.ntmps41
  go_wp2_with fail
  refine HD.out.mono ?_
  rintro e w1 ⟨rfl, h1⟩
  have H1 := Lib.hid h1
  clear h1
  go_wp2
  go_ret
  exact ⟨rfl, H1.out⟩
theorem radd_any (h : Rf w F r C E) (base n : Int) (idx m v : BitVec 64) :
    Calls Try.prog 42 #[.pointer (some ⟨r, 0, none⟩), .int .i64 base, .int .i64 n, .int .u64 (n64 idx), .int .u64 (n64 m), .int .u64 (n64 v)] w fun e w' => e = .returned (.int .i64 (chE C.length E.length base n m)) ∧ RfTo w F r (chR (fun x => x + v) C E base n idx m).1 (chR (fun x => x + v) C E base n idx m).2 w' := by
  have HD := Lib.hid (rchanged_any h base n idx 1#64 v m (fun x => x + v) (fun x => by simp))
  obtain ⟨e0, he⟩ : ∃ e, chE C.length E.length base n m = e := ⟨_, rfl⟩
  obtain ⟨r0, hr⟩ : ∃ r, chR (fun x => x + v) C E base n idx m = r := ⟨_, rfl⟩
  rw [he, hr, show n64 1#64 = 1 by decide] at HD
  rw [he, hr]
  clear h he hr
  go_enter Try.func42, Try.ntmps42
  go_wp2_with fail
  refine HD.out.mono ?_
  rintro e w1 ⟨rfl, h1⟩
  have H1 := Lib.hid h1
  clear h1
  go_wp2
  go_ret
  exact ⟨rfl, H1.out⟩
end
end Go.Proofs.Ytgdklokoeeokbaa
