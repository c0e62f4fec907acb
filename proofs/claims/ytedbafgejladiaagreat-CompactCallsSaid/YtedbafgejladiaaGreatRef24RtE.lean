import Derived.Test.YtedbafgejladiaaGreatRef24Route
/-
  dragnetref24.Route in every case.
-/
namespace Go.Proofs.YtedbafgejladiaaGreat
open Go.RowKit
set_option linter.unusedVariables false
set_option maxRecDepth 100000
section
variable {w : World} {F : Nat → Prop} {r : Nat} {C : List (BitVec 64)} {E : List Ev}
set_option maxHeartbeats 2000000 in
theorem rroute_err (h : Rf w F r C E) (base n far : Int) (hb : -9223372036854775808 ≤ base ∧ base ≤ 9223372036854775807) (hf : -9223372036854775808 ≤ far ∧ far ≤ 9223372036854775807) (hz : rtE C.length E.length base n far ≠ 0) :
    Calls Tryz.prog 54 #[.pointer (some ⟨r, 0, none⟩), .int .i64 base, .int .i64 n, .int .i64 far] w fun e w' => e = .returned (.int .i64 (rtE C.length E.length base n far)) ∧ RfTo w F r C E w' := by
  have hn2 := h.n2
  have HA := Lib.hid h
  clear h
  by_cases h1 : n < 1 ∨ 288 < n
  · have HE := Lib.hid (show rtE C.length E.length base n far = 7 by unfold rtE; rw [if_pos h1])
    have HR := Lib.hid (rplan_bad n h1 w)
    clear hz h1
    go_enter Tryz.func54, Tryz.ntmps54
    go_wp2_with fail
    refine HR.out.mono ?_
    rintro e w' ⟨rfl, rfl⟩
    go_wp2_with fail
    refine wp_loop_rounds 1 ?_
    rw [rounds_succ]
    go_wp2_with fail
    go_ret
    exact ⟨by rw [HE.out]; rfl, RfTo.refl HA.out⟩
  obtain ⟨n, rfl⟩ := Int.eq_ofNat_of_zero_le (show 0 ≤ n by omega)
  have b1 : 1 ≤ n := by omega
  have b2 : n ≤ 288 := by omega
  have hL3 := (moves_le b1 b2).2.2
  have HPL := Lib.hid (rplan_ok n b1 b2 w)
  obtain ⟨ML, hML⟩ : ∃ ML, moves n = ML := ⟨_, rfl⟩
  rw [hML] at HPL hL3
  obtain ⟨q, hq⟩ : ∃ q, ML.length = q := ⟨_, rfl⟩
  have HQ := Lib.hid hq
  rw [hq] at hL3
  have HH1 := Lib.hid (fun (W : World) (ha : Rf W F r C E) => rhas_any ha base (3 * (n : Int)))
  have HH2 := Lib.hid (fun (W : World) (ha : Rf W F r C E) => rhas_any ha far (n : Int))
  have HH3 := Lib.hid (fun (W : World) (ha : Rf W F r C E) => rroom_any ha (16 * (q : Int)))
  have hdef : rtE C.length E.length base n far = if hasE C.length base (3 * (n : Int)) = 0 then (if hasE C.length far n = 0 then (if far < base + 3 * (n : Int) ∧ base < far + (n : Int) then 2 else roomE E.length (16 * (q : Int))) else hasE C.length far n) else hasE C.length base (3 * (n : Int)) := by
    unfold rtE
    rw [if_neg h1, Int.toNat_natCast, hML, hq]
    push_cast
    rfl
  have HDF := Lib.hid hdef
  clear hML hq hdef h1
  rcases hasE_cases2 C.length base (3 * (n : Int)) with ⟨a1, a2⟩ | ⟨a1, a2⟩
  · rw [a1] at HH1
    rcases hasE_cases2 C.length far (n : Int) with ⟨c1, c2⟩ | ⟨c1, c2⟩
    · rw [c1] at HH2
      by_cases ho : far < base + 3 * (n : Int) ∧ base < far + (n : Int)
      · have HE := Lib.hid (show rtE C.length E.length base n far = 2 by rw [HDF.out, if_pos a1, if_pos c1, if_pos ho])
        obtain ⟨o1, o2⟩ := ho
        have d1 : decide (far < base + 3 * (n : Int)) = true := decide_eq_true o1
        have d2 : decide (base < far + (n : Int)) = true := decide_eq_true o2
        clear hz HDF a1 c1
        go_enter Tryz.func54, Tryz.ntmps54
        go_wp2_with fail
        refine HPL.out.mono ?_
        rintro e w1 ⟨v, rfl, r1, o1'⟩
        obtain ⟨A, cap, rfl⟩ := CoR.form (w := w) (W := w1) ⟨r1, o1'⟩
        rw [HQ.out] at ⊢
        have HA1 := Lib.hid (HA.out.keep o1' (fun _ _ h => h))
        have O1 := Lib.hid o1'
        clear r1 o1' HPL
        go_wp2_with fail
        refine (HH1.out _ HA1.out).mono ?_
        rintro e w' ⟨rfl, rfl⟩
        go_wp2_with fail
        refine (HH2.out _ HA1.out).mono ?_
        rintro e w' ⟨rfl, rfl⟩
        go_wp2_with fail
        refine wp_loop_rounds 1 ?_
        rw [rounds_succ]
        go_wp2_with fail
        all_goals
          go_ret
          exact ⟨by rw [HE.out]; rfl, RfTo.off HA.out O1.out⟩
      · have he : rtE C.length E.length base n far = roomE E.length (16 * (q : Int)) := by rw [HDF.out, if_pos a1, if_pos c1, if_neg ho]
        have hq0 : (roomE E.length (16 * (q : Int)) == 0) = false := by rw [beq_eq_false_iff_ne, ← he]; exact hz
        have HE := Lib.hid he
        obtain ⟨e0, he0⟩ : ∃ e0, roomE E.length (16 * (q : Int)) = e0 := ⟨_, rfl⟩
        rw [he0] at HH3 hq0 HE
        have t1 : ¬ (far < base + 3 * (n : Int)) ∨ (far < base + 3 * (n : Int) ∧ ¬ (base < far + (n : Int))) := by omega
        clear hz HDF a1 c1 ho he he0
        rcases t1 with t1 | ⟨t1, t2⟩
        all_goals
          go_enter Tryz.func54, Tryz.ntmps54
          go_wp2_with fail
          refine HPL.out.mono ?_
          rintro e w1 ⟨v, rfl, r1, o1'⟩
          obtain ⟨A, cap, rfl⟩ := CoR.form (w := w) (W := w1) ⟨r1, o1'⟩
          rw [HQ.out] at ⊢
          have HA1 := Lib.hid (HA.out.keep o1' (fun _ _ h => h))
          have O1 := Lib.hid o1'
          clear r1 o1'
          go_wp2_with fail
          refine (HH1.out _ HA1.out).mono ?_
          rintro e w' ⟨rfl, rfl⟩
          go_wp2_with fail
          refine (HH2.out _ HA1.out).mono ?_
          rintro e w' ⟨rfl, rfl⟩
          go_wp2_with fail
          refine (HH3.out _ HA1.out).mono ?_
          rintro e w' ⟨rfl, rfl⟩
          go_wp2_with fail
          refine wp_loop_rounds 1 ?_
          rw [rounds_succ]
          go_wp2_with fail
          all_goals
            go_ret
            exact ⟨by rw [HE.out]; rfl, RfTo.off HA.out O1.out⟩
    · have HE := Lib.hid (show rtE C.length E.length base n far = 7 by rw [HDF.out, if_pos a1, if_neg (by rw [c1]; decide), c1])
      rw [c1] at HH2
      clear hz HDF a1 c1 c2
      go_enter Tryz.func54, Tryz.ntmps54
      go_wp2_with fail
      refine HPL.out.mono ?_
      rintro e w1 ⟨v, rfl, r1, o1'⟩
      obtain ⟨A, cap, rfl⟩ := CoR.form (w := w) (W := w1) ⟨r1, o1'⟩
      rw [HQ.out] at ⊢
      have HA1 := Lib.hid (HA.out.keep o1' (fun _ _ h => h))
      have O1 := Lib.hid o1'
      clear r1 o1' HPL
      go_wp2_with fail
      refine (HH1.out _ HA1.out).mono ?_
      rintro e w' ⟨rfl, rfl⟩
      go_wp2_with fail
      refine (HH2.out _ HA1.out).mono ?_
      rintro e w' ⟨rfl, rfl⟩
      go_wp2_with fail
      refine wp_loop_rounds 1 ?_
      rw [rounds_succ]
      go_wp2_with fail
      all_goals
        go_ret
        exact ⟨by rw [HE.out]; rfl, RfTo.off HA.out O1.out⟩
  · have HE := Lib.hid (show rtE C.length E.length base n far = 7 by rw [HDF.out, if_neg (by rw [a1]; decide), a1])
    rw [a1] at HH1
    clear hz HDF a1 a2
    go_enter Tryz.func54, Tryz.ntmps54
    go_wp2_with fail
    refine HPL.out.mono ?_
    rintro e w1 ⟨v, rfl, r1, o1'⟩
    obtain ⟨A, cap, rfl⟩ := CoR.form (w := w) (W := w1) ⟨r1, o1'⟩
    rw [HQ.out] at ⊢
    have HA1 := Lib.hid (HA.out.keep o1' (fun _ _ h => h))
    have O1 := Lib.hid o1'
    clear r1 o1' HPL
    go_wp2_with fail
    refine (HH1.out _ HA1.out).mono ?_
    rintro e w' ⟨rfl, rfl⟩
    go_wp2_with fail
    refine wp_loop_rounds 1 ?_
    rw [rounds_succ]
    go_wp2_with fail
    all_goals
      go_ret
      exact ⟨by rw [HE.out]; rfl, RfTo.off HA.out O1.out⟩
theorem rroute_any (h : Rf w F r C E) (base n far : Int) (hb : -9223372036854775808 ≤ base ∧ base ≤ 9223372036854775807) (hf : -9223372036854775808 ≤ far ∧ far ≤ 9223372036854775807) :
    Calls Tryz.prog 54 #[.pointer (some ⟨r, 0, none⟩), .int .i64 base, .int .i64 n, .int .i64 far] w fun e w' => e = .returned (.int .i64 (rtE C.length E.length base n far)) ∧ RfTo w F r (rtR C E base n far).1 (rtR C E base n far).2 w' := by
  by_cases hz : rtE C.length E.length base n far = 0
  · obtain ⟨g1, g2, g3, g4, g5, _⟩ := rtE_zero hz
    obtain ⟨base, rfl⟩ := Int.eq_ofNat_of_zero_le g3
    obtain ⟨n, rfl⟩ := Int.eq_ofNat_of_zero_le (show 0 ≤ n by omega)
    obtain ⟨far, rfl⟩ := Int.eq_ofNat_of_zero_le g5
    have hr : rtR C E base n far = rtL base far (C, E) (moves n) := by unfold rtR; rw [if_pos hz]; rfl
    rw [hr, hz]
    exact rroute_ok h base n far hz
  · have hr : rtR C E base n far = (C, E) := by unfold rtR; rw [if_neg hz]
    rw [hr]
    exact rroute_err h base n far hb hf hz
end
theorem rroute_nil (w : World) : Calls Tryz.prog 54 #[.pointer none, .int .i64 0, .int .i64 1, .int .i64 3] w fun e w' => e = .returned (.int .i64 1) ∧ Off Nob w w' := by
  have HPL := Lib.hid (rplan_ok 1 (by decide) (by decide) w)
  have hm : moves 1 = [] := by decide +kernel
  rw [hm] at HPL
  go_enter Tryz.func54, Tryz.ntmps54
  go_wp2_with fail
  refine HPL.out.mono ?_
  rintro e w1 ⟨v, rfl, r1, o1⟩
  obtain ⟨A, cap, rfl⟩ := CoR.form (w := w) (W := w1) ⟨r1, o1⟩
  have O1 := Lib.hid o1
  clear r1 o1 HPL hm
  go_wp2_with fail
  refine (rhas_nil _ 0 3).mono ?_
  rintro e w' ⟨rfl, rfl⟩
  go_wp2_with fail
  refine wp_loop_rounds 1 ?_
  rw [rounds_succ]
  go_wp2_with fail
  go_ret
  exact ⟨rfl, O1.out⟩
end Go.Proofs.YtedbafgejladiaaGreat

