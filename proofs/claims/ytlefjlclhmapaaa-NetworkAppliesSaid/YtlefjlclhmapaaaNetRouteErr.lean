/-
  network.Route in every case.
-/
import Derived.Test.YtlefjlclhmapaaaNetRoute
namespace Go.Proofs.Ytlefjlclhmapaaa
open Go.RowKit
set_option linter.unusedVariables false
set_option maxRecDepth 100000
section
variable {w : World} {F : Nat → Prop} {p : Nat} {C : List (BitVec 64)} {E : List Ev}
set_option maxHeartbeats 2000000 in
theorem nroute_err (h : Ar w F p C E) (base n far : Int) (hb : -9223372036854775808 ≤ base ∧ base ≤ 9223372036854775807) (hf : -9223372036854775808 ≤ far ∧ far ≤ 9223372036854775807) (hz : rtE C.length E.length base n far ≠ 0) :
    Calls Try.prog 25 #[.pointer (some ⟨p, 0, none⟩), .int .i64 base, .int .i64 n, .int .i64 far] w fun e w' => e = .returned (.int .i64 (rtE C.length E.length base n far)) ∧ ArTo w F p C E w' := by
  have hn2 := h.n2
  have HT : Hid (ArTo w F p C E ((w.alloc (.cells #[.int .i64 base] 3)).alloc (.cells #[.int .i64 far] 3))) := ArTo.box h (ArTo.box (h.box _) (ArTo.refl ((h.box _).box _)))
  have HA : Hid (Ar ((w.alloc (.cells #[.int .i64 base] 3)).alloc (.cells #[.int .i64 far] 3)) F p C E) := (h.box _).box _
  clear h
  by_cases h1 : n < 1 ∨ 288 < n
  · have HE := Lib.hid (show rtE C.length E.length base n far = 7 by unfold rtE; rw [if_pos h1])
    have HR := Lib.hid (nsteps_bad n h1)
    clear hz h1
    go_enter Try.func25, Try.ntmps25
    go_wp2_with fail
    refine (HR.out _).mono ?_
    rintro e w' ⟨rfl, rfl⟩
    go_wp2_with fail
    exact bodyPost_ret (v := .int .i64 7) (by simp [results, Try.f25, go_sem]) rfl ⟨by rw [HE.out], HT.out⟩
  obtain ⟨n, rfl⟩ := Int.eq_ofNat_of_zero_le (show 0 ≤ n by omega)
  have b1 : 1 ≤ n := by omega
  have b2 : n ≤ 288 := by omega
  have hL3 := (moves_le b1 b2).2.2
  have HST := Lib.hid (nsteps_ok n b1 b2)
  obtain ⟨L, hL⟩ : ∃ L : Int, ((16 * (moves n).length : Nat) : Int) = L := ⟨_, rfl⟩
  have HLL := Lib.hid hL
  have hL0 : 0 ≤ L := by omega
  have HST2 : Hid (∀ w, Calls Try.prog 11 #[.int .i64 n] w fun e w' => e = .returned (.tuple #[.int .i64 L, .int .i64 0]) ∧ w = w') := Lib.hid (fun w => by have := HST.out w; rw [hL] at this; exact this)
  have HH1 := Lib.hid (has_any HA.out base (3 * (n : Int)))
  have HH2 := Lib.hid (has_any HA.out far (n : Int))
  have HH3 := Lib.hid (room_any HA.out L)
  have hdef : rtE C.length E.length base n far = if hasE C.length base (3 * (n : Int)) = 0 then (if hasE C.length far n = 0 then (if far < base + 3 * (n : Int) ∧ base < far + (n : Int) then 2 else roomE E.length L) else hasE C.length far n) else hasE C.length base (3 * (n : Int)) := by
    unfold rtE
    rw [if_neg h1, Int.toNat_natCast, hL]
  have HDF := Lib.hid hdef
  clear hL HST HA hdef
  rcases hasE_cases2 C.length base (3 * (n : Int)) with ⟨a1, a2⟩ | ⟨a1, a2⟩
  · rw [a1] at HH1
    rcases hasE_cases2 C.length far (n : Int) with ⟨c1, c2⟩ | ⟨c1, c2⟩
    · rw [c1] at HH2
      by_cases ho : far < base + 3 * (n : Int) ∧ base < far + (n : Int)
      · have HE := Lib.hid (show rtE C.length E.length base n far = 2 by rw [HDF.out, if_pos a1, if_pos c1, if_pos ho])
        obtain ⟨o1, o2⟩ := ho
        have d1 : decide (far < base + 3 * (n : Int)) = true := decide_eq_true o1
        have d2 : decide (base < far + (n : Int)) = true := decide_eq_true o2
        clear hz h1 HDF a1 c1
        go_enter Try.func25, Try.ntmps25
        go_wp2_with fail
        refine (HST2.out _).mono ?_
        rintro e w' ⟨rfl, rfl⟩
        go_wp2_with fail
        refine HH1.out.mono ?_
        rintro e w' ⟨rfl, rfl⟩
        go_wp2_with fail
        refine HH2.out.mono ?_
        rintro e w' ⟨rfl, rfl⟩
        go_wp2_with fail
        exact bodyPost_ret (v := .int .i64 2) (by simp [results, Try.f25, go_sem]) rfl ⟨by rw [HE.out], HT.out⟩
      · have he : rtE C.length E.length base n far = roomE E.length L := by rw [HDF.out, if_pos a1, if_pos c1, if_neg ho]
        have hq : (roomE E.length L != 0) = true := by rw [bne_iff_ne, ← he]; exact hz
        have HE := Lib.hid he
        obtain ⟨e0, he0⟩ : ∃ e0, roomE E.length L = e0 := ⟨_, rfl⟩
        rw [he0] at HH3 hq HE
        have t1 : ¬ (far < base + 3 * (n : Int)) ∨ (far < base + 3 * (n : Int) ∧ ¬ (base < far + (n : Int))) := by omega
        clear hz h1 HDF a1 c1 ho he he0
        rcases t1 with t1 | ⟨t1, t2⟩
        all_goals
          go_enter Try.func25, Try.ntmps25
          go_wp2_with fail
          refine (HST2.out _).mono ?_
          rintro e w' ⟨rfl, rfl⟩
          go_wp2_with fail
          refine HH1.out.mono ?_
          rintro e w' ⟨rfl, rfl⟩
          go_wp2_with fail
          refine HH2.out.mono ?_
          rintro e w' ⟨rfl, rfl⟩
          go_wp2_with fail
          refine HH3.out.mono ?_
          rintro e w' ⟨rfl, rfl⟩
          go_wp2_with fail
          exact bodyPost_ret (v := .int .i64 e0) (by simp [results, Try.f25, go_sem]) rfl ⟨by rw [HE.out], HT.out⟩
    · have HE := Lib.hid (show rtE C.length E.length base n far = 7 by rw [HDF.out, if_pos a1, if_neg (by rw [c1]; decide), c1])
      rw [c1] at HH2
      clear hz h1 HDF a1 c1 c2
      go_enter Try.func25, Try.ntmps25
      go_wp2_with fail
      refine (HST2.out _).mono ?_
      rintro e w' ⟨rfl, rfl⟩
      go_wp2_with fail
      refine HH1.out.mono ?_
      rintro e w' ⟨rfl, rfl⟩
      go_wp2_with fail
      refine HH2.out.mono ?_
      rintro e w' ⟨rfl, rfl⟩
      go_wp2_with fail
      exact bodyPost_ret (v := .int .i64 7) (by simp [results, Try.f25, go_sem]) rfl ⟨by rw [HE.out], HT.out⟩
  · have HE := Lib.hid (show rtE C.length E.length base n far = 7 by rw [HDF.out, if_neg (by rw [a1]; decide), a1])
    rw [a1] at HH1
    clear hz h1 HDF a1 a2
    go_enter Try.func25, Try.ntmps25
    go_wp2_with fail
    refine (HST2.out _).mono ?_
    rintro e w' ⟨rfl, rfl⟩
    go_wp2_with fail
    refine HH1.out.mono ?_
    rintro e w' ⟨rfl, rfl⟩
    go_wp2_with fail
    exact bodyPost_ret (v := .int .i64 7) (by simp [results, Try.f25, go_sem]) rfl ⟨by rw [HE.out], HT.out⟩
theorem nroute_any (h : Ar w F p C E) (base n far : Int) (hb : -9223372036854775808 ≤ base ∧ base ≤ 9223372036854775807) (hf : -9223372036854775808 ≤ far ∧ far ≤ 9223372036854775807) :
    Calls Try.prog 25 #[.pointer (some ⟨p, 0, none⟩), .int .i64 base, .int .i64 n, .int .i64 far] w fun e w' => e = .returned (.int .i64 (rtE C.length E.length base n far)) ∧ ArTo w F p (rtR C E base n far).1 (rtR C E base n far).2 w' := by
  by_cases hz : rtE C.length E.length base n far = 0
  · obtain ⟨g1, g2, g3, g4, g5, _⟩ := rtE_zero hz
    obtain ⟨base, rfl⟩ := Int.eq_ofNat_of_zero_le g3
    obtain ⟨n, rfl⟩ := Int.eq_ofNat_of_zero_le (show 0 ≤ n by omega)
    obtain ⟨far, rfl⟩ := Int.eq_ofNat_of_zero_le g5
    have hr : rtR C E base n far = rtL base far (C, E) (moves n) := by unfold rtR; rw [if_pos hz]; rfl
    rw [hr, hz]
    exact nroute_ok h base n far hz
  · have hr : rtR C E base n far = (C, E) := by unfold rtR; rw [if_neg hz]
    rw [hr]
    exact nroute_err h base n far hb hf hz
end
theorem nroute_nil (w : World) : Calls Try.prog 25 #[.pointer none, .int .i64 0, .int .i64 1, .int .i64 3] w fun e w' => e = .returned (.int .i64 1) ∧ Off Nob w w' := by
  have HST := Lib.hid (nsteps_ok 1 (by decide) (by decide))
  go_enter Try.func25, Try.ntmps25
  go_wp2_with fail
  refine (HST.out _).mono ?_
  rintro e w' ⟨rfl, rfl⟩
  go_wp2_with fail
  refine (has_nil _ 0 3).mono ?_
  rintro e w' ⟨rfl, rfl⟩
  go_wp2_with fail
  exact bodyPost_ret (v := .int .i64 1) (by simp [results, Try.f25, go_sem]) rfl ⟨rfl, (Off.alloc (Off.refl Nob w) _).alloc _⟩
end Go.Proofs.Ytlefjlclhmapaaa
