/-
  compare.Sort over an arena, whatever it is asked.
-/
import Derived.Test.YtdgehacbpjgmcaaCmpSort
namespace Go.Proofs.Ytdgehacbpjgmcaa
open Go.RowKit Go.Shelf
set_option linter.unusedVariables false
set_option maxRecDepth 100000
section
variable {w : World} {F : Nat → Prop} {p : Nat} {C : List (BitVec 64)} {E : List Ev}
/-- The four boxes of Sort. -/
def soW (w : World) (p : Nat) (base n c : Int) : World := (((w.alloc (.cells #[.pointer (some ⟨p, 0, none⟩)] 24)).alloc (.cells #[.int .i64 base] 3)).alloc (.cells #[.int .i64 n] 3)).alloc (.cells #[.int .i64 c] 29)
theorem soW_ar (h : Ar w F p C E) (base n c : Int) : Ar (soW w p base n c) F p C E := (((h.box _).box _).box _).box _
theorem soW_to (h : Ar w F p C E) (base n c : Int) : ArTo w F p C E (soW w p base n c) :=
  ArTo.box h (ArTo.box (h.box _) (ArTo.box ((h.box _).box _) (ArTo.box (((h.box _).box _).box _) (ArTo.refl ((((h.box _).box _).box _).box _)))))
set_option maxHeartbeats 2000000 in
theorem csort_err (h : Ar w F p C E) (base many n : Int) (hz : soE C.length E.length base many n ≠ 0) :
    Calls Try.prog 14 #[.pointer (some ⟨p, 0, none⟩), .int .i64 base, .int .i64 many, .int .i64 n] w fun e w' => e = .returned (.int .i64 (soE C.length E.length base many n)) ∧ ArTo w F p C E w' := by
  have HT := Lib.hid (soW_to h base n)
  have HA := Lib.hid (soW_ar h base n 0)
  by_cases hb : many < 1 ∨ 16 < many ∨ n < 1 ∨ 64 < n
  · have HF := Lib.hid (show soE C.length E.length base many n = 7 by unfold soE; rw [if_pos (by omega)])
    clear hz h
    have hparts : many < 1 ∨ (¬ many < 1 ∧ 16 < many) ∨ (¬ many < 1 ∧ ¬ 16 < many ∧ n < 1) ∨ (¬ many < 1 ∧ ¬ 16 < many ∧ ¬ n < 1 ∧ 64 < n) := by omega
    clear hb
    rcases hparts with q1 | ⟨q1, q2⟩ | ⟨q1, q2, q3⟩ | ⟨q1, q2, q3, q4⟩
    all_goals
      go_enter Try.func14, Try.ntmps14
      go_wp2_with fail
      rw [HF.out]
      exact bodyPost_ret (v := .int .i64 7) (by simp [results, Try.f14, go_sem]) rfl ⟨rfl, HT.out 7⟩
  · have m0 : 0 ≤ many * n := Int.mul_nonneg (by omega) (by omega)
    have m1 : many * n ≤ 16 * 64 := Int.mul_le_mul (by omega) (by omega) (by omega) (by omega)
    have q1 : ¬ many < 1 := by omega
    have q2 : ¬ 16 < many := by omega
    have q3 : ¬ n < 1 := by omega
    have q4 : ¬ 64 < n := by omega
    by_cases hm : 64 < many * n
    · have HF := Lib.hid (show soE C.length E.length base many n = 7 by unfold soE; rw [if_pos (by omega)])
      have hq : decide (64 < many * n) = true := decide_eq_true hm
      clear hz h hb hm
      go_enter Try.func14, Try.ntmps14
      go_wp2_with fail
      rw [HF.out]
      exact bodyPost_ret (v := .int .i64 7) (by simp [results, Try.f14, go_sem]) rfl ⟨rfl, HT.out 7⟩
    · have hq : decide (64 < many * n) = false := decide_eq_false hm
      have hn : ¬ (many < 1 ∨ 16 < many ∨ n < 1 ∨ 64 < n ∨ 64 < many * n) := by omega
      have HH := Lib.hid (has_any HA.out base (many * n))
      by_cases hh : hasE C.length base (many * n) = 0
      · have HK := Lib.hid hh
        have HF := Lib.hid (show soE C.length E.length base many n = roomE E.length ((4 * n + 2) * many * (many - 1) / 2) by unfold soE; rw [if_neg hn, if_pos hh])
        have HR := Lib.hid (room_any HA.out ((4 * n + 2) * many * (many - 1) / 2))
        have hq2 : (roomE E.length ((4 * n + 2) * many * (many - 1) / 2) != 0) = true := by rw [bne_iff_ne, ← HF.out]; exact hz
        have p0 : 0 ≤ (4 * n + 2) * many := Int.mul_nonneg (by omega) (by omega)
        have p1 : (4 * n + 2) * many ≤ 258 * 16 := Int.mul_le_mul (by omega) (by omega) (by omega) (by omega)
        have p2 : 0 ≤ (4 * n + 2) * many * (many - 1) := Int.mul_nonneg p0 (by omega)
        have p3 : (4 * n + 2) * many * (many - 1) ≤ 258 * 16 * 15 := Int.mul_le_mul p1 (by omega) (by omega) (by omega)
        clear hz h hb hm hn hh
        go_enter Try.func14, Try.ntmps14
        go_wp2_with fail
        refine Calls.mono (R := fun e w' => e = .returned (.int .i64 0) ∧ soW w p base n 0 = w') (by have := HH.out; rwa [HK.out] at this) ?_
        rintro e w' ⟨rfl, hw⟩
        unfold soW at hw
        subst hw
        go_wp2_with fail
        refine HR.out.mono ?_
        rintro e w' ⟨rfl, hw⟩
        unfold soW at hw
        subst hw
        go_wp2_with fail
        rw [HF.out]
        exact bodyPost_ret (v := .int .i64 (roomE E.length ((4 * n + 2) * many * (many - 1) / 2))) (by simp [results, Try.f14, go_sem]) rfl ⟨rfl, HT.out _⟩
      · have HF := Lib.hid (show soE C.length E.length base many n = hasE C.length base (many * n) by unfold soE; rw [if_neg hn, if_neg hh])
        have hq2 : (hasE C.length base (many * n) != 0) = true := by rw [bne_iff_ne]; exact hh
        clear hz h hb hm hn hh
        go_enter Try.func14, Try.ntmps14
        go_wp2_with fail
        refine HH.out.mono ?_
        rintro e w' ⟨rfl, hw⟩
        unfold soW at hw
        subst hw
        go_wp2_with fail
        rw [HF.out]
        exact bodyPost_ret (v := .int .i64 (hasE C.length base (many * n))) (by simp [results, Try.f14, go_sem]) rfl ⟨rfl, HT.out _⟩
theorem csort_any (h : Ar w F p C E) (base many n : Int) :
    Calls Try.prog 14 #[.pointer (some ⟨p, 0, none⟩), .int .i64 base, .int .i64 many, .int .i64 n] w (ErPost w F p (soR C E base many n).1 (soR C E base many n).2) := by
  by_cases hz : soE C.length E.length base many n = 0
  · obtain ⟨g1, _, g3, _, _, g6, _⟩ := soE_zero hz
    obtain ⟨base, rfl⟩ := Int.eq_ofNat_of_zero_le g6
    obtain ⟨many, rfl⟩ := Int.eq_ofNat_of_zero_le (show 0 ≤ many by omega)
    obtain ⟨n, rfl⟩ := Int.eq_ofNat_of_zero_le (show 0 ≤ n by omega)
    have hr : soR C E base many n = (0, soL base n (C, E) (pl (many - 1))) := by unfold soR; rw [if_pos hz]; rfl
    rw [hr]
    exact csort_ok h base many n hz
  · have hr : soR C E base many n = (soE C.length E.length base many n, (C, E)) := by unfold soR; rw [if_neg hz]
    rw [hr]
    exact csort_err h base many n hz
end
end Go.Proofs.Ytdgehacbpjgmcaa
