/-
  compare.EqualRows, LessRows, exchange, Exchange over an arena.
-/
import Derived.Test.YtdgehacbpjgmcaaCmpRows
namespace Go.Proofs.Ytdgehacbpjgmcaa
open Go.RowKit
attribute [local go_sem] bits_and_u64 bits_or_u64 bits_xor_u64 bits_andNot_u64 wrap_u64 bv_add bv_neg bv_sub bv_mul
set_option linter.unusedVariables false
set_option maxRecDepth 100000
section
variable {w : World} {F : Nat → Prop} {p : Nat} {C : List (BitVec 64)} {E : List Ev}
set_option maxHeartbeats 1000000 in
theorem crows_err (h : Ar w F p C E) (x y n : Int) (hz : crE C.length E.length x y n ≠ 0) :
    Calls Try.prog 39 #[.pointer (some ⟨p, 0, none⟩), .int .i64 x, .int .i64 y, .int .i64 n] w fun e w' => e = .returned (.tuple #[.int .u64 0, .int .u64 0, .int .i64 (crE C.length E.length x y n)]) ∧ w = w' := by
  have H := Lib.hid h
  clear h
  by_cases hc : ccE C.length x y n = 0
  · have HK := Lib.hid hc
    have HF := Lib.hid (show crE C.length E.length x y n = roomE E.length (2 * n) by unfold crE; rw [if_pos hc])
    have hq : (roomE E.length (2 * n) != 0) = true := by rw [bne_iff_ne, ← HF.out]; exact hz
    obtain ⟨g1, g2, _⟩ := ccE_zero hc
    clear hc hz
    go_enter Try.func39, Try.ntmps39
    go_wp2_with fail
    refine Calls.mono (R := fun e w' => e = .returned (.int .i64 0) ∧ w = w') (by have := ccheck_any H.out x y n; rwa [HK.out] at this) ?_
    rintro e w' ⟨rfl, rfl⟩
    go_wp2_with fail
    refine (room_any H.out (2 * n)).mono ?_
    rintro e w' ⟨rfl, rfl⟩
    go_wp2_with fail
    go_ret3
    exact ⟨by rw [HF.out]; rfl, rfl⟩
  · have HF := Lib.hid (show crE C.length E.length x y n = ccE C.length x y n by unfold crE; rw [if_neg hc])
    have hq : (ccE C.length x y n != 0) = true := by rw [bne_iff_ne]; exact hc
    clear hc hz
    go_enter Try.func39, Try.ntmps39
    go_wp2_with fail
    refine (ccheck_any H.out x y n).mono ?_
    rintro e w' ⟨rfl, rfl⟩
    go_wp2_with fail
    go_ret3
    exact ⟨by rw [HF.out]; rfl, rfl⟩
theorem crows_any (h : Ar w F p C E) (x y n : Int) :
    Calls Try.prog 39 #[.pointer (some ⟨p, 0, none⟩), .int .i64 x, .int .i64 y, .int .i64 n] w (Ve3Post w F p (crR C E x y n)) := by
  by_cases hz : crE C.length E.length x y n = 0
  · obtain ⟨⟨g1, g2, g3, g4, g5, g6⟩, g7⟩ := crE_zero hz
    obtain ⟨x, rfl⟩ := Int.eq_ofNat_of_zero_le g3
    obtain ⟨y, rfl⟩ := Int.eq_ofNat_of_zero_le g5
    obtain ⟨n, rfl⟩ := Int.eq_ofNat_of_zero_le (show 0 ≤ n by omega)
    have hr : crR C E x y n = ((msk (ordR C x y n).1, msk (ordR C x y n).2, 0), (C, evR x y E n)) := by unfold crR; rw [if_pos hz]; rfl
    rw [hr]
    exact crows_ok h x y n hz
  · have hr : crR C E x y n = ((0#64, 0#64, crE C.length E.length x y n), (C, E)) := by unfold crR; rw [if_neg hz]
    rw [hr]
    exact (crows_err h x y n hz).mono fun e w' ⟨h1, h2⟩ => ⟨h1, h2 ▸ ArTo.refl h⟩
/-- What EqualRows, LessRows return, and leave. -/
def Ve2Post (w : World) (F : Nat → Prop) (p : Nat) (v : BitVec 64) (c : Int) (r : List (BitVec 64) × List Ev) (e : Ending) (w' : World) : Prop :=
  e = .returned (.tuple #[.int .u64 (n64 v), .int .i64 c]) ∧ ArTo w F p r.1 r.2 w'
theorem eqRows_any (h : Ar w F p C E) (x y n : Int) :
    Calls Try.prog 12 #[.pointer (some ⟨p, 0, none⟩), .int .i64 x, .int .i64 y, .int .i64 n] w (Ve2Post w F p (crR C E x y n).1.1 (crR C E x y n).1.2.2 (crR C E x y n).2) := by
  have HO := Lib.hid (crows_any h x y n)
  clear h
  go_enter Try.func12, Try.ntmps12
  go_wp2_with fail
  refine HO.out.mono ?_
  rintro e w1 ⟨rfl, h1⟩
  have H1 := Lib.hid h1
  clear h1
  go_wp2
  go_ret2
  exact ⟨rfl, H1.out⟩
theorem ltRows_any (h : Ar w F p C E) (x y n : Int) :
    Calls Try.prog 11 #[.pointer (some ⟨p, 0, none⟩), .int .i64 x, .int .i64 y, .int .i64 n] w (Ve2Post w F p (crR C E x y n).1.2.1 (crR C E x y n).1.2.2 (crR C E x y n).2) := by
  have HO := Lib.hid (crows_any h x y n)
  clear h
  go_enter Try.func11, Try.ntmps11
  go_wp2_with fail
  refine HO.out.mono ?_
  rintro e w1 ⟨rfl, h1⟩
  have H1 := Lib.hid h1
  clear h1
  go_wp2
  go_ret2
  exact ⟨rfl, H1.out⟩
theorem rw_ok (nC nE : Nat) (b : Bool) (x y n : Int) (h1 : 1 ≤ n) (h2 : n ≤ 64) (h3 : 0 ≤ x) (h4 : x + n ≤ nC) (h5 : 0 ≤ y) (h6 : y + n ≤ nC) (hd : ¬ (x < y + n ∧ y < x + n)) (he : nE + 4 * n ≤ 8388608) : rwE nC nE (msk b) x y n 4 = 0 := by
  have g1 : hasE nC x n = 0 := by unfold hasE; rw [if_neg (by omega)]
  have g2 : hasE nC y n = 0 := by unfold hasE; rw [if_neg (by omega)]
  have g3 : roomE nE 0 = 0 := by unfold roomE; rw [if_neg (by omega), if_neg (by omega)]
  have g4 : roomE nE (4 * n) = 0 := by unfold roomE; rw [if_neg (by omega), if_neg (by omega)]
  have g5 : rowsE nC n [x, y] = 0 := by rw [rowsE_cons, if_pos g1, rowsE_cons, if_pos g2]; rfl
  have g6 : ckE nC nE (msk b) n 0 [x, y] = 0 := by unfold ckE; rw [if_pos (isM_msk b), if_pos g5, g3]
  unfold rwE
  rw [if_pos (isM_msk b), if_neg (by omega), if_pos g6, if_neg hd, g4]
set_option maxHeartbeats 1000000 in
theorem cexch_ok (h : Ar w F p C E) (x y n : Nat) (h1 : 1 ≤ n) (h2 : n ≤ 64) (h4 : x + n ≤ C.length) (h6 : y + n ≤ C.length) (hd : ¬ (x < y + n ∧ y < x + n)) (he : E.length + (4 * n + 2) ≤ 8388608) :
    Calls Try.prog 44 #[.pointer (some ⟨p, 0, none⟩), .int .i64 (x : Int), .int .i64 (y : Int), .int .i64 (n : Int)] w fun e w' => e = .returned (.int .i64 0) ∧ ArTo w F p (exF n (C, E) x y).1 (exF n (C, E) x y).2 w' := by
  have H := Lib.hid h
  have HRW := Lib.hid (rw_ok C.length (E ++ [(1, x)] ++ [(1, y)]).length (decide ((cl C y).toNat < (cl C x).toNat)) x y n (by omega) (by omega) (by omega) (by omega) (by omega) (by omega) (by omega) (by simp; omega))
  clear h hd
  go_enter Try.func44, Try.ntmps44
  go_wp2_with fail
  refine Calls.mono (R := fun e w' => e = .returned (.tuple #[.int .u64 (n64 (cl C x)), .int .i64 0]) ∧ ArTo w F p C (E ++ [(1, x)]) w') (load_ok H.out (x : Int) (by omega) (by omega) (by omega)) ?_
  rintro e w1 ⟨rfl, h1⟩
  have H1 := Lib.hid h1
  clear h1
  go_wp2_with fail
  refine Calls.mono (R := fun e w' => e = .returned (.tuple #[.int .u64 (n64 (cl C y)), .int .i64 0]) ∧ ArTo w1 (Grow F w w1) p C (E ++ [(1, x)] ++ [(1, y)]) w') (load_ok H1.out.1 (y : Int) (by omega) (by omega) (by simp; omega)) ?_
  rintro e w2 ⟨rfl, h2⟩
  have H2 := Lib.hid (H1.out.trans h2)
  clear h2 H1
  go_wp2_with fail
  refine (less_any _ _ w2).mono ?_
  rintro e w' ⟨rfl, rfl⟩
  have HS := Lib.hid (swapRows_any H2.out.1 (ltM (cl C y) (cl C x)) x y n)
  go_wp2_with fail
  refine Calls.mono (R := fun e w' => e = .returned (.int .i64 0) ∧ ArTo w2 (Grow F w w2) p (exF n (C, E) x y).1 (exF n (C, E) x y).2 w') (by
    have := HS.out
    unfold rwR at this
    rw [if_pos (show rwE _ _ (ltM (cl C y) (cl C x)) _ _ _ _ = 0 from HRW.out)] at this
    have e1 : (C, E ++ [(1, x)] ++ [(1, y)]) = (C, E ++ [(1, x), (1, y)]) := by simp
    rw [e1] at this
    exact this) ?_
  rintro e w3 ⟨rfl, h3⟩
  have H3 := Lib.hid (H2.out.trans h3)
  clear h3
  go_wp2
  go_ret
  exact ⟨rfl, H3.out⟩
set_option maxHeartbeats 1000000 in
theorem cExch_ok (h : Ar w F p C E) (x y n : Nat) (hz : exE C.length E.length x y n = 0) :
    Calls Try.prog 32 #[.pointer (some ⟨p, 0, none⟩), .int .i64 (x : Int), .int .i64 (y : Int), .int .i64 (n : Int)] w fun e w' => e = .returned (.int .i64 0) ∧ ArTo w F p (exF n (C, E) x y).1 (exF n (C, E) x y).2 w' := by
  have hn2 := h.n2
  have H := Lib.hid h
  have hc : ccE C.length x y n = 0 := by
    unfold exE at hz
    split at hz
    · assumption
    · rename_i h1; exact absurd hz h1
  obtain ⟨⟨g1, g2, g3, g4, g5, g6⟩, hd, g7⟩ := exE_zero hz
  have hr : roomE E.length (4 * (n : Int) + 2) = 0 := by unfold exE at hz; rwa [if_pos hc, if_neg hd] at hz
  have HK := Lib.hid hc
  have HR := Lib.hid hr
  have HX := Lib.hid (cexch_ok h x y n (by omega) (by omega) (by omega) (by omega) (by omega) (by omega))
  have hxy : ¬ (x : Int) < (y : Int) + n ∨ ((x : Int) < (y : Int) + n ∧ ¬ (y : Int) < (x : Int) + n) := by omega
  clear h hz hc hr hd g7
  rcases hxy with hxy | ⟨hxy, hyx⟩
  all_goals
    go_enter Try.func32, Try.ntmps32
    go_wp2_with fail
    refine Calls.mono (R := fun e w' => e = .returned (.int .i64 0) ∧ w = w') (by have := ccheck_any H.out x y n; rwa [HK.out] at this) ?_
    rintro e w' ⟨rfl, rfl⟩
    go_wp2_with fail
    refine Calls.mono (R := fun e w' => e = .returned (.int .i64 0) ∧ w = w') (by have := room_any H.out (4 * (n : Int) + 2); rwa [HR.out] at this) ?_
    rintro e w' ⟨rfl, rfl⟩
    go_wp2_with fail
    refine HX.out.mono ?_
    rintro e w1 ⟨rfl, h1⟩
    have H1 := Lib.hid h1
    clear h1
    go_wp2
    go_ret
    exact ⟨rfl, H1.out⟩
set_option maxHeartbeats 1000000 in
theorem cExch_err (h : Ar w F p C E) (x y n : Int) (hz : exE C.length E.length x y n ≠ 0) :
    Calls Try.prog 32 #[.pointer (some ⟨p, 0, none⟩), .int .i64 x, .int .i64 y, .int .i64 n] w fun e w' => e = .returned (.int .i64 (exE C.length E.length x y n)) ∧ w = w' := by
  have hn2 := h.n2
  have H := Lib.hid h
  clear h
  by_cases hc : ccE C.length x y n = 0
  · have HK := Lib.hid hc
    obtain ⟨g1, g2, g3, g4, g5, g6⟩ := ccE_zero hc
    by_cases hd : x < y + n ∧ y < x + n
    · have HF := Lib.hid (show exE C.length E.length x y n = 2 by unfold exE; rw [if_pos hc, if_pos hd])
      obtain ⟨d1, d2⟩ := hd
      clear hc hz
      go_enter Try.func32, Try.ntmps32
      go_wp2_with fail
      refine Calls.mono (R := fun e w' => e = .returned (.int .i64 0) ∧ w = w') (by have := ccheck_any H.out x y n; rwa [HK.out] at this) ?_
      rintro e w' ⟨rfl, rfl⟩
      go_wp2_with fail
      go_ret
      exact ⟨by rw [HF.out]; rfl, rfl⟩
    · have HF := Lib.hid (show exE C.length E.length x y n = roomE E.length (4 * n + 2) by unfold exE; rw [if_pos hc, if_neg hd])
      have hq : (roomE E.length (4 * n + 2) != 0) = true := by rw [bne_iff_ne, ← HF.out]; exact hz
      have hxy : ¬ x < y + n ∨ (x < y + n ∧ ¬ y < x + n) := by omega
      clear hc hz hd
      rcases hxy with hxy | ⟨hxy, hyx⟩
      all_goals
        go_enter Try.func32, Try.ntmps32
        go_wp2_with fail
        refine Calls.mono (R := fun e w' => e = .returned (.int .i64 0) ∧ w = w') (by have := ccheck_any H.out x y n; rwa [HK.out] at this) ?_
        rintro e w' ⟨rfl, rfl⟩
        go_wp2_with fail
        refine (room_any H.out (4 * n + 2)).mono ?_
        rintro e w' ⟨rfl, rfl⟩
        go_wp2_with fail
        go_ret
        exact ⟨by rw [HF.out]; rfl, rfl⟩
  · have HF := Lib.hid (show exE C.length E.length x y n = ccE C.length x y n by unfold exE; rw [if_neg hc])
    have hq : (ccE C.length x y n != 0) = true := by rw [bne_iff_ne]; exact hc
    clear hc hz
    go_enter Try.func32, Try.ntmps32
    go_wp2_with fail
    refine (ccheck_any H.out x y n).mono ?_
    rintro e w' ⟨rfl, rfl⟩
    go_wp2_with fail
    go_ret
    exact ⟨by rw [HF.out]; rfl, rfl⟩
theorem cExch_any (h : Ar w F p C E) (x y n : Int) :
    Calls Try.prog 32 #[.pointer (some ⟨p, 0, none⟩), .int .i64 x, .int .i64 y, .int .i64 n] w (ErPost w F p (exR C E x y n).1 (exR C E x y n).2) := by
  by_cases hz : exE C.length E.length x y n = 0
  · obtain ⟨⟨g1, g2, g3, g4, g5, g6⟩, _⟩ := exE_zero hz
    obtain ⟨x, rfl⟩ := Int.eq_ofNat_of_zero_le g3
    obtain ⟨y, rfl⟩ := Int.eq_ofNat_of_zero_le g5
    obtain ⟨n, rfl⟩ := Int.eq_ofNat_of_zero_le (show 0 ≤ n by omega)
    have hr : exR C E x y n = (0, exF n (C, E) x y) := by unfold exR; rw [if_pos hz]; rfl
    rw [hr]
    exact cExch_ok h x y n hz
  · have hr : exR C E x y n = (exE C.length E.length x y n, (C, E)) := by unfold exR; rw [if_neg hz]
    rw [hr]
    exact (cExch_err h x y n hz).mono fun e w' ⟨h1, h2⟩ => ⟨h1, h2 ▸ ArTo.refl h⟩
end
end Go.Proofs.Ytdgehacbpjgmcaa
