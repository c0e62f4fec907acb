/-
  dragnetref08.exchange, Exchange, Sort over the specification's arena.
-/
import Derived.Test.YtdgehacbpjgmcaaRef08Ops
import Derived.Test.YtdgehacbpjgmcaaCmpSortAny
namespace Go.Proofs.Ytdgehacbpjgmcaa
open Go.RowKit
set_option linter.unusedVariables false
set_option maxRecDepth 100000
section
variable {w : World} {F : Nat → Prop} {r : Nat} {C : List (BitVec 64)} {E : List Ev}
set_option maxHeartbeats 1000000 in
theorem rexch_ok (h : Rf w F r C E) (x y n : Nat) (h1 : 1 ≤ n) (h2 : n ≤ 64) (h4 : x + n ≤ C.length) (h6 : y + n ≤ C.length) (hd : ¬ (x < y + n ∧ y < x + n)) (he : E.length + (4 * n + 2) ≤ 8388608) :
    Calls Try.prog 72 #[.pointer (some ⟨r, 0, none⟩), .int .i64 (x : Int), .int .i64 (y : Int), .int .i64 (n : Int)] w fun e w' => e = .returned (.tuple #[]) ∧ RfTo w F r (exF n (C, E) x y).1 (exF n (C, E) x y).2 w' := by
  have H := Lib.hid h
  have HRW := Lib.hid (rw_ok C.length (E ++ [(1, x)] ++ [(1, y)]).length (decide ((cl C y).toNat < (cl C x).toNat)) x y n (by omega) (by omega) (by omega) (by omega) (by omega) (by omega) (by omega) (by simp; omega))
  have HE := Lib.hid he
  clear h hd he
  go_enter Try.func72, Try.ntmps72
  go_wp2_with fail
  refine Calls.mono (R := fun e w' => e = .returned (.tuple #[.int .u64 (n64 (cl C x)), .int .i64 0]) ∧ RfTo w F r C (E ++ [(1, x)]) w') (rload_ok H.out (x : Int) (by omega) (by omega) (by have := HE.out; omega)) ?_
  rintro e w1 ⟨rfl, h1⟩
  have H1 := Lib.hid h1
  clear h1
  go_wp2_with fail
  refine Calls.mono (R := fun e w' => e = .returned (.tuple #[.int .u64 (n64 (cl C y)), .int .i64 0]) ∧ RfTo w1 (Grow F w w1) r C (E ++ [(1, x)] ++ [(1, y)]) w') (rload_ok H1.out.1 (y : Int) (by omega) (by omega) (by have := HE.out; simp; omega)) ?_
  rintro e w2 ⟨rfl, h2⟩
  have H2 := Lib.hid (H1.out.trans h2)
  clear h2 H1
  go_wp2_with fail
  refine (rless_any _ _ w2).mono ?_
  rintro e w' ⟨rfl, rfl⟩
  have HS := Lib.hid (rswapRows_any H2.out.1 (ltM (cl C y) (cl C x)) x y n)
  go_wp2_with fail
  refine Calls.mono (R := fun e w' => e = .returned (.int .i64 0) ∧ RfTo w2 (Grow F w w2) r (exF n (C, E) x y).1 (exF n (C, E) x y).2 w') (by
    have := HS.out
    unfold rwR at this
    rw [if_pos (show rwE _ _ (ltM (cl C y) (cl C x)) _ _ _ _ = 0 from HRW.out)] at this
    have e1 : (C, E ++ [(1, x)] ++ [(1, y)]) = (C, E ++ [(1, x), (1, y)]) := by simp
    rw [e1] at this
    exact this) ?_
  rintro e w3 ⟨rfl, h3⟩
  have H3 := Lib.hid (H2.out.trans h3)
  clear h3
  go_wp2
  go_end0
  exact ⟨rfl, H3.out⟩
set_option maxHeartbeats 2000000 in
theorem rExch_any (h : Rf w F r C E) (x y n : Int) :
    Calls Try.prog 54 #[.pointer (some ⟨r, 0, none⟩), .int .i64 x, .int .i64 y, .int .i64 n] w (RErPost w F r (exR C E x y n).1 (exR C E x y n).2) := by
  have hn2 := h.n2
  have H := Lib.hid h
  by_cases hc : ccE C.length x y n = 0
  · have HK := Lib.hid hc
    obtain ⟨g1, g2, g3, g4, g5, g6⟩ := ccE_zero hc
    by_cases hd : x < y + n ∧ y < x + n
    · have HF := Lib.hid (show exR C E x y n = (2, (C, E)) by unfold exR exE; rw [if_pos hc, if_pos hd]; rfl)
      obtain ⟨d1, d2⟩ := hd
      clear hc h
      go_enter Try.func54, Try.ntmps54
      go_wp2_with fail
      refine Calls.mono (R := fun e w' => e = .returned (.int .i64 0) ∧ w = w') (by have := r8rows_any H.out x y n; rwa [HK.out] at this) ?_
      rintro e w' ⟨rfl, rfl⟩
      go_wp2_with fail
      go_ret
      rw [HF.out]
      exact ⟨rfl, RfTo.refl H.out⟩
    · have hxy : ¬ x < y + n ∨ (x < y + n ∧ ¬ y < x + n) := by omega
      by_cases hr : roomE E.length (4 * n + 2) = 0
      · have HR := Lib.hid hr
        obtain ⟨x, rfl⟩ := Int.eq_ofNat_of_zero_le g3
        obtain ⟨y, rfl⟩ := Int.eq_ofNat_of_zero_le g5
        obtain ⟨n, rfl⟩ := Int.eq_ofNat_of_zero_le (show 0 ≤ n by omega)
        have HF := Lib.hid (show exR C E x y n = (0, exF n (C, E) x y) by unfold exR exE; rw [if_pos hc, if_neg hd, if_pos hr]; rfl)
        have HX := Lib.hid (rexch_ok h x y n (by omega) (by omega) (by omega) (by omega) (by omega) (by have := (roomE_zero hr).2; omega))
        clear hc hd hr h
        rcases hxy with hxy | ⟨hxy, hyx⟩
        all_goals
          go_enter Try.func54, Try.ntmps54
          go_wp2_with fail
          refine Calls.mono (R := fun e w' => e = .returned (.int .i64 0) ∧ w = w') (by have := r8rows_any H.out x y n; rwa [HK.out] at this) ?_
          rintro e w' ⟨rfl, rfl⟩
          go_wp2_with fail
          refine Calls.mono (R := fun e w' => e = .returned (.int .i64 0) ∧ w = w') (by have := rroom_any H.out (4 * (n : Int) + 2); rwa [HR.out] at this) ?_
          rintro e w' ⟨rfl, rfl⟩
          go_wp2_with fail
          refine HX.out.mono ?_
          rintro e w1 ⟨rfl, h1⟩
          have H1 := Lib.hid h1
          clear h1
          go_wp2
          go_ret
          rw [HF.out]
          exact ⟨rfl, H1.out⟩
      · have HF := Lib.hid (show exR C E x y n = (roomE E.length (4 * n + 2), (C, E)) by unfold exR exE; rw [if_pos hc, if_neg hd, if_neg hr])
        have hq2 : (roomE E.length (4 * n + 2) == 0) = false := by rw [beq_eq_false_iff_ne]; exact hr
        clear hc hd hr h
        rcases hxy with hxy | ⟨hxy, hyx⟩
        all_goals
          go_enter Try.func54, Try.ntmps54
          go_wp2_with fail
          refine Calls.mono (R := fun e w' => e = .returned (.int .i64 0) ∧ w = w') (by have := r8rows_any H.out x y n; rwa [HK.out] at this) ?_
          rintro e w' ⟨rfl, rfl⟩
          go_wp2_with fail
          refine (rroom_any H.out (4 * n + 2)).mono ?_
          rintro e w' ⟨rfl, rfl⟩
          go_wp2_with fail
          go_ret
          rw [HF.out]
          exact ⟨rfl, RfTo.refl H.out⟩
  · have HF := Lib.hid (show exR C E x y n = (ccE C.length x y n, (C, E)) by unfold exR exE; rw [if_neg hc, if_neg hc])
    have hq2 : (ccE C.length x y n == 0) = false := by rw [beq_eq_false_iff_ne]; exact hc
    clear hc h
    go_enter Try.func54, Try.ntmps54
    go_wp2_with fail
    refine (r8rows_any H.out x y n).mono ?_
    rintro e w' ⟨rfl, rfl⟩
    go_wp2_with fail
    go_ret
    rw [HF.out]
    exact ⟨rfl, RfTo.refl H.out⟩
/-- Pairs are still to be put in order. -/
def SoRel (w : World) (F : Nat → Prop) (r : Nat) (C : List (BitVec 64)) (base n : Nat) (T : List (BitVec 64) × List Ev) (rest : List Nat) (wr : World) : Prop :=
  ∃ s : List (BitVec 64) × List Ev, RfTo w F r s.1 s.2 wr ∧ soL base n s rest = T ∧ s.1.length = C.length ∧ s.2.length + (4 * n + 2) * rest.length ≤ 8388608
set_option maxHeartbeats 4000000 in
theorem rsort_ok (h : Rf w F r C E) (base many n : Nat) (hz : soE C.length E.length base many n = 0) :
    Calls Try.prog 55 #[.pointer (some ⟨r, 0, none⟩), .int .i64 (base : Int), .int .i64 (many : Int), .int .i64 (n : Int)] w fun e w' => e = .returned (.int .i64 0) ∧ RfTo w F r (soL base n (C, E) (pl (many - 1))).1 (soL base n (C, E) (pl (many - 1))).2 w' := by
  obtain ⟨g1, g2, g3, g4, g5, g6, g7, g8⟩ := soE_zero hz
  have hn2 := h.n2
  have H := Lib.hid h
  have m0 : 0 ≤ (many : Int) * n := Int.mul_nonneg (by omega) (by omega)
  have hq1 : decide (64 < (many : Int) * n) = false := decide_eq_false (by omega)
  have p0 : 0 ≤ (4 * (n : Int) + 2) * many := Int.mul_nonneg (by omega) (by omega)
  have p1 : (4 * (n : Int) + 2) * many ≤ 258 * 16 := Int.mul_le_mul (by omega) (by omega) (by omega) (by omega)
  have p2 : 0 ≤ (4 * (n : Int) + 2) * many * ((many : Int) - 1) := Int.mul_nonneg p0 (by omega)
  have p3 : (4 * (n : Int) + 2) * many * ((many : Int) - 1) ≤ 258 * 16 * 15 := Int.mul_le_mul p1 (by omega) (by omega) (by omega)
  have hb : ¬ ((many : Int) < 1 ∨ 16 < (many : Int) ∨ (n : Int) < 1 ∨ 64 < (n : Int) ∨ 64 < (many : Int) * n) := by omega
  have hz1 : hasE C.length base ((many : Int) * n) = 0 := by unfold hasE; rw [if_neg (by omega)]
  have hz2 : roomE E.length ((4 * (n : Int) + 2) * many * ((many : Int) - 1) / 2) = 0 := by unfold soE at hz; rwa [if_neg hb, if_pos hz1] at hz
  have HZ1 := Lib.hid hz1
  have HZ2 := Lib.hid hz2
  have q1 : decide ((many : Int) < 1) = false := decide_eq_false (by omega)
  have q2 : decide (16 < (many : Int)) = false := decide_eq_false (by omega)
  have q3 : decide ((n : Int) < 1) = false := decide_eq_false (by omega)
  have q4 : decide (64 < (n : Int)) = false := decide_eq_false (by omega)
  obtain ⟨T, hT⟩ : ∃ T, soL base n (C, E) (pl (many - 1)) = T := ⟨_, rfl⟩
  have HST : Hid (SoRel w F r C base n T (pl (many - 1)) w) := Lib.hid ⟨(C, E), RfTo.refl h, hT, rfl, by
    rw [pl_tot n many (by omega)] at g8
    show E.length + _ ≤ _
    omega⟩
  rw [hT]
  clear h hz g8 hb hz1 hz2 hT
  go_enter Try.func55, Try.ntmps55
  go_wp2_with fail
  refine Calls.mono (R := fun e w' => e = .returned (.int .i64 0) ∧ w = w') (by have := rhas_any H.out base ((many : Int) * n); rwa [HZ1.out] at this) ?_
  rintro e w' ⟨rfl, rfl⟩
  go_wp2_with fail
  refine Calls.mono (R := fun e w' => e = .returned (.int .i64 0) ∧ w = w') (by have := rroom_any H.out ((4 * (n : Int) + 2) * many * ((many : Int) - 1) / 2); rwa [HZ2.out] at this) ?_
  rintro e w' ⟨rfl, rfl⟩
  go_wp2_with fail
  go_loopw [10] (fun q wr => ∃ k : Nat, q = .int .i64 (k : Int) ∧ k + 1 ≤ many ∧ SoRel w F r C base n T (pl (many - 1 - k)) wr) (fun q _ => many - (intOf q).toNat)
  case atStart => exact ⟨0, rfl, by omega, HST.out⟩
  case round =>
    obtain ⟨k, rfl, hk, hrel⟩ := hrel
    have HR := Lib.hid hrel
    clear hrel HST
    by_cases hlt : k + 1 < many
    · have HR2 : Hid (SoRel w F r C base n T ((List.range (many - 1 - k)).drop 0 ++ pl (many - 1 - (k + 1))) wr) := by
        have := HR.out
        obtain ⟨e, he⟩ : ∃ e, many - 1 - k = e + 1 := ⟨many - 1 - k - 1, by omega⟩
        rw [he] at this ⊢
        rw [show many - 1 - (k + 1) = e by omega]
        exact Lib.hid this
      clear HR
      have t0 : decide ((k : Int) + 1 < (many : Int)) = true := decide_eq_true (by omega)
      have t00 : decide (k + 1 < many) = true := decide_eq_true hlt
      go_wp2_with fail
      obtain ⟨wo, hwo⟩ : ∃ wo : World, wo = wr := ⟨_, rfl⟩
      rw [← hwo] at HR2 ⊢
      clear hwo
      go_loopw [11] (fun q wq => ∃ i : Nat, q = .int .i64 (i : Int) ∧ i ≤ many - 1 - k ∧ SoRel w F r C base n T ((List.range (many - 1 - k)).drop i ++ pl (many - 1 - (k + 1))) wq) (fun q _ => many - (intOf q).toNat)
      case atStart => exact ⟨0, rfl, by omega, HR2.out⟩
      case round =>
        obtain ⟨i, rfl, hi, hrel2⟩ := hrel
        have HQ := Lib.hid hrel2
        clear hrel2 HR2
        by_cases hi2 : i < many - 1 - k
        · obtain ⟨s, hs1, hs2, hs3, hs4⟩ := HQ.out
          rw [range_from i _ hi2] at hs2 hs4
          have a1 : 0 ≤ (i : Int) * n := Int.mul_nonneg (by omega) (by omega)
          have a2 : ((i : Int) + 2) * n ≤ (many : Int) * n := Int.mul_le_mul_of_nonneg_right (by omega) (by omega)
          have a3 : ((i : Int) + 2) * n = (i : Int) * n + 2 * n := by rw [Int.add_mul]
          have a4 : ((i : Int) + 1) * n = (i : Int) * n + n := by rw [Int.add_mul, Int.one_mul]
          have a5 : 0 ≤ ((i : Int) + 1) * n := by omega
          have a6 : ((i : Int) + 1) * n ≤ 64 := by omega
          have a7 : (i : Int) * n ≤ 64 := by omega
          have e1 : ((base + i * n : Nat) : Int) = (base : Int) + (i : Int) * n := by rw [Int.natCast_add, Int.natCast_mul]
          have e2 : ((base + (i + 1) * n : Nat) : Int) = (base : Int) + ((i : Int) + 1) * n := by rw [Int.natCast_add, Int.natCast_mul, Int.natCast_add]; rfl
          have e3 : base + (i + 1) * n = base + i * n + n := by rw [Nat.add_mul, Nat.one_mul]; omega
          have l5 : s.2.length + (4 * n + 2) + (4 * n + 2) * ((List.range (many - 1 - k)).drop (i + 1) ++ pl (many - 1 - (k + 1))).length ≤ 8388608 := by
            have := hs4
            rw [List.cons_append, List.length_cons, Nat.mul_succ] at this
            omega
          have hcall := rexch_ok hs1.1 (base + i * n) (base + (i + 1) * n) n (by omega) (by omega) (by rw [hs3]; omega) (by rw [hs3]; omega) (by omega) (by omega)
          rw [e1, e2] at hcall
          have HC := Lib.hid hcall
          have HN : Hid (∀ w2, RfTo wr (Grow F w wr) r (exF n s (base + i * n) (base + (i + 1) * n)).1 (exF n s (base + i * n) (base + (i + 1) * n)).2 w2 → SoRel w F r C base n T ((List.range (many - 1 - k)).drop (i + 1) ++ pl (many - 1 - (k + 1))) w2) := Lib.hid (fun w2 h2 => by
            obtain ⟨b1, b2⟩ := exF_len n s (base + i * n) (base + (i + 1) * n)
            exact ⟨_, hs1.trans h2, hs2, b1.trans hs3, by rw [b2]; omega⟩)
          clear a2 a3 a4 e1 e2 e3 hcall hs1 hs2 hs3 hs4 HQ l5
          have t1 : decide ((i : Int) + 1 < (many : Int) - (k : Int)) = true := decide_eq_true (by omega)
          go_wp2_with fail
          refine HC.out.mono ?_
          rintro e w3 ⟨rfl, h3⟩
          have H3 := Lib.hid (HN.out _ h3)
          clear h3
          go_wp2_with fail
          go_roundw
          case rel => exact ⟨i + 1, by go_num, by omega, H3.out⟩
          case measure => simp [intOf]; omega
        · have HQ2 : Hid (SoRel w F r C base n T (pl (many - 1 - (k + 1))) wr) := by
            have := HQ.out
            rw [List.drop_of_length_le (by simp; omega), List.nil_append] at this
            exact Lib.hid this
          clear HQ
          have t1 : decide ((i : Int) + 1 < (many : Int) - (k : Int)) = false := decide_eq_false (by omega)
          go_wp2_with fail
          go_roundw
          case rel => exact ⟨k + 1, by go_num, by omega, HQ2.out⟩
          case measure => simp [intOf]; omega
    · have HQ2 : Hid (RfTo w F r T.1 T.2 wr) := by
        obtain ⟨s, hs1, hs2, _⟩ := HR.out
        rw [show many - 1 - k = 0 by omega] at hs2
        have : s = T := hs2
        subst this
        exact Lib.hid hs1
      clear HR
      go_wp2_with fail
      go_ret
      exact ⟨rfl, HQ2.out⟩
set_option maxHeartbeats 2000000 in
theorem rsort_err (h : Rf w F r C E) (base many n : Int) (hz : soE C.length E.length base many n ≠ 0) :
    Calls Try.prog 55 #[.pointer (some ⟨r, 0, none⟩), .int .i64 base, .int .i64 many, .int .i64 n] w fun e w' => e = .returned (.int .i64 (soE C.length E.length base many n)) ∧ w = w' := by
  have H := Lib.hid h
  by_cases hb : many < 1 ∨ 16 < many ∨ n < 1 ∨ 64 < n
  · have HF := Lib.hid (show soE C.length E.length base many n = 7 by unfold soE; rw [if_pos (by omega)])
    clear hz h
    have hparts : many < 1 ∨ (¬ many < 1 ∧ 16 < many) ∨ (¬ many < 1 ∧ ¬ 16 < many ∧ n < 1) ∨ (¬ many < 1 ∧ ¬ 16 < many ∧ ¬ n < 1 ∧ 64 < n) := by omega
    clear hb
    rcases hparts with q1 | ⟨q1, q2⟩ | ⟨q1, q2, q3⟩ | ⟨q1, q2, q3, q4⟩
    all_goals
      go_enter Try.func55, Try.ntmps55
      go_wp2_with fail
      go_ret
      exact ⟨by rw [HF.out]; rfl, rfl⟩
  · have m0 : 0 ≤ many * n := Int.mul_nonneg (by omega) (by omega)
    have m1 : many * n ≤ 16 * 64 := Int.mul_le_mul (by omega) (by omega) (by omega) (by omega)
    have q1 : ¬ many < 1 := by omega
    have q2 : ¬ 16 < many := by omega
    have q3 : ¬ n < 1 := by omega
    have q4 : ¬ 64 < n := by omega
    by_cases hm : 64 < many * n
    · have HF := Lib.hid (show soE C.length E.length base many n = 7 by unfold soE; rw [if_pos (by omega)])
      have hq : decide (64 < many * n) = true := decide_eq_true hm
      clear hz h hb hm
      go_enter Try.func55, Try.ntmps55
      go_wp2_with fail
      go_ret
      exact ⟨by rw [HF.out]; rfl, rfl⟩
    · have hq : decide (64 < many * n) = false := decide_eq_false hm
      have hn : ¬ (many < 1 ∨ 16 < many ∨ n < 1 ∨ 64 < n ∨ 64 < many * n) := by omega
      by_cases hh : hasE C.length base (many * n) = 0
      · have HK := Lib.hid hh
        have HF := Lib.hid (show soE C.length E.length base many n = roomE E.length ((4 * n + 2) * many * (many - 1) / 2) by unfold soE; rw [if_neg hn, if_pos hh])
        have hq2 : (roomE E.length ((4 * n + 2) * many * (many - 1) / 2) != 0) = true := by rw [bne_iff_ne, ← HF.out]; exact hz
        have p0 : 0 ≤ (4 * n + 2) * many := Int.mul_nonneg (by omega) (by omega)
        have p1 : (4 * n + 2) * many ≤ 258 * 16 := Int.mul_le_mul (by omega) (by omega) (by omega) (by omega)
        have p2 : 0 ≤ (4 * n + 2) * many * (many - 1) := Int.mul_nonneg p0 (by omega)
        have p3 : (4 * n + 2) * many * (many - 1) ≤ 258 * 16 * 15 := Int.mul_le_mul p1 (by omega) (by omega) (by omega)
        clear hz h hb hm hn hh
        go_enter Try.func55, Try.ntmps55
        go_wp2_with fail
        refine Calls.mono (R := fun e w' => e = .returned (.int .i64 0) ∧ w = w') (by have := rhas_any H.out base (many * n); rwa [HK.out] at this) ?_
        rintro e w' ⟨rfl, rfl⟩
        go_wp2_with fail
        refine (rroom_any H.out ((4 * n + 2) * many * (many - 1) / 2)).mono ?_
        rintro e w' ⟨rfl, rfl⟩
        go_wp2_with fail
        go_ret
        exact ⟨by rw [HF.out]; rfl, rfl⟩
      · have HF := Lib.hid (show soE C.length E.length base many n = hasE C.length base (many * n) by unfold soE; rw [if_neg hn, if_neg hh])
        have hq2 : (hasE C.length base (many * n) != 0) = true := by rw [bne_iff_ne]; exact hh
        have hq3 : (hasE C.length base (many * n) == 0) = false := by rw [beq_eq_false_iff_ne]; exact hh
        clear hz h hb hm hn hh
        go_enter Try.func55, Try.ntmps55
        go_wp2_with fail
        refine (rhas_any H.out base (many * n)).mono ?_
        rintro e w' ⟨rfl, rfl⟩
        go_wp2_with fail
        go_ret
        exact ⟨by rw [HF.out]; rfl, rfl⟩
theorem rsort_any (h : Rf w F r C E) (base many n : Int) :
    Calls Try.prog 55 #[.pointer (some ⟨r, 0, none⟩), .int .i64 base, .int .i64 many, .int .i64 n] w (RErPost w F r (soR C E base many n).1 (soR C E base many n).2) := by
  by_cases hz : soE C.length E.length base many n = 0
  · obtain ⟨g1, _, g3, _, _, g6, _⟩ := soE_zero hz
    obtain ⟨base, rfl⟩ := Int.eq_ofNat_of_zero_le g6
    obtain ⟨many, rfl⟩ := Int.eq_ofNat_of_zero_le (show 0 ≤ many by omega)
    obtain ⟨n, rfl⟩ := Int.eq_ofNat_of_zero_le (show 0 ≤ n by omega)
    have hr : soR C E base many n = (0, soL base n (C, E) (pl (many - 1))) := by unfold soR; rw [if_pos hz]; rfl
    rw [hr]
    exact rsort_ok h base many n hz
  · have hr : soR C E base many n = (soE C.length E.length base many n, (C, E)) := by unfold soR; rw [if_neg hz]
    rw [hr]
    exact (rsort_err h base many n hz).mono fun e w' ⟨h1, h2⟩ => ⟨h1, h2 ▸ RfTo.refl h⟩
end
end Go.Proofs.Ytdgehacbpjgmcaa
