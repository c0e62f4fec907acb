/-
  dragnetref08's functions over the specification's arena.
-/
import Derived.Test.YtdgehacbpjgmcaaRef08
import Derived.Test.YtdgehacbpjgmcaaCmpSort
import Derived.Test.YtdgehacbpjgmcaaRef07Sw
namespace Go.Proofs.Ytdgehacbpjgmcaa
open Go.RowKit
attribute [local go_sem] bits_and_u64 bits_or_u64 bits_xor_u64 bits_andNot_u64 wrap_u64 bv_add bv_neg bv_sub bv_mul
set_option linter.unusedVariables false
set_option maxRecDepth 100000
/-- Which of two rows is less. -/
def ordI (p : Bool × Bool) : Int := if p.1 = true then 0 else if p.2 = true then -1 else 1
theorem ordR_ex (C : List (BitVec 64)) (x y k : Nat) : (ordR C x y k).1 = true → (ordR C x y k).2 = false := by
  induction k with
  | zero => intro _; rfl
  | succ k ih =>
    rw [ordR_succ]
    intro h
    simp only [Bool.and_eq_true, decide_eq_true_eq] at h
    show ((ordR C x y k).2 || ((ordR C x y k).1 && decide ((cl C (x + k)).toNat < (cl C (y + k)).toNat))) = false
    rw [ih h.1, h.2, decide_eq_false (by omega)]
    simp
section
variable {w : World} {F : Nat → Prop} {r : Nat} {C : List (BitVec 64)} {E : List Ev}
set_option maxHeartbeats 1000000 in
theorem r8rows_any (h : Rf w F r C E) (x y n : Int) :
    Calls Try.prog 70 #[.pointer (some ⟨r, 0, none⟩), .int .i64 x, .int .i64 y, .int .i64 n] w fun e w' => e = .returned (.int .i64 (ccE C.length x y n)) ∧ w = w' := by
  have H := Lib.hid h
  clear h
  by_cases n1 : n < 1
  · have HF := Lib.hid (show ccE C.length x y n = 7 by unfold ccE; rw [if_pos (.inl n1)])
    go_enter Try.func70, Try.ntmps70
    go_wp2_with fail
    go_ret
    exact ⟨by rw [HF.out]; rfl, rfl⟩
  by_cases n2 : 64 < n
  · have HF := Lib.hid (show ccE C.length x y n = 7 by unfold ccE; rw [if_pos (.inr n2)])
    go_enter Try.func70, Try.ntmps70
    go_wp2_with fail
    go_ret
    exact ⟨by rw [HF.out]; rfl, rfl⟩
  have hn : ¬ (n < 1 ∨ 64 < n) := by omega
  by_cases hb : hasE C.length x n = 0
  · have HB := Lib.hid hb
    have HF := Lib.hid (show ccE C.length x y n = hasE C.length y n by unfold ccE; rw [if_neg hn, if_pos hb])
    clear hb hn
    go_enter Try.func70, Try.ntmps70
    go_wp2_with fail
    refine Calls.mono (R := fun e w' => e = .returned (.int .i64 0) ∧ w = w') (by have := rhas_any H.out x n; rwa [HB.out] at this) ?_
    rintro e w' ⟨rfl, rfl⟩
    go_wp2_with fail
    refine (rhas_any H.out y n).mono ?_
    rintro e w' ⟨rfl, rfl⟩
    go_wp2_with fail
    go_ret
    exact ⟨by rw [HF.out]; rfl, rfl⟩
  · have HF := Lib.hid (show ccE C.length x y n = hasE C.length x n by unfold ccE; rw [if_neg hn, if_neg hb])
    have hq : (hasE C.length x n == 0) = false := by rw [beq_eq_false_iff_ne]; exact hb
    clear hb hn
    go_enter Try.func70, Try.ntmps70
    go_wp2_with fail
    refine (rhas_any H.out x n).mono ?_
    rintro e w' ⟨rfl, rfl⟩
    go_wp2_with fail
    go_ret
    exact ⟨by rw [HF.out]; rfl, rfl⟩
/-- What compared returns, and leaves. -/
def CoPost (w : World) (F : Nat → Prop) (r : Nat) (v c : Int) (s : List (BitVec 64) × List Ev) (e : Ending) (w' : World) : Prop :=
  e = .returned (.tuple #[.int .i64 v, .int .i64 c]) ∧ RfTo w F r s.1 s.2 w'
set_option maxHeartbeats 4000000 in
theorem rcomp_ok (h : Rf w F r C E) (x y n : Nat) (hz : crE C.length E.length x y n = 0) :
    Calls Try.prog 69 #[.pointer (some ⟨r, 0, none⟩), .int .i64 (x : Int), .int .i64 (y : Int), .int .i64 (n : Int)] w (CoPost w F r (ordI (ordR C x y n)) 0 (C, evR x y E n)) := by
  obtain ⟨⟨g1, g2, g3, g4, g5, g6⟩, g7⟩ := crE_zero hz
  have h2 := h.n2
  have H := Lib.hid h
  have hck : ccE C.length x y n = 0 := by
    unfold crE at hz
    split at hz
    · assumption
    · rename_i h1; exact absurd hz h1
  have hrm : roomE E.length (2 * (n : Int)) = 0 := by unfold crE at hz; rwa [if_pos hck] at hz
  have HK := Lib.hid hck
  have HR := Lib.hid hrm
  have G7 := Lib.hid g7
  clear h hz hck hrm g7
  go_enter Try.func69, Try.ntmps69
  go_wp2_with fail
  refine Calls.mono (R := fun e w' => e = .returned (.int .i64 0) ∧ w = w') (by have := r8rows_any H.out x y n; rwa [HK.out] at this) ?_
  rintro e w' ⟨rfl, rfl⟩
  go_wp2_with fail
  refine Calls.mono (R := fun e w' => e = .returned (.int .i64 0) ∧ w = w') (by have := rroom_any H.out (2 * (n : Int)); rwa [HR.out] at this) ?_
  rintro e w' ⟨rfl, rfl⟩
  go_wp2_with fail
  go_loopw [11, 12] (fun o i wr => ∃ k : Nat, k ≤ n ∧ i = .int .i64 k ∧ o = .int .i64 (ordI (ordR C x y k)) ∧ RfTo w F r C (evR x y E k) wr) (fun _ i _ => n - (intOf i).toNat)
  case atStart => exact ⟨0, Nat.zero_le _, rfl, rfl, RfTo.refl H.out⟩
  case round =>
    obtain ⟨k, hk, rfl, rfl, hrel⟩ := hrel
    have HA := Lib.hid hrel
    have HE := Lib.hid (length_evR x y E k)
    clear hrel
    by_cases hlt : k < n
    · have HX := Lib.hid (ordR_ex C x y k)
      have HS := Lib.hid (ordR_succ C x y k)
      have t1 : ((x : Int) + (k : Int)).toNat = x + k := by omega
      have t2 : ((y : Int) + (k : Int)).toNat = y + k := by omega
      have HL1 := Lib.hid (rload_ok HA.out.1 ((x : Int) + (k : Int)) (by omega) (by omega) (by rw [HE.out]; have := G7.out; omega))
      rw [t1] at HL1
      have HL2 : Hid (∀ w1, RfTo w F r C (evR x y E k ++ [(1, x + k)]) w1 → Calls Try.prog 83 #[.pointer (some ⟨r, 0, none⟩), .int .i64 ((y : Int) + (k : Int))] w1 fun e w' => e = .returned (.tuple #[.int .u64 (n64 (cl C (y + k))), .int .i64 0]) ∧ RfTo w F r C (evR x y E (k + 1)) w') := Lib.hid (fun w1 h1 => by
        have := rload_ok h1.1 ((y : Int) + (k : Int)) (by omega) (by omega) (by rw [List.length_append, HE.out]; have := G7.out; show _ + 1 < _; omega)
        rw [t2, List.append_assoc] at this
        exact this.mono fun e w' ⟨h3, h4⟩ => ⟨h3, h1.trans h4⟩)
      clear t1 t2
      have HU : Hid (∃ u v, u = cl C (x + k) ∧ v = cl C (y + k)) := ⟨_, _, rfl, rfl⟩
      obtain ⟨u, v, hu, hv⟩ := HU.out
      rw [← hu] at HL1 HS
      rw [← hv] at HL2 HS
      clear HU hu hv
      cases hq : (ordR C x y k).1
      · have HO : Hid (ordI (ordR C x y (k + 1)) = ordI (ordR C x y k)) := Lib.hid (by rw [HS.out, hq]; unfold ordI; rw [hq]; simp)
        have hne : (ordI (ordR C x y k) == 0) = false := by
          unfold ordI
          rw [hq]
          cases (ordR C x y k).2 <;> rfl
        clear hq
        revert HO hne
        generalize ordI (ordR C x y k) = o
        intro HO hne
        go_wp2_with fail
        refine HL1.out.mono ?_
        rintro e w1 ⟨rfl, h1⟩
        have H1 := Lib.hid (HL2.out _ (HA.out.trans h1))
        clear h1
        go_wp2_with fail
        refine H1.out.mono ?_
        rintro e w2 ⟨rfl, h2⟩
        have H2 := Lib.hid h2
        clear h2
        go_wp2_with fail
        go_roundw
        case rel => exact ⟨k + 1, by omega, by go_num, by rw [HO.out], H2.out⟩
        case measure => simp [intOf]; omega
      · have HX2 := HX.out hq
        have h0 : ordI (ordR C x y k) = 0 := by unfold ordI; rw [hq]; rfl
        rw [h0]
        clear h0
        have hcs : n64 u < n64 v ∨ (¬ n64 u < n64 v ∧ n64 v < n64 u) ∨ (¬ n64 u < n64 v ∧ ¬ n64 v < n64 u) := by omega
        rcases hcs with c1 | ⟨c1, c2⟩ | ⟨c1, c2⟩
        · have HO : Hid (ordI (ordR C x y (k + 1)) = -1) := Lib.hid (by rw [HS.out, hq, HX2, decide_eq_false (show ¬ u = v by intro e; subst e; omega), decide_eq_true (show u.toNat < v.toNat by unfold n64 at c1; omega)]; rfl)
          have d1 : decide (n64 u < n64 v) = true := decide_eq_true c1
          clear hq HX2
          go_wp2_with fail
          refine HL1.out.mono ?_
          rintro e w1 ⟨rfl, h1⟩
          have H1 := Lib.hid (HL2.out _ (HA.out.trans h1))
          clear h1
          go_wp2_with fail
          refine H1.out.mono ?_
          rintro e w2 ⟨rfl, h2⟩
          have H2 := Lib.hid h2
          clear h2
          go_wp2_with fail
          go_roundw
          case rel => exact ⟨k + 1, by omega, by go_num, by rw [HO.out], H2.out⟩
          case measure => simp [intOf]; omega
        · have HO : Hid (ordI (ordR C x y (k + 1)) = 1) := Lib.hid (by rw [HS.out, hq, HX2, decide_eq_false (show ¬ u = v by intro e; subst e; omega), decide_eq_false (show ¬ u.toNat < v.toNat by unfold n64 at c1; omega)]; rfl)
          have d1 : decide (n64 u < n64 v) = false := decide_eq_false c1
          have d2 : decide (n64 v < n64 u) = true := decide_eq_true c2
          clear hq HX2
          go_wp2_with fail
          refine HL1.out.mono ?_
          rintro e w1 ⟨rfl, h1⟩
          have H1 := Lib.hid (HL2.out _ (HA.out.trans h1))
          clear h1
          go_wp2_with fail
          refine H1.out.mono ?_
          rintro e w2 ⟨rfl, h2⟩
          have H2 := Lib.hid h2
          clear h2
          go_wp2_with fail
          go_roundw
          case rel => exact ⟨k + 1, by omega, by go_num, by rw [HO.out], H2.out⟩
          case measure => simp [intOf]; omega
        · have HO : Hid (ordI (ordR C x y (k + 1)) = 0) := Lib.hid (by rw [HS.out, hq, HX2, decide_eq_true (show u = v from n64_inj (by omega))]; rfl)
          have d1 : decide (n64 u < n64 v) = false := decide_eq_false c1
          have d2 : decide (n64 v < n64 u) = false := decide_eq_false c2
          clear hq HX2
          go_wp2_with fail
          refine HL1.out.mono ?_
          rintro e w1 ⟨rfl, h1⟩
          have H1 := Lib.hid (HL2.out _ (HA.out.trans h1))
          clear h1
          go_wp2_with fail
          refine H1.out.mono ?_
          rintro e w2 ⟨rfl, h2⟩
          have H2 := Lib.hid h2
          clear h2
          go_wp2_with fail
          go_roundw
          case rel => exact ⟨k + 1, by omega, by go_num, by rw [HO.out], H2.out⟩
          case measure => simp [intOf]; omega
    · obtain rfl : n = k := by omega
      go_wp2_with fail
      go_ret2
      exact ⟨rfl, HA.out⟩
set_option maxHeartbeats 1000000 in
theorem rcomp_err (h : Rf w F r C E) (x y n : Int) (hz : crE C.length E.length x y n ≠ 0) :
    Calls Try.prog 69 #[.pointer (some ⟨r, 0, none⟩), .int .i64 x, .int .i64 y, .int .i64 n] w fun e w' => e = .returned (.tuple #[.int .i64 0, .int .i64 (crE C.length E.length x y n)]) ∧ w = w' := by
  have H := Lib.hid h
  clear h
  by_cases hc : ccE C.length x y n = 0
  · have HK := Lib.hid hc
    have HF := Lib.hid (show crE C.length E.length x y n = roomE E.length (2 * n) by unfold crE; rw [if_pos hc])
    have hq : (roomE E.length (2 * n) != 0) = true := by rw [bne_iff_ne, ← HF.out]; exact hz
    obtain ⟨g1, g2, _⟩ := ccE_zero hc
    clear hc hz
    go_enter Try.func69, Try.ntmps69
    go_wp2_with fail
    refine Calls.mono (R := fun e w' => e = .returned (.int .i64 0) ∧ w = w') (by have := r8rows_any H.out x y n; rwa [HK.out] at this) ?_
    rintro e w' ⟨rfl, rfl⟩
    go_wp2_with fail
    refine (rroom_any H.out (2 * n)).mono ?_
    rintro e w' ⟨rfl, rfl⟩
    go_wp2_with fail
    go_ret2
    exact ⟨by rw [HF.out]; rfl, rfl⟩
  · have HF := Lib.hid (show crE C.length E.length x y n = ccE C.length x y n by unfold crE; rw [if_neg hc])
    have hq : (ccE C.length x y n != 0) = true := by rw [bne_iff_ne]; exact hc
    have hq2 : (ccE C.length x y n == 0) = false := by rw [beq_eq_false_iff_ne]; exact hc
    clear hc hz
    go_enter Try.func69, Try.ntmps69
    go_wp2_with fail
    refine (r8rows_any H.out x y n).mono ?_
    rintro e w' ⟨rfl, rfl⟩
    go_wp2_with fail
    go_ret2
    exact ⟨by rw [HF.out]; rfl, rfl⟩
def RVe2Post (w : World) (F : Nat → Prop) (r : Nat) (v : BitVec 64) (c : Int) (s : List (BitVec 64) × List Ev) (e : Ending) (w' : World) : Prop :=
  e = .returned (.tuple #[.int .u64 (n64 v), .int .i64 c]) ∧ RfTo w F r s.1 s.2 w'
set_option maxHeartbeats 1000000 in
theorem reqRows_any (h : Rf w F r C E) (x y n : Int) :
    Calls Try.prog 52 #[.pointer (some ⟨r, 0, none⟩), .int .i64 x, .int .i64 y, .int .i64 n] w (RVe2Post w F r (crR C E x y n).1.1 (crR C E x y n).1.2.2 (crR C E x y n).2) := by
  by_cases hz : crE C.length E.length x y n = 0
  · obtain ⟨⟨g1, g2, g3, g4, g5, g6⟩, g7⟩ := crE_zero hz
    obtain ⟨x, rfl⟩ := Int.eq_ofNat_of_zero_le g3
    obtain ⟨y, rfl⟩ := Int.eq_ofNat_of_zero_le g5
    obtain ⟨n, rfl⟩ := Int.eq_ofNat_of_zero_le (show 0 ≤ n by omega)
    have hr : crR C E x y n = ((msk (ordR C x y n).1, msk (ordR C x y n).2, 0), (C, evR x y E n)) := by unfold crR; rw [if_pos hz]; rfl
    rw [hr]
    have HO := Lib.hid (rcomp_ok h x y n hz)
    have HT : Hid ((ordI (ordR C x y n) == 0) = (ordR C x y n).1) := Lib.hid (by
      unfold ordI
      cases (ordR C x y n).1
      · cases (ordR C x y n).2 <;> rfl
      · rfl)
    have HM := Lib.hid (rmask_any (ordR C x y n).1)
    rw [← HT.out] at HM
    clear h hz hr g7
    revert HO HM
    generalize ho : ordI (ordR C x y n) = o
    intro HO HM
    have HOO := Lib.hid ho
    clear ho
    go_enter Try.func52, Try.ntmps52
    go_wp2_with fail
    refine HO.out.mono ?_
    rintro e w1 ⟨rfl, h1⟩
    have H1 := Lib.hid h1
    clear h1
    go_wp2_with fail
    refine (HM.out _).mono ?_
    rintro e w' ⟨rfl, rfl⟩
    go_wp2
    go_ret2
    rw [← HOO.out, HT.out]
    exact ⟨rfl, H1.out⟩
  · have hr : crR C E x y n = ((0#64, 0#64, crE C.length E.length x y n), (C, E)) := by unfold crR; rw [if_neg hz]
    rw [hr]
    have HO := Lib.hid (rcomp_err h x y n hz)
    have HT := Lib.hid (RfTo.refl h)
    have hq : (crE C.length E.length x y n != 0) = true := by rw [bne_iff_ne]; exact hz
    clear h hz hr
    go_enter Try.func52, Try.ntmps52
    go_wp2_with fail
    refine HO.out.mono ?_
    rintro e w1 ⟨rfl, rfl⟩
    go_wp2_with fail
    go_ret2
    exact ⟨rfl, HT.out⟩
set_option maxHeartbeats 1000000 in
theorem rltRows_any (h : Rf w F r C E) (x y n : Int) :
    Calls Try.prog 53 #[.pointer (some ⟨r, 0, none⟩), .int .i64 x, .int .i64 y, .int .i64 n] w (RVe2Post w F r (crR C E x y n).1.2.1 (crR C E x y n).1.2.2 (crR C E x y n).2) := by
  by_cases hz : crE C.length E.length x y n = 0
  · obtain ⟨⟨g1, g2, g3, g4, g5, g6⟩, g7⟩ := crE_zero hz
    obtain ⟨x, rfl⟩ := Int.eq_ofNat_of_zero_le g3
    obtain ⟨y, rfl⟩ := Int.eq_ofNat_of_zero_le g5
    obtain ⟨n, rfl⟩ := Int.eq_ofNat_of_zero_le (show 0 ≤ n by omega)
    have hr : crR C E x y n = ((msk (ordR C x y n).1, msk (ordR C x y n).2, 0), (C, evR x y E n)) := by unfold crR; rw [if_pos hz]; rfl
    rw [hr]
    have HO := Lib.hid (rcomp_ok h x y n hz)
    have HT : Hid (decide (ordI (ordR C x y n) < 0) = (ordR C x y n).2) := Lib.hid (by
      have := ordR_ex C x y n
      unfold ordI
      revert this
      cases (ordR C x y n).1
      · intro _; cases (ordR C x y n).2 <;> rfl
      · intro h; rw [h rfl]; rfl)
    have HM := Lib.hid (rmask_any (ordR C x y n).2)
    rw [← HT.out] at HM
    clear h hz hr g7
    revert HO HM
    generalize ho : ordI (ordR C x y n) = o
    intro HO HM
    have HOO := Lib.hid ho
    clear ho
    go_enter Try.func53, Try.ntmps53
    go_wp2_with fail
    refine HO.out.mono ?_
    rintro e w1 ⟨rfl, h1⟩
    have H1 := Lib.hid h1
    clear h1
    go_wp2_with fail
    refine (HM.out _).mono ?_
    rintro e w' ⟨rfl, rfl⟩
    go_wp2
    go_ret2
    rw [← HOO.out, HT.out]
    exact ⟨rfl, H1.out⟩
  · have hr : crR C E x y n = ((0#64, 0#64, crE C.length E.length x y n), (C, E)) := by unfold crR; rw [if_neg hz]
    rw [hr]
    have HO := Lib.hid (rcomp_err h x y n hz)
    have HT := Lib.hid (RfTo.refl h)
    have hq : (crE C.length E.length x y n != 0) = true := by rw [bne_iff_ne]; exact hz
    clear h hz hr
    go_enter Try.func53, Try.ntmps53
    go_wp2_with fail
    refine HO.out.mono ?_
    rintro e w1 ⟨rfl, rfl⟩
    go_wp2_with fail
    go_ret2
    exact ⟨rfl, HT.out⟩
end
end Go.Proofs.Ytdgehacbpjgmcaa
