/-
  The walk of dragnetlaw23.PrefixKeeps.
-/
import Derived.Test.YtlbahocncbmjnaaKeeps3
import Derived.Test.YtlbahocncbmjnaaOpen
import Derived.IntWalk
import Derived.BigQuiet
import Derived.Deep.QuietTactic
namespace Go.Proofs.Ytlbahocncbmjnaa
open Go.RowKit
set_option linter.unusedVariables false
set_option maxRecDepth 100000
theorem pk_ok (N E n : Nat) (s : Int) (hN : N = 4 * n) (h1 : 1 ≤ n) (h2 : n ≤ 288) (hs : 0 ≤ s) (hs3 : s ≤ 3) (hE : E ≤ 100000) : pkE N E 0 n (3 * (n : Int)) s = 0 := by
  subst hN
  have m1 : 0 ≤ s * (n : Int) := Int.mul_nonneg hs (by omega)
  have m2 : s * (n : Int) ≤ 3 * n := Int.mul_le_mul_of_nonneg_right hs3 (by omega)
  unfold pkE
  rw [if_neg (by omega), if_pos (by unfold hasE; rw [if_neg (by omega)]), if_pos (by unfold hasE; rw [if_neg (by omega)]), if_neg (by omega)]
  unfold roomE
  rw [if_neg (by omega), if_neg (by omega)]
theorem toNat3 (n : Nat) : (3 * (n : Int)).toNat = 3 * n := by omega
theorem keeps_r (l : List Bool) (n : Nat) (hl : l.length = n) (h1 : 1 ≤ n) (h2 : n ≤ 288) : ∃ E1 : List Ev, E1.length = 6 * n ∧ prR (mkL l n) (stores (4 * n)) 0 n (3 * (n : Int)) 2 rkF = ((BitVec.ofNat 64 (rk l n), 0), (fL (4 * n) (f1C l n), E1)) := by
  subst hl
  obtain ⟨a1, a2⟩ := ranks_state l h2 (stores (4 * l.length)) l.length (Nat.le_refl _)
  refine ⟨(repS (rkF 0 (3 * l.length)) (mkL l l.length, stores (4 * l.length), 0#64) l.length).2.1, ?_, ?_⟩
  · obtain ⟨_, l2⟩ := repS_len (rkF 0 (3 * l.length)) 2 (rkF_len 0 (3 * l.length)) (mkL l l.length, stores (4 * l.length), 0#64) l.length
    rw [l2]
    show (stores (4 * l.length)).length + 2 * l.length = _
    rw [length_stores]; omega
  · unfold prR
    rw [if_pos (pk_ok _ _ _ _ (length_mkL l l.length) h1 h2 (by decide) (by decide) (by rw [length_stores]; omega)), toNat3]
    show (((repS (rkF 0 (3 * l.length)) (mkL l l.length, stores (4 * l.length), 0#64) l.length).2.2, 0), ((repS (rkF 0 (3 * l.length)) (mkL l l.length, stores (4 * l.length), 0#64) l.length).1, _)) = _
    rw [a1, a2]
    rfl
theorem keeps_s (l : List Bool) (n : Nat) (hl : l.length = n) (h1 : 1 ≤ n) (h2 : n ≤ 288) (K : Nat) (hK : K < 300) (E1 : List Ev) (hE : E1.length = 6 * n) : ∃ E2 : List Ev, E2.length = 9 * n ∧ prR (fL (4 * n) (f1C l n)) E1 0 n (3 * (n : Int)) 3 (spF (BitVec.ofNat 64 K)) = ((BitVec.ofNat 64 (rk l n - min (rk l n) K), 0), (fL (4 * n) (f2C l K n), E2)) := by
  subst hl
  obtain ⟨a1, a2⟩ := split_state l h2 K hK E1 l.length (Nat.le_refl _)
  refine ⟨(repS (spF (BitVec.ofNat 64 K) 0 (3 * l.length)) (fL (4 * l.length) (f1C l l.length), E1, 0#64) l.length).2.1, ?_, ?_⟩
  · obtain ⟨_, l2⟩ := repS_len (spF (BitVec.ofNat 64 K) 0 (3 * l.length)) 3 (spF_len _ 0 (3 * l.length)) (fL (4 * l.length) (f1C l l.length), E1, 0#64) l.length
    rw [l2]
    show E1.length + 3 * l.length = _
    omega
  · unfold prR
    rw [if_pos (pk_ok _ _ _ _ (length_fL _ _) h1 h2 (by decide) (by decide) (by omega)), toNat3]
    show (((repS (spF (BitVec.ofNat 64 K) 0 (3 * l.length)) (fL (4 * l.length) (f1C l l.length), E1, 0#64) l.length).2.2, 0), ((repS (spF (BitVec.ofNat 64 K) 0 (3 * l.length)) (fL (4 * l.length) (f1C l l.length), E1, 0#64) l.length).1, _)) = _
    rw [a1, a2]
    rfl
theorem keeps_d (l : List Bool) (n : Nat) (hl : l.length = n) (h1 : 1 ≤ n) (h2 : n ≤ 288) (K : Nat) (E2 : List Ev) (hE : E2.length = 9 * n) : ∃ (v : BitVec 64) (E3 : List Ev), E3.length = 12 * n ∧ prR (fL (4 * n) (f2C l K n)) E2 0 n (3 * (n : Int)) 3 diF = ((v, 0), (fL (4 * n) (f3C l K n), E3)) := by
  subst hl
  have a1 := dist_state l h2 K E2 l.length (Nat.le_refl _)
  refine ⟨(repS (diF 0 (3 * l.length)) (fL (4 * l.length) (f2C l K l.length), E2, 0#64) l.length).2.2, (repS (diF 0 (3 * l.length)) (fL (4 * l.length) (f2C l K l.length), E2, 0#64) l.length).2.1, ?_, ?_⟩
  · obtain ⟨_, l2⟩ := repS_len (diF 0 (3 * l.length)) 3 (diF_len 0 (3 * l.length)) (fL (4 * l.length) (f2C l K l.length), E2, 0#64) l.length
    rw [l2]
    show E2.length + 3 * l.length = _
    omega
  · unfold prR
    rw [if_pos (pk_ok _ _ _ _ (length_fL _ _) h1 h2 (by decide) (by decide) (by omega)), toNat3]
    show (((repS (diF 0 (3 * l.length)) (fL (4 * l.length) (f2C l K l.length), E2, 0#64) l.length).2.2, 0), ((repS (diF 0 (3 * l.length)) (fL (4 * l.length) (f2C l K l.length), E2, 0#64) l.length).1, _)) = _
    rw [a1]
    rfl
/-- What the law reads of the cells. -/
theorem k1_rank (l : List Bool) (n k : Nat) (hl : l.length = n) (hk : k < n) : cl (fL (4 * n) (f1C l n)) (3 * n + k) = BitVec.ofNat 64 (rk l k) := by
  subst hl
  rw [cl_fL _ _ _ (by omega), f1C_rank l k hk]
theorem k3_valid (l : List Bool) (n k K : Nat) (hl : l.length = n) (hk : k < n) : cl (fL (4 * n) (f3C l K n)) (3 * k) = msk (kpt l K k) := by
  subst hl
  rw [cl_fL _ _ _ (by omega)]
  unfold f3C
  rw [if_neg (by omega)]
  unfold f2C
  rw [if_pos (by omega), show 3 * k / 3 = k by omega]
theorem k3_end (l : List Bool) (n k K : Nat) (hl : l.length = n) (hk : k < n) : cl (fL (4 * n) (f3C l K n)) (3 * k + 1) = BitVec.ofNat 64 (k + 100) := by
  subst hl
  rw [cl_fL _ _ _ (by omega)]
  unfold f3C
  rw [if_neg (by omega)]
  unfold f2C
  rw [if_neg (by omega), f1C_mk l _ (by omega)]
  unfold mkC
  rw [if_pos (by omega), if_neg (show ¬ (3 * k + 1) % 3 = 0 by omega), if_pos (show (3 * k + 1) % 3 = 1 by omega), show (3 * k + 1) / 3 = k by omega]
theorem k3_rule (l : List Bool) (n k K : Nat) (hl : l.length = n) (hk : k < n) : cl (fL (4 * n) (f3C l K n)) (3 * k + 2) = BitVec.ofNat 64 (k + 500) := by
  subst hl
  rw [cl_fL _ _ _ (by omega)]
  unfold f3C
  rw [if_neg (by omega)]
  unfold f2C
  rw [if_neg (by omega), f1C_mk l _ (by omega)]
  unfold mkC
  rw [if_pos (by omega), if_neg (show ¬ (3 * k + 2) % 3 = 0 by omega), if_neg (show ¬ (3 * k + 2) % 3 = 1 by omega), show (3 * k + 2) / 3 = k by omega]
theorem k3_far (l : List Bool) (n k K : Nat) (hl : l.length = n) (hk : k < n) : cl (fL (4 * n) (f3C l K n)) (3 * n + k) = if kpt l K k = true then BitVec.ofNat 64 (k - rk l k) else 0#64 := by
  subst hl
  rw [cl_fL _ _ _ (by omega)]
  unfold f3C
  rw [if_pos (by omega), show 3 * l.length + k - 3 * l.length = k by omega]
theorem n64_ones : n64 (msk true) = 18446744073709551615 := by decide
theorem n64_none : n64 (msk false) = 0 := by decide
set_option maxHeartbeats 8000000 in
theorem keeps_small {w : World} {v : Value} {n : Nat} {l : List Bool} (h : Rd w (Old w) 1 v n (boolsV l)) (h1 : 1 ≤ n) (hn : n ≤ 288) (x : Int) (x0 : 0 ≤ x) (x1 : x < 65536) : Calls Try.prog 5 #[v, .int .u16 x] w (BoolNew true w) := by
  obtain ⟨K, hK⟩ : ∃ K : Nat, x % 300 = (K : Int) := ⟨(x % 300).toNat, by omega⟩
  have hK3 : K < 300 := by omega
  have HL : Hid (l.length = n) := by obtain ⟨_, _, _, _, hl, _⟩ := h; rw [boolsV, List.length_map] at hl; exact Lib.hid (by omega)
  obtain ⟨A, c, rfl, _, hc⟩ := h.form
  obtain ⟨b, o, hA, hb, hx⟩ := hc (by omega)
  subst hA
  have HC : Hid (∀ j, j < n → w.cell? ⟨b, o + j, none⟩ = some (.bool (l.getD j false))) := Lib.hid (fun j hj => hx j _ (by have := HL.out; simp [boolsV, List.getD, List.getElem?_eq_getElem (show j < l.length by omega)]))
  have hd : decide ((n : Int) < 1) = false := by simp; omega
  have hd2 : decide (288 < (n : Int)) = false := by simp; omega
  have HK := Lib.hid hK
  obtain ⟨E1, e1, hR1⟩ := keeps_r l n HL.out h1 hn
  obtain ⟨E2, e2, hR2⟩ := keeps_s l n HL.out h1 hn K hK3 E1 e1
  obtain ⟨v3, E3, e3, hR3⟩ := keeps_d l n HL.out h1 hn K E2 e2
  have HE3 := Lib.hid e3
  have HR1 := Lib.hid hR1
  have HR2 := Lib.hid hR2
  have HR3 := Lib.hid hR3
  have HM := Lib.hid (made_some w b o n c l HL.out (by omega) hn hb HC.out)
  have hrn := rk_le l n
  clear h hc hx hR1 hR2 hR3 e1 e2 e3
  go_enter Try.func5, Try.ntmps5
  go_wp2_with fail
  refine HM.out.mono ?_
  rintro e w1 ⟨p, rfl, h1⟩
  have O1 : Hid (One w w1 [] p (mkL l n) (stores (4 * n))) := by rw [HL.out] at h1; exact Lib.hid h1
  clear h1 HM hK
  go_wp2_with fail
  refine Calls.mono (R := fun e w' => e = .returned (.tuple #[.int .u64 (rk l n : Int), .int .i64 0]) ∧ One w w' [] p (fL (4 * n) (f1C l n)) E1) (by have := ranks_at O1.out 0 n (3 * (n : Int)) _ _ HR1.out; rwa [n64_of _ (by omega)] at this) ?_
  rintro e w2 ⟨rfl, h2⟩
  have O2 := Lib.hid h2
  clear h2 O1 HR1
  go_wp2_with fail
  refine (cells_one O2.out (4 * n) (length_fL _ _) (by omega)).mono ?_
  rintro e w3 ⟨b1, q1, cur1, rfl, hq1, hw3, hcur1⟩
  have O3 := Lib.hid hw3
  have Hcur1 := Lib.hid hcur1
  clear hw3 hcur1 O2
  go_wp2_with fail
  refine Calls.mono (R := fun e w' => e = .returned (.tuple #[.int .u64 (((rk l n - min (rk l n) K : Nat)) : Int), .int .i64 0]) ∧ One w w' [(b1, 32, cur1)] p (fL (4 * n) (f2C l K n)) E2) (by have := split_at O3.out 0 n (3 * (n : Int)) _ _ _ HR2.out; rwa [n64_of K (by omega), n64_of _ (by omega)] at this) ?_
  rintro e w4 ⟨rfl, h4⟩
  have O4 := Lib.hid h4
  clear h4 O3 HR2
  go_wp2_with fail
  refine Calls.mono (R := fun e w' => e = .returned (.int .i64 0) ∧ One w w' [(b1, 32, cur1)] p (fL (4 * n) (f3C l K n)) E3) (dist_at O4.out 0 n (3 * (n : Int)) _ _ HR3.out) ?_
  rintro e w5 ⟨rfl, h5⟩
  have O5 := Lib.hid h5
  clear h5 O4 HR3
  go_wp2_with fail
  refine (cells_one O5.out (4 * n) (length_fL _ _) (by omega)).mono ?_
  rintro e w6 ⟨b2, q2, cur2, rfl, hq2, hw6, hcur2⟩
  have O6 := Lib.hid hw6
  have Hcur2 := Lib.hid hcur2
  clear hw6 hcur2 O5
  go_wp2_with fail
  go_loopw [15, 16, 17] (fun m kp i wr => ∃ k : Nat, k ≤ n ∧ i = .int .i64 k ∧ m = .int .i64 (rk l k : Int) ∧ kp = .int .i64 ((min (rk l k) K : Nat) : Int) ∧ Off Nob w6 wr) (fun _ _ i _ => n - (intOf i).toNat)
  case atStart => exact ⟨0, Nat.zero_le _, rfl, by rw [rk_zero]; rfl, by rw [rk_zero, Nat.zero_min]; rfl, Off.refl _ _⟩
  case round =>
    obtain ⟨k, hk, rfl, rfl, rfl, hoff⟩ := hrel
    have HO := Lib.hid hoff
    by_cases hlt : k < n
    · have hkl : k < l.length := by have := HL.out; omega
      have hrs := rk_succ l k hkl
      have hrl := rk_le l k
      have hB1 := O6.out.blk (List.mem_cons_of_mem _ (List.mem_cons_self ..))
      have hB2 := O6.out.blk (List.mem_cons_self ..)
      have hc0 : wr.cell? ⟨b, o + k, none⟩ = some (.bool (l.getD k false)) := ((O6.out.old.also hoff).cell_old hb _).trans (HC.out k hlt)
      have hc1 : wr.cell? ⟨b1, 3 * n + k, none⟩ = some (.int .u64 (rk l k : Int)) := by rw [hoff.cell_old hB1.lt, hB1.cell, Hcur1.out _ (by omega), k1_rank l n k HL.out hlt, n64_of _ (by omega)]
      have hc2 : wr.cell? ⟨b2, 3 * k, none⟩ = some (.int .u64 (n64 (msk (kpt l K k)))) := by rw [hoff.cell_old hB2.lt, hB2.cell, Hcur2.out _ (by omega), k3_valid l n k K HL.out hlt]
      have hc3 : wr.cell? ⟨b2, 3 * k + 1, none⟩ = some (.int .u64 ((k : Int) + 100)) := by rw [hoff.cell_old hB2.lt, hB2.cell, Hcur2.out _ (by omega), k3_end l n k K HL.out hlt, n64_of _ (by omega)]; rfl
      have hc4 : wr.cell? ⟨b2, 3 * k + 2, none⟩ = some (.int .u64 ((k : Int) + 500)) := by rw [hoff.cell_old hB2.lt, hB2.cell, Hcur2.out _ (by omega), k3_rule l n k K HL.out hlt, n64_of _ (by omega)]; rfl
      have hc5 : wr.cell? ⟨b2, 3 * n + k, none⟩ = some (.int .u64 (n64 (if kpt l K k = true then BitVec.ofNat 64 (k - rk l k) else 0#64))) := by rw [hoff.cell_old hB2.lt, hB2.cell, Hcur2.out _ (by omega), k3_far l n k K HL.out hlt]
      clear hB1 hB2 hoff
      have hkp : kpt l K k = (l.getD k false && decide (rk l k < K)) := rfl
      cases hbt : l.getD k false <;> rw [hbt] at hc0 hrs hkp
      · rw [hkp, Bool.false_and, n64_none] at hc2
        rw [hkp, Bool.false_and, if_neg (by decide), show n64 0#64 = 0 from rfl] at hc5
        rw [if_neg (by decide), Nat.add_zero] at hrs
        have HS := Lib.hid hrs
        clear hkp hbt hrs hkl
        go_wp2_with fail
        go_roundw
        case rel => exact ⟨k + 1, by omega, by go_num, by rw [HS.out]; rfl, by rw [HS.out]; rfl, HO.out⟩
        case measure => simp [intOf]; omega
      · rw [if_pos rfl] at hrs
        have HS := Lib.hid hrs
        by_cases hkk : rk l k < K
        · rw [hkp, Bool.true_and, decide_eq_true hkk, n64_ones] at hc2
          rw [hkp, Bool.true_and, decide_eq_true hkk, if_pos rfl, n64_of _ (by omega), Int.natCast_sub hrl] at hc5
          have hm : (((min (rk l (k + 1)) K : Nat)) : Int) = ((min (rk l k) K : Nat) : Int) + 1 := by rw [hrs, Nat.min_eq_left (by omega), Nat.min_eq_left (by omega)]; rfl
          have HM := Lib.hid hm
          have hml : min (rk l k) K ≤ k := Nat.le_trans (Nat.min_le_left _ _) hrl
          have t1 : decide (rk l k < K) = true := decide_eq_true hkk
          have t2 : decide ((rk l k : Int) < (K : Int)) = true := decide_eq_true (by omega)
          clear hkp hbt hrs hkl hm
          go_wp2_with fail
          go_roundw
          case rel => exact ⟨k + 1, by omega, by go_num, by rw [HS.out]; go_num, by rw [HM.out], HO.out⟩
          case measure => simp [intOf]; omega
        · rw [hkp, Bool.true_and, decide_eq_false hkk, n64_none] at hc2
          rw [hkp, Bool.true_and, decide_eq_false hkk, if_neg (by decide), show n64 0#64 = 0 from rfl] at hc5
          have hm : (((min (rk l (k + 1)) K : Nat)) : Int) = ((min (rk l k) K : Nat) : Int) := by rw [hrs, Nat.min_eq_right (by omega), Nat.min_eq_right (by omega)]
          have HM := Lib.hid hm
          have t1 : decide (rk l k < K) = false := decide_eq_false hkk
          have t2 : decide ((rk l k : Int) < (K : Int)) = false := decide_eq_false (by omega)
          clear hkp hbt hrs hkl hm hkk
          go_wp2_with fail
          go_roundw
          case rel => exact ⟨k + 1, by omega, by go_num, by rw [HS.out]; go_num, by rw [HM.out], HO.out⟩
          case measure => simp [intOf]; omega
    · obtain rfl : n = k := by omega
      have HA : Hid (∃ F, Ar wr F p (fL (4 * n) (f3C l K n)) E3) := Lib.hid (O6.out.off hoff).ar
      have hs1 : (((rk l n - min (rk l n) K : Nat) : Int) == (rk l n : Int) - ((min (rk l n) K : Nat) : Int)) = true := by
        rw [beq_iff_eq, Int.natCast_sub (Nat.min_le_left _ _)]
      have hml : min (rk l n) K ≤ rk l n := Nat.min_le_left _ _
      clear hoff
      go_wp2_with fail
      obtain ⟨F9, hF9⟩ := HA.out
      have HS9 := Lib.hid (steps_any hF9)
      clear hF9 hs1
      refine Calls.mono (R := fun e w' => e = .returned (.int .i64 (12 * (n : Int))) ∧ wr = w') (by have := HS9.out; rw [HE3.out] at this; rwa [show ((12 * n : Nat) : Int) = 12 * (n : Int) by omega] at this) ?_
      rintro e w' ⟨rfl, rfl⟩
      have hs2 : ((12 * (n : Int)) == 4 * (n : Int) + 8 * (n : Int)) = true := by rw [beq_iff_eq]; omega
      clear HS9
      go_wp2_with fail
      refine (awake_ok _).mono ?_
      rintro e w5 ⟨rfl, o5⟩
      have O5 := Lib.hid ((O6.out.old.also HO.out).also o5)
      clear o5
      go_wp2
      go_ret
      exact ⟨rfl, O5.out⟩
theorem keeps_out {w : World} (A : Option Addr) (n c : Nat) (hn : n = 0 ∨ 288 < n) (h1 : n ≤ maxLen) (x : Int) : Calls Try.prog 5 #[.slice A n c, .int .u16 x] w (BoolNew true w) := by
  unfold maxLen at h1
  rcases hn with rfl | hn
  · go_enter Try.func5, Try.ntmps5
    go_wp2_with fail
    refine (awake_ok _).mono ?_
    rintro e w5 ⟨rfl, o5⟩
    have O5 := Lib.hid o5
    clear o5
    go_wp2
    go_ret
    exact ⟨rfl, O5.out⟩
  · have hd : decide ((n : Int) < 1) = false := by simp; omega
    have hd2 : decide (288 < (n : Int)) = true := by simp; omega
    go_enter Try.func5, Try.ntmps5
    go_wp2_with fail
    refine (awake_ok _).mono ?_
    rintro e w5 ⟨rfl, o5⟩
    have O5 := Lib.hid o5
    clear o5
    go_wp2
    go_ret
    exact ⟨rfl, O5.out⟩
theorem prefixKeeps_walk {w : World} {v : Value} {n : Nat} {l : List Bool} (h : Rd w (Old w) 1 v n (boolsV l)) (x : Int) (hx : 0 ≤ x ∧ x < 65536) : Calls Try.prog 5 #[v, .int .u16 x] w (BoolNew true w) := by
  by_cases hn : 1 ≤ n ∧ n ≤ 288
  · exact keeps_small h hn.1 hn.2 x hx.1 hx.2
  · obtain ⟨A, c, rfl, hm, _⟩ := h.form
    exact keeps_out A n c (by omega) hm x
end Go.Proofs.Ytlbahocncbmjnaa
