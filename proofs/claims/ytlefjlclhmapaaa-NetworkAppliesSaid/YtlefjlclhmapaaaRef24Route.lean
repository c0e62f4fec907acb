/-
  dragnetref24's bit, pair, Route.
-/
import Derived.Test.YtlefjlclhmapaaaNetRouteErr
import Derived.Test.YtlefjlclhmapaaaRef24Plan
import Derived.Test.YtlefjlclhmapaaaRefAll
import Derived.Test.YtlefjlclhmapaaaPair
import Derived.Test.YtlefjlclhmapaaaWkR
namespace Go.Proofs.Ytlefjlclhmapaaa
open Go.RowKit
set_option linter.unusedVariables false
set_option maxRecDepth 100000
theorem rbit_any (x : BitVec 64) (j : Nat) (hj : j ≤ 64) (w : World) : Calls Try.prog 41 #[.int .u64 (n64 x), .int .i64 (j : Int)] w fun e w' => e = .returned (.bool (bitB x j)) ∧ w = w' := by
  have hx := x.isLt
  have HB : Hid (bitB x j = decide (x.toNat / 2 ^ j % 2 = 1)) := Lib.hid rfl
  rw [HB.out]
  unfold n64
  obtain ⟨y, hy⟩ : ∃ y, x.toNat = y := ⟨_, rfl⟩
  rw [hy] at hx ⊢
  clear hy HB
  go_enter Try.func41, Try.ntmps41
  go_wp2_with fail
  go_loop [0, 5] (fun v i => ∃ k : Nat, k ≤ j ∧ i = .int .i64 (k : Int) ∧ v = .int .u64 ((y / 2 ^ k : Nat) : Int)) (fun _ i => j - (intOf i).toNat)
  case atStart => exact ⟨0, Nat.zero_le _, rfl, by simp⟩
  case round =>
    obtain ⟨k, hk, rfl, rfl⟩ := hrel
    have hle : y / 2 ^ k ≤ y := Nat.div_le_self _ _
    have HN : Hid (y / 2 ^ (k + 1) = y / 2 ^ k / 2) := Lib.hid (by rw [Nat.pow_succ, Nat.div_div_eq_div_mul])
    obtain ⟨z, hz⟩ : ∃ z, y / 2 ^ k = z := ⟨_, rfl⟩
    have HZ := Lib.hid hz
    rw [hz] at hle HN ⊢
    clear hz
    by_cases hlt : k < j
    · go_wp2_with fail
      go_round
      case rel => exact ⟨k + 1, by omega, by go_num, by rw [HN.out]; push_cast; rfl⟩
      case measure => simp [intOf]; omega
    · obtain rfl : j = k := by omega
      rcases Nat.mod_two_eq_zero_or_one z with hm | hm
      · have hm2 : (z : Int) % 2 = 0 := by omega
        have HM := Lib.hid hm
        clear hm
        go_wp2_with fail
        go_ret
        exact ⟨ret_bool (by rw [HZ.out, HM.out]; rfl), rfl⟩
      · have hm2 : (z : Int) % 2 = 1 := by omega
        have HM := Lib.hid hm
        clear hm
        go_wp2_with fail
        go_ret
        exact ⟨ret_bool (by rw [HZ.out, HM.out]; rfl), rfl⟩
def PrPost (w : World) (F : Nat → Prop) (r : Nat) (b : Bool) (s : List (BitVec 64) × List Ev) (e : Ending) (w' : World) : Prop := e = .returned (.bool b) ∧ RfTo w F r s.1 s.2 w'
theorem own_blkR {w : World} {base : Nat} {e : TypeId} {size n g c : Nat} {xs : List Value} (h : w.ownsRow base e size (.slice (some ⟨g, 0, none⟩) n c) n xs) : ∃ cur, Blk w g e cur := by
  rcases h.2 with ⟨hx, _⟩ | ⟨g', cap, cur, hv, _, hh, _⟩
  · cases hx
  · injection hv with hv1
    injection hv1 with hv1
    injection hv1 with hv1
    subst hv1
    exact ⟨cur, hh⟩
section
variable {w : World} {F : Nat → Prop} {r : Nat} {C : List (BitVec 64)} {E : List Ev}
set_option maxHeartbeats 2000000 in
/-- A pair: j below 0: as is says; else: as the bit j says. -/
theorem rpair_ok (h : Rf w F r C E) (f t : Nat) (is : Bool) (j : Int) (b : Bool) (hj : (j < 0 ∧ b = is) ∨ (0 ≤ j ∧ j ≤ 64 ∧ b = bitB (cl C f) j.toNat)) (hf : f < C.length) (ht : t < C.length) (hE : E.length + 4 ≤ 8388608) :
    Calls Try.prog 51 #[.pointer (some ⟨r, 0, none⟩), .int .i64 (f : Int), .int .i64 (t : Int), .bool is, .int .i64 j] w (PrPost w F r b (prS b (C, E) f t)) := by
  have HA := Lib.hid h
  have hn2 := h.n2
  obtain ⟨x, hx⟩ : ∃ x, cl C f = x := ⟨_, rfl⟩
  obtain ⟨y, hy⟩ : ∃ y, cl C t = y := ⟨_, rfl⟩
  have HXY := Lib.hid (And.intro hx hy)
  rw [hx] at hj
  have HR : Hid (prS b (C, E) f t = ((C.set t (if b then x else y)).set f (if b then 0#64 else x), (((E ++ [(1, f)]) ++ [(1, t)]) ++ [(2, t)]) ++ [(2, f)])) := Lib.hid (by
    rw [← hx, ← hy]
    unfold prS
    simp)
  have HL1 := Lib.hid (show Calls Try.prog 53 #[.pointer (some ⟨r, 0, none⟩), .int .i64 (f : Int)] w fun e w' => e = .returned (.tuple #[.int .u64 (n64 x), .int .i64 0]) ∧ RfTo w F r C (E ++ [(1, f)]) w' from by
    have := rload_ok h (f : Int) (by omega) (by omega) (by omega); rw [Int.toNat_natCast, hx] at this; exact this)
  clear h hx hy
  have HFIN : ∀ (w2 : World) (h2 : RfTo w F r C ((E ++ [(1, f)]) ++ [(1, t)]) w2) (a : BitVec 64), Calls Try.prog 24 #[.pointer (some ⟨r, 0, none⟩), .int .i64 (t : Int), .int .u64 (n64 a)] w2 fun e w3 => e = .returned (.int .i64 0) ∧ RfTo w F r (C.set t a) (((E ++ [(1, f)]) ++ [(1, t)]) ++ [(2, t)]) w3 := fun w2 h2 a => by
    have := rstore_ok h2.1 (t : Int) a (by omega) (by omega) (by simp; omega)
    rw [Int.toNat_natCast] at this
    exact this.mono fun e w' hh => ⟨hh.1, h2.trans hh.2⟩
  have HFIN2 : ∀ (w2 : World) (a c : BitVec 64) (h2 : RfTo w F r (C.set t a) (((E ++ [(1, f)]) ++ [(1, t)]) ++ [(2, t)]) w2), Calls Try.prog 24 #[.pointer (some ⟨r, 0, none⟩), .int .i64 (f : Int), .int .u64 (n64 c)] w2 fun e w3 => e = .returned (.int .i64 0) ∧ RfTo w F r ((C.set t a).set f c) ((((E ++ [(1, f)]) ++ [(1, t)]) ++ [(2, t)]) ++ [(2, f)]) w3 := fun w2 a c h2 => by
    have := rstore_ok h2.1 (f : Int) c (by omega) (by simp; omega) (by simp; omega)
    rw [Int.toNat_natCast] at this
    exact this.mono fun e w' hh => ⟨hh.1, h2.trans hh.2⟩
  have S1 := Lib.hid HFIN
  have S2 := Lib.hid HFIN2
  have HL2 := Lib.hid (fun (w1 : World) (h1 : RfTo w F r C (E ++ [(1, f)]) w1) => (show Calls Try.prog 53 #[.pointer (some ⟨r, 0, none⟩), .int .i64 (t : Int)] w1 fun e w' => e = .returned (.tuple #[.int .u64 (n64 y), .int .i64 0]) ∧ RfTo w F r C ((E ++ [(1, f)]) ++ [(1, t)]) w' from by
    have := rload_ok h1.1 (t : Int) (by omega) (by omega) (by rw [List.length_append]; simp; omega); rw [Int.toNat_natCast, HXY.out.2] at this; exact this.mono fun e w' hh => ⟨hh.1, h1.trans hh.2⟩))
  clear HFIN HFIN2 HXY HA
  rcases hj with ⟨j1, j2⟩ | ⟨j1, j2, j3⟩
  · subst j2
    have d1 : decide (0 ≤ j) = false := decide_eq_false (by omega)
    cases b with
    | false =>
      go_enter Try.func51, Try.ntmps51
      go_wp2_with fail
      refine HL1.out.mono ?_
      rintro e w1 ⟨rfl, h1⟩
      have H1 := Lib.hid h1
      clear h1
      go_wp2_with fail
      refine (HL2.out _ H1.out).mono ?_
      rintro e w2 ⟨rfl, h2⟩
      have H2 := Lib.hid h2
      clear h2 H1
      go_wp2_with fail
      refine (S1.out _ H2.out y).mono ?_
      rintro e w3 ⟨rfl, h3⟩
      have H3 := Lib.hid h3
      clear h3 H2
      go_wp2_with fail
      refine (S2.out _ y x H3.out).mono ?_
      rintro e w4 ⟨rfl, h4⟩
      have H4 := Lib.hid h4
      clear h4 H3
      go_wp2_with fail
      go_ret
      exact ⟨rfl, by rw [HR.out]; exact H4.out⟩
    | true =>
      go_enter Try.func51, Try.ntmps51
      go_wp2_with fail
      refine HL1.out.mono ?_
      rintro e w1 ⟨rfl, h1⟩
      have H1 := Lib.hid h1
      clear h1
      go_wp2_with fail
      refine (HL2.out _ H1.out).mono ?_
      rintro e w2 ⟨rfl, h2⟩
      have H2 := Lib.hid h2
      clear h2 H1
      go_wp2_with fail
      refine (S1.out _ H2.out x).mono ?_
      rintro e w3 ⟨rfl, h3⟩
      have H3 := Lib.hid h3
      clear h3 H2
      go_wp2_with fail
      refine Calls.mono (R := fun e w4 => e = .returned (.int .i64 0) ∧ RfTo w F r ((C.set t x).set f 0#64) ((((E ++ [(1, f)]) ++ [(1, t)]) ++ [(2, t)]) ++ [(2, f)]) w4) (S2.out _ x 0#64 H3.out) ?_
      rintro e w4 ⟨rfl, h4⟩
      have H4 := Lib.hid h4
      clear h4 H3
      go_wp2_with fail
      go_ret
      exact ⟨rfl, by rw [HR.out]; exact H4.out⟩
  · obtain ⟨j, rfl⟩ := Int.eq_ofNat_of_zero_le j1
    rw [Int.toNat_natCast] at j3
    have HBT : Hid (∀ W, Calls Try.prog 41 #[.int .u64 (n64 x), .int .i64 (j : Int)] W fun e w' => e = .returned (.bool b) ∧ W = w') := Lib.hid (fun W => by rw [j3]; exact rbit_any x j (by omega) W)
    clear j3
    cases b with
    | false =>
      go_enter Try.func51, Try.ntmps51
      go_wp2_with fail
      refine HL1.out.mono ?_
      rintro e w1 ⟨rfl, h1⟩
      have H1 := Lib.hid h1
      clear h1
      go_wp2_with fail
      refine (HL2.out _ H1.out).mono ?_
      rintro e w2 ⟨rfl, h2⟩
      have H2 := Lib.hid h2
      clear h2 H1
      go_wp2_with fail
      refine (HBT.out _).mono ?_
      rintro e w' ⟨rfl, rfl⟩
      go_wp2_with fail
      refine (S1.out _ H2.out y).mono ?_
      rintro e w3 ⟨rfl, h3⟩
      have H3 := Lib.hid h3
      clear h3 H2
      go_wp2_with fail
      refine (S2.out _ y x H3.out).mono ?_
      rintro e w4 ⟨rfl, h4⟩
      have H4 := Lib.hid h4
      clear h4 H3
      go_wp2_with fail
      go_ret
      exact ⟨rfl, by rw [HR.out]; exact H4.out⟩
    | true =>
      go_enter Try.func51, Try.ntmps51
      go_wp2_with fail
      refine HL1.out.mono ?_
      rintro e w1 ⟨rfl, h1⟩
      have H1 := Lib.hid h1
      clear h1
      go_wp2_with fail
      refine (HL2.out _ H1.out).mono ?_
      rintro e w2 ⟨rfl, h2⟩
      have H2 := Lib.hid h2
      clear h2 H1
      go_wp2_with fail
      refine (HBT.out _).mono ?_
      rintro e w' ⟨rfl, rfl⟩
      go_wp2_with fail
      refine (S1.out _ H2.out x).mono ?_
      rintro e w3 ⟨rfl, h3⟩
      have H3 := Lib.hid h3
      clear h3 H2
      go_wp2_with fail
      refine Calls.mono (R := fun e w4 => e = .returned (.int .i64 0) ∧ RfTo w F r ((C.set t x).set f 0#64) ((((E ++ [(1, f)]) ++ [(1, t)]) ++ [(2, t)]) ++ [(2, f)]) w4) (S2.out _ x 0#64 H3.out) ?_
      rintro e w4 ⟨rfl, h4⟩
      have H4 := Lib.hid h4
      clear h4 H3
      go_wp2_with fail
      go_ret
      exact ⟨rfl, by rw [HR.out]; exact H4.out⟩
set_option maxHeartbeats 4000000 in
theorem rroute_ok (h : Rf w F r C E) (base n far : Nat) (hz : rtE C.length E.length base n far = 0) :
    Calls Try.prog 26 #[.pointer (some ⟨r, 0, none⟩), .int .i64 (base : Int), .int .i64 (n : Int), .int .i64 (far : Int)] w fun e w' => e = .returned (.int .i64 0) ∧ RfTo w F r (rtL base far (C, E) (moves n)).1 (rtL base far (C, E) (moves n)).2 w' := by
  obtain ⟨g1, g2, g3, g4, g5, g6, g7, g8⟩ := rtE_zero hz
  rw [Int.toNat_natCast] at g8
  have hn2 := h.n2
  have b1 : 1 ≤ n := by omega
  have b2 : n ≤ 288 := by omega
  have hL3 := (moves_le b1 b2).2.2
  have HPL := Lib.hid (rplan_ok n b1 b2 w)
  have HH1 := Lib.hid (fun (W : World) (F : Nat → Prop) (ha : Rf W F r C E) => (by have := rhas_any ha base (3 * (n : Int)); rwa [show hasE C.length base (3 * (n : Int)) = 0 by unfold hasE; rw [if_neg (by omega)]] at this : Calls Try.prog 49 #[.pointer (some ⟨r, 0, none⟩), .int .i64 (base : Int), .int .i64 (3 * (n : Int))] W fun e w' => e = .returned (.int .i64 0) ∧ W = w'))
  have HH2 := Lib.hid (fun (W : World) (F : Nat → Prop) (ha : Rf W F r C E) => (by have := rhas_any ha far (n : Int); rwa [show hasE C.length far (n : Int) = 0 by unfold hasE; rw [if_neg (by omega)]] at this : Calls Try.prog 49 #[.pointer (some ⟨r, 0, none⟩), .int .i64 (far : Int), .int .i64 (n : Int)] W fun e w' => e = .returned (.int .i64 0) ∧ W = w'))
  obtain ⟨ML, hML⟩ : ∃ ML, moves n = ML := ⟨_, rfl⟩
  have HMM := Lib.hid (fun (m : Mv) (hm : m ∈ ML) => moves_mem (n := n) (by rw [hML]; exact hm))
  have HRN := Lib.hid (rn_ok b1 b2).1
  rw [hML] at HPL g8 hL3 ⊢
  obtain ⟨q, hq⟩ : ∃ q, ML.length = q := ⟨_, rfl⟩
  have HQ := Lib.hid hq
  rw [hq] at g8 hL3
  have HH3 := Lib.hid (fun (W : World) (F : Nat → Prop) (ha : Rf W F r C E) => (by have := rroom_any ha (16 * (q : Int)); rwa [show roomE E.length (16 * (q : Int)) = 0 by unfold roomE; rw [if_neg (by omega), if_neg (by omega)]] at this : Calls Try.prog 50 #[.pointer (some ⟨r, 0, none⟩), .int .i64 (16 * (q : Int))] W fun e w' => e = .returned (.int .i64 0) ∧ W = w'))
  have HA := Lib.hid h
  have H8 := Lib.hid g8
  have t1 : ¬ ((far : Int) < (base : Int) + 3 * (n : Int)) ∨ ((far : Int) < (base : Int) + 3 * (n : Int) ∧ ¬ ((base : Int) < (far : Int) + (n : Int))) := by omega
  clear h hz g8 g7 hML hq
  rcases t1 with t1 | ⟨t1, t2⟩
  all_goals
    go_enter Try.func26, Try.ntmps26
    go_wp2_with fail
    refine HPL.out.mono ?_
    rintro e w1 ⟨v, rfl, r1, o1⟩
    obtain ⟨A, cap, rfl⟩ := CoR.form (w := w) (W := w1) ⟨r1, o1⟩
    rw [HQ.out] at r1 ⊢
    have HA1 := Lib.hid (HA.out.keep o1 (fun _ _ h => h))
    have R1 := Lib.hid r1
    have O1 := Lib.hid o1
    clear r1 o1 HPL
    go_wp2_with fail
    refine (HH1.out _ _ HA1.out).mono ?_
    rintro e w' ⟨rfl, rfl⟩
    go_wp2_with fail
    refine (HH2.out _ _ HA1.out).mono ?_
    rintro e w' ⟨rfl, rfl⟩
    go_wp2_with fail
    refine (HH3.out _ _ HA1.out).mono ?_
    rintro e w' ⟨rfl, rfl⟩
    go_wp2_with fail
    by_cases hq0 : q = 0
    · have hME : ML = [] := List.eq_nil_of_length_eq_zero (by rw [HQ.out]; exact hq0)
      have HF : Hid (RfTo w F r (rtL base far (C, E) ML).1 (rtL base far (C, E) ML).2 w1) := Lib.hid (by rw [hME]; exact RfTo.off HA.out O1.out)
      subst hq0
      clear hME
      refine wp_loop_rounds 1 ?_
      rw [rounds_succ]
      go_wp2_with fail
      go_ret
      exact ⟨rfl, HF.out⟩
    have hAf : ∃ g, A = some ⟨g, 0, none⟩ ∧ w.heap.size ≤ g ∧ g < w1.heap.size := by
      have hl := R1.out.lt
      rcases R1.out.2 with ⟨hx, h0⟩ | ⟨g, cap', cur, hx, _⟩
      · exact absurd h0 hq0
      · injection hx with hx1
        exact ⟨g, hx1, hl g (by rw [hx1]; rfl)⟩
    obtain ⟨g, rfl, hg1, hg2⟩ := hAf
    obtain ⟨cur, hcur⟩ := own_blkR R1.out
    have HCU : Hid (∀ j, j < q * 3 → cur[j]? = (mvC ML)[j]?) := Lib.hid (fun j hj => by rw [← hcur.cell, R1.out.cellAt j hj])
    have HW0 : Hid (WkR w F w1 [(g, 29, cur)] r C E) := Lib.hid ⟨F, HA1.out, fun k hk => .inl hk, O1.out.ofNob, HA.out.lt, fun x hx => by
      rw [List.mem_singleton] at hx
      subst hx
      exact ⟨hcur, fun hk => by have := HA.out.lt _ hk; dsimp only at this; omega, hg1⟩, by simp⟩
    clear hcur HA1 R1 HH1 HH2 HH3
    go_loopw [11] (fun i wr => ∃ k : Nat, k ≤ q ∧ i = .int .i64 (k : Int) ∧ WkR w F wr [(g, 29, cur)] r (rtL base far (C, E) (ML.take k)).1 (rtL base far (C, E) (ML.take k)).2) (fun i _ => q - (intOf i).toNat)
    case atStart => exact ⟨0, Nat.zero_le _, rfl, HW0.out⟩
    case round =>
      obtain ⟨k, hk, rfl, hwk⟩ := hrel
      have HWK := Lib.hid hwk
      by_cases hlt : k < q
      · have hkm : k < ML.length := by rw [HQ.out]; exact hlt
        obtain ⟨⟨mj, mi, mk⟩, hmm⟩ : ∃ m, ML[k]'hkm = m := ⟨_, rfl⟩
        have hmem := HMM.out (mj, mi, mk) (by rw [← hmm]; exact List.getElem_mem hkm)
        obtain ⟨m1, m2, m3, m4⟩ := hmem
        dsimp only at m1 m2 m3 m4
        obtain ⟨z1, z2, z3⟩ := mvC_at ML k hkm
        rw [hmm] at z1 z2 z3
        rw [← HCU.out _ (by omega)] at z1 z2 z3
        have hbk := hwk.blk (List.mem_cons_self ..)
        have c1 := (hbk.cell (3 * k)).trans z1
        have c2 := (hbk.cell (3 * k + 1)).trans z2
        have c3 := (hbk.cell (3 * k + 2)).trans z3
        simp only [Nat.mul_comm 3 k] at c1 c2 c3
        have HTK := Lib.hid (show rtL base far (C, E) (ML.take (k + 1)) = rtM base far (rtL base far (C, E) (ML.take k)) (mj, mi, mk) by rw [List.take_succ_eq_append_getElem hkm, hmm, rtL_snoc])
        obtain ⟨q1, q2⟩ := rtL_len base far (C, E) (ML.take k)
        rw [List.length_take_of_le (by rw [HQ.out]; exact hk)] at q2
        obtain ⟨⟨C1, E1⟩, hCE⟩ : ∃ x, rtL base far (C, E) (ML.take k) = x := ⟨_, rfl⟩
        rw [hCE] at HWK hwk HTK q1 q2
        dsimp only at q1 q2
        have hpp := Nat.one_le_two_pow (n := mj)
        have hki : mk ≤ mi := by omega
        have hj : mj ≤ 9 := by have := HRN.out; omega
        have q3 : E1.length + 16 ≤ 8388608 := by have := H8.out; omega
        have HW1 := Lib.hid (hwk.push 29 #[.int .i64 (mj : Int), .int .i64 (mi : Int), .int .i64 (mk : Int)])
        clear hwk hmm z1 z2 z3 hbk hCE q2 hpp m1 m2 m4 HWK HW0
        go_wp2_with fail
        obtain ⟨bt, hbt⟩ : ∃ bt, bitB (cl C1 (far + mi)) mj = bt := ⟨_, rfl⟩
        have HBT := Lib.hid hbt
        refine (HW1.out.call (e0 := .returned (.bool bt)) (C2 := (prS bt (C1, E1) (far + mi) (far + mk)).1) (E2 := (prS bt (C1, E1) (far + mi) (far + mk)).2) (fun w' F' ha => by
          have := rpair_ok ha (far + mi) (far + mk) false (mj : Int) bt (.inr ⟨by omega, by omega, by rw [Int.toNat_natCast]; exact hbt.symm⟩) (by rw [q1]; omega) (by rw [q1]; omega) (by omega)
          push_cast at this
          exact this)).mono ?_
        rintro e w3 ⟨rfl, h3⟩
        obtain ⟨s2, hs2⟩ : ∃ s2, wr.heap.size = s2 := ⟨_, rfl⟩
        rw [hs2] at h3 ⊢
        have H3 := Lib.hid h3
        clear h3 HW1 c1 c2 c3 hs2 hbt
        go_wp2_with fail
        go_loopw [14] (fun c wq => ∃ k2 : Nat, k2 ≤ 3 ∧ c = .int .i64 (k2 : Int) ∧ WkR w F wq [(s2, 29, #[.int .i64 (mj : Int), .int .i64 (mi : Int), .int .i64 (mk : Int)]), (g, 29, cur)] r (rcS bt (base + 3 * mi) (base + 3 * mk) (prS bt (C1, E1) (far + mi) (far + mk)) k2).1 (rcS bt (base + 3 * mi) (base + 3 * mk) (prS bt (C1, E1) (far + mi) (far + mk)) k2).2) (fun c _ => 3 - (intOf c).toNat)
        case atStart => exact ⟨0, Nat.zero_le _, rfl, H3.out⟩
        case round =>
          obtain ⟨k2, hk2, rfl, h5⟩ := hrel
          have H5 := Lib.hid h5
          have hbx := h5.blk (List.mem_cons_self ..)
          have x1 := hbx.cell 1
          have x2 := hbx.cell 2
          simp only [List.getElem?_toArray, List.getElem?_cons_succ, List.getElem?_cons_zero] at x1 x2
          obtain ⟨y1, y2⟩ := rcS_len bt (base + 3 * mi) (base + 3 * mk) (prS bt (C1, E1) (far + mi) (far + mk)) k2
          obtain ⟨y3, y4⟩ := prS_len bt (C1, E1) (far + mi) (far + mk)
          rw [y3] at y1
          rw [y4] at y2
          dsimp only at y1 y2
          clear h5 y3 y4 hbx
          by_cases hlt2 : k2 < 3
          · have HC := Lib.hid (H5.out.call (e0 := .returned (.bool bt)) (C2 := (rcS bt (base + 3 * mi) (base + 3 * mk) (prS bt (C1, E1) (far + mi) (far + mk)) (k2 + 1)).1) (E2 := (rcS bt (base + 3 * mi) (base + 3 * mk) (prS bt (C1, E1) (far + mi) (far + mk)) (k2 + 1)).2) (P := Try.prog) (f := 51) (xs := #[.pointer (some ⟨r, 0, none⟩), .int .i64 ((base : Int) + 3 * (mi : Int) + (k2 : Int)), .int .i64 ((base : Int) + 3 * (mk : Int) + (k2 : Int)), .bool bt, .int .i64 (-1)]) (fun w1 F1 ha => by
              have := rpair_ok ha (base + 3 * mi + k2) (base + 3 * mk + k2) bt (-1) bt (.inl ⟨by omega, rfl⟩) (by rw [y1, q1]; omega) (by rw [y1, q1]; omega) (by rw [y2]; omega)
              push_cast at this
              exact this))
            clear y1 y2
            go_wp2_with fail
            refine HC.out.mono ?_
            rintro e w6 ⟨rfl, h6⟩
            have H6 := Lib.hid h6
            clear h6 x1 x2 HC
            go_wp2_with fail
            go_roundw
            case rel => exact ⟨k2 + 1, by omega, by go_num, H6.out⟩
            case measure => simp [intOf]; omega
          · obtain rfl : k2 = 3 := by omega
            clear y1 y2 x1 x2
            have e1 : rtM base far (C1, E1) (mj, mi, mk) = rcS bt (base + 3 * mi) (base + 3 * mk) (prS bt (C1, E1) (far + mi) (far + mk)) 3 := by unfold rtM; dsimp only; rw [HBT.out]
            have HN : Hid (WkR w F wr [(g, 29, cur)] r (rtL base far (C, E) (ML.take (k + 1))).1 (rtL base far (C, E) (ML.take (k + 1))).2) := Lib.hid (by rw [HTK.out, e1]; exact H5.out.drop)
            clear e1
            go_wp2_with fail
            go_roundw
            case rel => exact ⟨k + 1, by omega, by go_num, HN.out⟩
            case measure => simp [intOf]; omega
      · obtain rfl : q = k := by omega
        have HF : Hid (RfTo w F r (rtL base far (C, E) ML).1 (rtL base far (C, E) ML).2 wr) := Lib.hid (by have := hwk.done; rwa [List.take_of_length_le (by rw [HQ.out]; exact Nat.le_refl _)] at this)
        clear hwk HWK
        go_wp2_with fail
        go_ret
        exact ⟨rfl, HF.out⟩
end
end Go.Proofs.Ytlefjlclhmapaaa
