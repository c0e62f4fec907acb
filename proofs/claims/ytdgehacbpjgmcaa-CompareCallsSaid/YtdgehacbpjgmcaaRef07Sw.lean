/-
  dragnetref07.Asked, Swap, Move, Clear, SwapRows, MoveRows over the specification's arena.
-/
import Derived.Test.YtdgehacbpjgmcaaRef07
import Derived.Test.YtdgehacbpjgmcaaMaskSwap
import Derived.Test.YtdgehacbpjgmcaaPair
namespace Go.Proofs.Ytdgehacbpjgmcaa
open Go.RowKit
attribute [local go_sem] bits_and_u64 bits_or_u64 bits_xor_u64 bits_andNot_u64 wrap_u64 bv_add bv_neg bv_sub bv_mul
set_option linter.unusedVariables false
set_option maxRecDepth 100000
theorem sw_eq1 (m u v : BitVec 64) : u ^^^ (m &&& (u ^^^ v)) = selM m v u := by unfold selM; rw [BitVec.xor_comm u v]
theorem swC_sel (C : List (BitVec 64)) (m : BitVec 64) (x y : Nat) : (C.set x (selM m (cl C y) (cl C x))).set y (selM m (cl C x) (cl C y)) = swC C m x y := by unfold swC; rw [sw_eq1]; rfl
theorem clr_sel (m v : BitVec 64) : selM m 0#64 v = v &&& ~~~ m := by
  unfold selM
  ext i hi
  simp only [BitVec.getElem_and, BitVec.getElem_not, BitVec.getElem_xor, BitVec.getElem_zero]
  cases m[i] <;> cases v[i] <;> rfl
section
variable {w : World} {F : Nat → Prop} {r : Nat} {C : List (BitVec 64)} {E : List Ev}
set_option maxHeartbeats 1000000 in
theorem rAsked_any (h : Rf w F r C E) (m : BitVec 64) (n steps : Int) (b k : Nat) (rows : List Int) (hl : rows.length = k) (hk : k ≤ 1000) (hc : ∀ j, j < k → w.cell? ⟨b, j, none⟩ = some (.int .i64 (rows.getD j 0))) :
    Calls Try.prog 90 #[.pointer (some ⟨r, 0, none⟩), .int .u64 (n64 m), .slice (some ⟨b, 0, none⟩) k k, .int .i64 n, .int .i64 steps] w fun e w' => e = .returned (.int .i64 (ckE C.length E.length m n steps rows)) ∧ w = w' := by
  have H := Lib.hid h
  have HL := Lib.hid hl
  have HC := Lib.hid hc
  clear h hl hc
  cases hm : isM m
  · have HF := Lib.hid (show ckE C.length E.length m n steps rows = 2 by unfold ckE; rw [hm]; rfl)
    have HM := Lib.hid hm
    clear hm
    go_enter Try.func90, Try.ntmps90
    go_wp2_with fail
    refine (ris_any m _).mono ?_
    rintro e w' ⟨rfl, rfl⟩
    rw [HM.out]
    go_wp2_with fail
    go_ret
    exact ⟨by rw [HF.out]; rfl, rfl⟩
  · have HM := Lib.hid hm
    clear hm
    go_enter Try.func90, Try.ntmps90
    go_wp2_with fail
    refine (ris_any m _).mono ?_
    rintro e w' ⟨rfl, rfl⟩
    rw [HM.out]
    go_wp2_with fail
    go_loop [11] (fun i => ∃ j : Nat, j ≤ k ∧ i = .int .i64 j ∧ rowsE C.length n rows = rowsE C.length n (rows.drop j)) (fun i => k - (intOf i).toNat)
    case atStart => exact ⟨0, Nat.zero_le _, rfl, rfl⟩
    case round =>
      obtain ⟨j, hj, rfl, hrel⟩ := hrel
      by_cases hlt : j < k
      · have hd := rowsE_drop C.length n rows j (by have := HL.out; omega) hrel
        have hcell : w.cell? ⟨b, j, none⟩ = some (.int .i64 (rows.getD j 0)) := HC.out j hlt
        have HD := Lib.hid hd
        clear hrel hd
        revert HD hcell
        generalize rows.getD j 0 = x
        intro hcell HD
        by_cases hz : hasE C.length x n = 0
        · have HZ := Lib.hid hz
          clear hz
          go_wp2_with fail
          refine Calls.mono (R := fun e w' => e = .returned (.int .i64 0) ∧ w = w') (by have := rhas_any H.out x n; rwa [HZ.out] at this) ?_
          rintro e w' ⟨rfl, rfl⟩
          go_wp2_with fail
          go_round
          case rel => exact ⟨j + 1, by omega, by go_num, HD.out.1 HZ.out⟩
          case measure => simp [intOf]; omega
        · have hq : (hasE C.length x n != 0) = true := by rw [bne_iff_ne]; exact hz
          have HF := Lib.hid (show ckE C.length E.length m n steps rows = hasE C.length x n by
            unfold ckE
            rw [HM.out, if_pos rfl, HD.out.2 hz, if_neg hz])
          have HZ := Lib.hid hz
          clear hz
          go_wp2_with fail
          refine (rhas_any H.out x n).mono ?_
          rintro e w' ⟨rfl, rfl⟩
          go_wp2_with fail
          go_ret
          exact ⟨by rw [HF.out]; rfl, rfl⟩
      · have hr0 : rowsE C.length n rows = 0 := by rw [hrel, List.drop_of_length_le (by have := HL.out; omega)]; rfl
        have HF := Lib.hid (show ckE C.length E.length m n steps rows = roomE E.length steps by
            unfold ckE
            rw [HM.out, if_pos rfl, if_pos hr0])
        clear hrel hr0
        go_wp2_with fail
        refine (rroom_any H.out steps).mono ?_
        rintro e w' ⟨rfl, rfl⟩
        go_wp2_with fail
        go_ret
        exact ⟨by rw [HF.out]; rfl, rfl⟩
set_option maxHeartbeats 1000000 in
theorem rswap_ok (h : Rf w F r C E) (m : BitVec 64) (x y : Int) (hx0 : 0 ≤ x) (hx1 : x < C.length) (hy0 : 0 ≤ y) (hy1 : y < C.length) (he : E.length + 4 ≤ 8388608) :
    Calls Try.prog 88 #[.pointer (some ⟨r, 0, none⟩), .int .u64 (n64 m), .int .i64 x, .int .i64 y] w fun e w' => e = .returned (.tuple #[]) ∧ RfTo w F r (swC C m x.toNat y.toNat) (E ++ [(1, x.toNat), (1, y.toNat), (2, x.toNat), (2, y.toNat)]) w' := by
  have H := Lib.hid h
  have HE := Lib.hid he
  clear h he
  go_enter Try.func88, Try.ntmps88
  go_wp2_with fail
  refine (rload_ok H.out x hx0 hx1 (by have := HE.out; omega)).mono ?_
  rintro e w1 ⟨rfl, hw1⟩
  have H1 := Lib.hid hw1
  clear hw1
  go_wp2_with fail
  refine (rload_ok H1.out.1 y hy0 hy1 (by have := HE.out; simp; omega)).mono ?_
  rintro e w2 ⟨rfl, hw2⟩
  have H2 := Lib.hid (H1.out.trans hw2)
  clear hw2 H1
  go_wp2_with fail
  refine (rselect_any m _ _ _).mono ?_
  rintro e w' ⟨rfl, rfl⟩
  go_wp2_with fail
  refine (rstore_ok H2.out.1 x _ hx0 hx1 (by have := HE.out; simp; omega)).mono ?_
  rintro e w3 ⟨rfl, hw3⟩
  have H3 := Lib.hid (H2.out.trans hw3)
  clear hw3 H2
  go_wp2_with fail
  refine (rselect_any m _ _ _).mono ?_
  rintro e w' ⟨rfl, rfl⟩
  go_wp2_with fail
  refine (rstore_ok H3.out.1 y _ hy0 (by simpa using hy1) (by have := HE.out; simp; omega)).mono ?_
  rintro e w4 ⟨rfl, hw4⟩
  have H4 := Lib.hid (H3.out.trans hw4)
  clear hw4 H3
  go_wp2
  go_end0
  refine ⟨rfl, ?_⟩
  have := H4.out
  simp only [List.append_assoc, List.cons_append, List.nil_append] at this
  rw [← swC_sel]
  exact this
/-- The error of two rows. -/
def rrwE (nC nE : Nat) (m : BitVec 64) (x y n S : Int) : Int :=
  if isM m = true then if n < 1 ∨ 64 < n then 7 else if ckE nC nE m n 0 [x, y] = 0 then if x < y + n ∧ y < x + n then 2 else roomE nE S else ckE nC nE m n 0 [x, y] else 2
set_option maxHeartbeats 2000000 in
theorem rrows_any (h : Rf w F r C E) (m : BitVec 64) (x y n S : Int) :
    Calls Try.prog 87 #[.pointer (some ⟨r, 0, none⟩), .int .u64 (n64 m), .int .i64 x, .int .i64 y, .int .i64 n, .int .i64 S] w fun e w' => e = .returned (.int .i64 (rrwE C.length E.length m x y n S)) ∧ Off Nob w w' := by
  have h2 := h.n2
  have H := Lib.hid h
  have HK := Lib.hid (rAsked_any (h.box (.cells #[.int .i64 x, .int .i64 y] 3)) m n 0 w.heap.size 2 [x, y] rfl (by decide) (rd2 w 3 x y))
  clear h
  cases hm : isM m
  · have HF := Lib.hid (show rrwE C.length E.length m x y n S = 2 by unfold rrwE; rw [hm]; rfl)
    have HM := Lib.hid hm
    clear hm
    go_enter Try.func87, Try.ntmps87
    go_wp2_with fail
    refine (ris_any m _).mono ?_
    rintro e w' ⟨rfl, rfl⟩
    rw [HM.out]
    go_wp2_with fail
    go_ret
    exact ⟨by rw [HF.out]; rfl, Off.refl _ _⟩
  have HM := Lib.hid hm
  by_cases hn : n < 1 ∨ 64 < n
  · have HF := Lib.hid (show rrwE C.length E.length m x y n S = 7 by unfold rrwE; rw [if_pos hm, if_pos hn])
    clear hm
    by_cases hn1 : n < 1
    · clear hn
      go_enter Try.func87, Try.ntmps87
      go_wp2_with fail
      refine (ris_any m _).mono ?_
      rintro e w' ⟨rfl, rfl⟩
      rw [HM.out]
      go_wp2_with fail
      go_ret
      exact ⟨by rw [HF.out]; rfl, Off.refl _ _⟩
    · have hn2 : 64 < n := by omega
      clear hn
      go_enter Try.func87, Try.ntmps87
      go_wp2_with fail
      refine (ris_any m _).mono ?_
      rintro e w' ⟨rfl, rfl⟩
      rw [HM.out]
      go_wp2_with fail
      go_ret
      exact ⟨by rw [HF.out]; rfl, Off.refl _ _⟩
  have hn1 : ¬ n < 1 := by omega
  have hn2 : ¬ 64 < n := by omega
  by_cases hc : ckE C.length E.length m n 0 [x, y] = 0
  · obtain ⟨_, hr1, _⟩ := ckE_zero hc
    obtain ⟨hx, hr2⟩ := rowsE_one hr1
    obtain ⟨hy, _⟩ := rowsE_one hr2
    have hx0 := hx.1
    have hx1 := hx.2.2
    have hy0 := hy.1
    have hy1 := hy.2.2
    have HC := Lib.hid hc
    by_cases ho : x < y + n ∧ y < x + n
    · have HF := Lib.hid (show rrwE C.length E.length m x y n S = 2 by unfold rrwE; rw [if_pos hm, if_neg hn, if_pos hc, if_pos ho])
      obtain ⟨ho1, ho2⟩ := ho
      clear hm hc hr1 hr2 hx hy hn
      go_enter Try.func87, Try.ntmps87
      go_wp2_with fail
      refine (ris_any m _).mono ?_
      rintro e w' ⟨rfl, rfl⟩
      rw [HM.out]
      go_wp2_with fail
      refine Calls.mono (R := fun e w' => e = .returned (.int .i64 0) ∧ w.alloc (.cells #[.int .i64 x, .int .i64 y] 3) = w') (by have := HK.out; rwa [HC.out] at this) ?_
      rintro e w' ⟨rfl, rfl⟩
      go_wp2_with fail
      go_ret
      exact ⟨by rw [HF.out]; rfl, Off.alloc (Off.refl _ _) _⟩
    · have HF := Lib.hid (show rrwE C.length E.length m x y n S = roomE E.length S by unfold rrwE; rw [if_pos hm, if_neg hn, if_pos hc, if_neg ho])
      have HRM := Lib.hid (rroom_any (H.out.box (.cells #[.int .i64 x, .int .i64 y] 3)) S)
      have hxy : ¬ x < y + n ∨ (x < y + n ∧ ¬ y < x + n) := by omega
      clear hm hc hr1 hr2 hx hy hn ho
      rcases hxy with hxy | ⟨hxy, hyx⟩
      all_goals
        go_enter Try.func87, Try.ntmps87
        go_wp2_with fail
        refine (ris_any m _).mono ?_
        rintro e w' ⟨rfl, rfl⟩
        rw [HM.out]
        go_wp2_with fail
        refine Calls.mono (R := fun e w' => e = .returned (.int .i64 0) ∧ w.alloc (.cells #[.int .i64 x, .int .i64 y] 3) = w') (by have := HK.out; rwa [HC.out] at this) ?_
        rintro e w' ⟨rfl, rfl⟩
        go_wp2_with fail
        refine HRM.out.mono ?_
        rintro e w' ⟨rfl, rfl⟩
        go_wp2_with fail
        go_ret
        exact ⟨by rw [HF.out]; rfl, Off.alloc (Off.refl _ _) _⟩
  · have HF := Lib.hid (show rrwE C.length E.length m x y n S = ckE C.length E.length m n 0 [x, y] by unfold rrwE; rw [if_pos hm, if_neg hn, if_neg hc])
    have hq : (ckE C.length E.length m n 0 [x, y] != 0) = true := by rw [bne_iff_ne]; exact hc
    revert HK HF hq
    generalize ckE C.length E.length m n 0 [x, y] = c
    intro HK HF hq
    clear hm hc hn
    go_enter Try.func87, Try.ntmps87
    go_wp2_with fail
    refine (ris_any m _).mono ?_
    rintro e w' ⟨rfl, rfl⟩
    rw [HM.out]
    go_wp2_with fail
    refine HK.out.mono ?_
    rintro e w' ⟨rfl, rfl⟩
    go_wp2_with fail
    go_ret
    exact ⟨by rw [HF.out]; rfl, Off.alloc (Off.refl _ _) _⟩
theorem rrwE_eq (nC nE : Nat) (m : BitVec 64) (x y n s : Int) : rwE nC nE m x y n s = rrwE nC nE m x y n (s * n) := rfl
theorem rrwE_clip (nC nE : Nat) (m : BitVec 64) (x y n s S : Int) (h : 1 ≤ n → n ≤ 64 → S = s * n) : rrwE nC nE m x y n S = rwE nC nE m x y n s := by
  unfold rrwE rwE
  by_cases hn : n < 1 ∨ 64 < n
  · rw [if_pos hn, if_pos hn]
  · rw [if_neg hn, if_neg hn, h (by omega) (by omega)]
set_option maxHeartbeats 2000000 in
theorem rswapRows_any (h : Rf w F r C E) (m : BitVec 64) (x y n : Int) :
    Calls Try.prog 84 #[.pointer (some ⟨r, 0, none⟩), .int .u64 (n64 m), .int .i64 x, .int .i64 y, .int .i64 n] w (RErPost w F r (rwR C E m x y n 4 (swF m x.toNat y.toNat)).1 (rwR C E m x y n 4 (swF m x.toNat y.toNat)).2) := by
  have H := Lib.hid h
  by_cases hz : rwE C.length E.length m x y n 4 = 0
  · obtain ⟨_, g1, g2, g3, g4, g5, g6, _, g7⟩ := rwE_zero hz
    have g8 := roomE_zero g7
    obtain ⟨x, rfl⟩ := Int.eq_ofNat_of_zero_le g3
    obtain ⟨y, rfl⟩ := Int.eq_ofNat_of_zero_le g5
    obtain ⟨n, rfl⟩ := Int.eq_ofNat_of_zero_le (show 0 ≤ n by omega)
    have HR := Lib.hid (show rwR C E m x y n 4 (swF m x y) = (0, rep (swF m x y) (C, E) n) from by unfold rwR; rw [if_pos hz]; rfl)
    have HZ := Lib.hid (show rrwE C.length E.length m x y n (4 * n) = 0 from hz)
    have HO := Lib.hid (rrows_any h m x y n (4 * n))
    have hm1 : max (n : Int) 0 = n := by omega
    have hm2 : min (n : Int) 64 = n := by omega
    have n1 : 1 ≤ n := by omega
    have n2 : n ≤ 64 := by omega
    have G4 := Lib.hid (show x + n ≤ C.length by omega)
    have G6 := Lib.hid (show y + n ≤ C.length by omega)
    have G8 := Lib.hid (show E.length + 4 * n ≤ 8388608 by omega)
    have HL := Lib.hid (fun i => rep_sw_len m x y (C, E) i)
    clear h hz g1 g2 g3 g4 g5 g6 g7 g8
    go_enter Try.func84, Try.ntmps84
    go_wp2_with fail
    refine Calls.mono (R := fun e w' => e = .returned (.int .i64 0) ∧ Off Nob w w') (by have := HO.out; rwa [HZ.out] at this) ?_
    rintro e w1 ⟨rfl, o1⟩
    have HST : Hid (RfTo w F r (rep (swF m x y) (C, E) 0).1 (rep (swF m x y) (C, E) 0).2 w1) := RfTo.off (H.out) o1
    clear o1
    go_wp2_with fail
    go_loopw [12] (fun i wr => ∃ j : Nat, j ≤ n ∧ i = .int .i64 j ∧ RfTo w F r (rep (swF m x y) (C, E) j).1 (rep (swF m x y) (C, E) j).2 wr) (fun i _ => n - (intOf i).toNat)
    case atStart => exact ⟨0, Nat.zero_le _, rfl, HST.out⟩
    case round =>
      obtain ⟨j, hj, rfl, hrel⟩ := hrel
      have HRL := Lib.hid hrel
      clear hrel HST
      by_cases hlt : j < n
      · have x1 : x + n ≤ C.length := G4.out
        have y1 : y + n ≤ C.length := G6.out
        have x2 := H.out.n2
        have HQ := Lib.hid (rswap_ok HRL.out.1 m ((x : Int) + j) ((y : Int) + j) (by omega) (by rw [(HL.out j).1]; have := G4.out; show _ < (C.length : Int); omega) (by omega) (by rw [(HL.out j).1]; have := G6.out; show _ < (C.length : Int); omega) (by rw [(HL.out j).2]; have := G8.out; show E.length + 4 * j + 4 ≤ _; omega))
        have HRS := Lib.hid (rep_succ (swF m x y) (C, E) j)
        go_wp2_with fail
        refine HQ.out.mono ?_
        rintro e w2 ⟨rfl, h3⟩
        have H3 : Hid (RfTo w F r (rep (swF m x y) (C, E) (j + 1)).1 (rep (swF m x y) (C, E) (j + 1)).2 w2) := by rw [HRS.out]; exact HRL.out.trans h3
        clear h3
        go_wp2_with fail
        go_roundw
        case rel => exact ⟨j + 1, by omega, by go_num, H3.out⟩
        case measure => simp [intOf]; omega
      · obtain rfl : n = j := by omega
        go_wp2_with fail
        go_ret
        rw [Int.toNat_natCast, Int.toNat_natCast, HR.out]
        exact ⟨rfl, HRL.out⟩
  · have HR := Lib.hid (show rwR C E m x y n 4 (swF m x.toNat y.toNat) = (rwE C.length E.length m x y n 4, (C, E)) from by unfold rwR; rw [if_neg hz])
    have hq : (rwE C.length E.length m x y n 4 == 0) = false := by rw [beq_eq_false_iff_ne]; exact hz
    have hc : n < 0 ∨ n = 0 ∨ (1 ≤ n ∧ n ≤ 64) ∨ 64 < n := by omega
    rcases hc with hn | hn | ⟨hn, hn2⟩ | hn
    · have HO := Lib.hid (rrows_any h m x y n (0))
      have HE := Lib.hid (rrwE_clip C.length E.length m x y n 4 (0) (fun h1 h2 => by omega))
      revert HR HE hq
      generalize rwE C.length E.length m x y n 4 = c
      intro HR hq HE
      clear h hz
      go_enter Try.func84, Try.ntmps84
      go_wp2_with fail
      refine Calls.mono (R := fun e w' => e = .returned (.int .i64 c) ∧ Off Nob w w') (by have := HO.out; rwa [HE.out] at this) ?_
      rintro e w1 ⟨rfl, o1⟩
      have HST : Hid (RfTo w F r C E w1) := RfTo.off (H.out) o1
      clear o1
      go_wp2_with fail
      refine wp_loop_rounds 1 ?_
      rw [rounds_succ]
      go_wp2_with fail
      go_ret
      rw [HR.out]
      exact ⟨rfl, HST.out⟩
    · have HO := Lib.hid (rrows_any h m x y n (0))
      have HE := Lib.hid (rrwE_clip C.length E.length m x y n 4 (0) (fun h1 h2 => by omega))
      revert HR HE hq
      generalize rwE C.length E.length m x y n 4 = c
      intro HR hq HE
      clear h hz
      subst hn
      go_enter Try.func84, Try.ntmps84
      go_wp2_with fail
      refine Calls.mono (R := fun e w' => e = .returned (.int .i64 c) ∧ Off Nob w w') (by have := HO.out; rwa [HE.out] at this) ?_
      rintro e w1 ⟨rfl, o1⟩
      have HST : Hid (RfTo w F r C E w1) := RfTo.off (H.out) o1
      clear o1
      go_wp2_with fail
      refine wp_loop_rounds 1 ?_
      rw [rounds_succ]
      go_wp2_with fail
      go_ret
      rw [HR.out]
      exact ⟨rfl, HST.out⟩
    · have HO := Lib.hid (rrows_any h m x y n (4 * n))
      have HE := Lib.hid (rrwE_clip C.length E.length m x y n 4 (4 * n) (fun h1 h2 => by omega))
      revert HR HE hq
      generalize rwE C.length E.length m x y n 4 = c
      intro HR hq HE
      clear h hz
      go_enter Try.func84, Try.ntmps84
      go_wp2_with fail
      refine Calls.mono (R := fun e w' => e = .returned (.int .i64 c) ∧ Off Nob w w') (by have := HO.out; rwa [HE.out] at this) ?_
      rintro e w1 ⟨rfl, o1⟩
      have HST : Hid (RfTo w F r C E w1) := RfTo.off (H.out) o1
      clear o1
      go_wp2_with fail
      refine wp_loop_rounds 1 ?_
      rw [rounds_succ]
      go_wp2_with fail
      go_ret
      rw [HR.out]
      exact ⟨rfl, HST.out⟩
    · have HO := Lib.hid (rrows_any h m x y n (256))
      have HE := Lib.hid (rrwE_clip C.length E.length m x y n 4 (256) (fun h1 h2 => by omega))
      revert HR HE hq
      generalize rwE C.length E.length m x y n 4 = c
      intro HR hq HE
      clear h hz
      go_enter Try.func84, Try.ntmps84
      go_wp2_with fail
      refine Calls.mono (R := fun e w' => e = .returned (.int .i64 c) ∧ Off Nob w w') (by have := HO.out; rwa [HE.out] at this) ?_
      rintro e w1 ⟨rfl, o1⟩
      have HST : Hid (RfTo w F r C E w1) := RfTo.off (H.out) o1
      clear o1
      go_wp2_with fail
      refine wp_loop_rounds 1 ?_
      rw [rounds_succ]
      go_wp2_with fail
      go_ret
      rw [HR.out]
      exact ⟨rfl, HST.out⟩
end
end Go.Proofs.Ytdgehacbpjgmcaa
