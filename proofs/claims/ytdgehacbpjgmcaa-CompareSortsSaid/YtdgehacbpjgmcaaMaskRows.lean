/-
  masks.rows, SwapRows, MoveRows over an arena.
-/
import Derived.Test.YtdgehacbpjgmcaaMaskOps
namespace Go.Proofs.Ytdgehacbpjgmcaa
open Go.RowKit
set_option maxRecDepth 100000
/-- Something done for the first k cells of two rows. -/
def rep (f : List (BitVec 64) × List Ev → Nat → List (BitVec 64) × List Ev) (s : List (BitVec 64) × List Ev) (k : Nat) : List (BitVec 64) × List Ev := (List.range k).foldl f s
theorem rep_zero (f : List (BitVec 64) × List Ev → Nat → List (BitVec 64) × List Ev) (s : List (BitVec 64) × List Ev) : rep f s 0 = s := rfl
theorem rep_succ (f : List (BitVec 64) × List Ev → Nat → List (BitVec 64) × List Ev) (s : List (BitVec 64) × List Ev) (k : Nat) : rep f s (k + 1) = f (rep f s k) k := by
  unfold rep; rw [List.range_succ, List.foldl_append]; rfl
def swF (m : BitVec 64) (x y : Nat) (s : List (BitVec 64) × List Ev) (i : Nat) : List (BitVec 64) × List Ev := (swC s.1 m (x + i) (y + i), s.2 ++ [(1, x + i), (1, y + i), (2, x + i), (2, y + i)])
def mvF (m : BitVec 64) (x y : Nat) (s : List (BitVec 64) × List Ev) (i : Nat) : List (BitVec 64) × List Ev := (mvC s.1 m (x + i) (y + i), s.2 ++ [(1, x + i), (1, y + i), (2, y + i)])
/-- What rows answers. -/
def rwE (nC nE : Nat) (m : BitVec 64) (x y n steps : Int) : Int :=
  if isM m = true then if n < 1 ∨ 64 < n then 7 else if ckE nC nE m n 0 [x, y] = 0 then if x < y + n ∧ y < x + n then 2 else roomE nE (steps * n) else ckE nC nE m n 0 [x, y] else 2
def rwR (C : List (BitVec 64)) (E : List Ev) (m : BitVec 64) (x y n steps : Int) (f : List (BitVec 64) × List Ev → Nat → List (BitVec 64) × List Ev) : Int × (List (BitVec 64) × List Ev) :=
  if rwE C.length E.length m x y n steps = 0 then (0, rep f (C, E) n.toNat) else (rwE C.length E.length m x y n steps, (C, E))
/-- What rows is handed: it does f at i. -/
def DoesR (w : World) (F : Nat → Prop) (p : Nat) (C : List (BitVec 64)) (E : List Ev) (x y n steps : Nat) (fn : FuncId) (caps : Array Value) (f : List (BitVec 64) × List Ev → Nat → List (BitVec 64) × List Ev) : Prop :=
  (∀ (xs : Array Value) (w1 : World), (callFunc fn xs).run Try.prog w1 = .ok (.enter fn xs) w1) ∧
  ∀ (w1 : World) (i : Nat), i < n → ArTo w F p (rep f (C, E) i).1 (rep f (C, E) i).2 w1 → (rep f (C, E) i).1.length = C.length → (rep f (C, E) i).2.length = E.length + steps * i →
    Calls Try.prog fn (#[.int .i64 ((x : Int) + (i : Int)), .int .i64 ((y : Int) + (i : Int))] ++ caps) w1 fun e w2 => e = .returned (.tuple #[]) ∧ ArTo w1 (Grow F w w1) p (rep f (C, E) (i + 1)).1 (rep f (C, E) (i + 1)).2 w2

section
variable {w : World} {F : Nat → Prop} {p : Nat} {C : List (BitVec 64)} {E : List Ev}
set_option maxHeartbeats 2000000 in
theorem rows_ok (h : Ar w F p C E) (m : BitVec 64) (x y n s : Nat) (fn : FuncId) (caps : Array Value) (f : List (BitVec 64) × List Ev → Nat → List (BitVec 64) × List Ev)
    (hlen : ∀ i, i ≤ n → (rep f (C, E) i).1.length = C.length ∧ (rep f (C, E) i).2.length = E.length + s * i) (hs : s ≤ 4)
    (hg : DoesR w F p C E x y n s fn caps f) (hz : rwE C.length E.length m x y n s = 0) :
    Calls Try.prog 80 #[.pointer (some ⟨p, 0, none⟩), .int .u64 (n64 m), .int .i64 x, .int .i64 y, .int .i64 n, .int .i64 s, .func (.func fn) #[] caps] w fun e w' => e = .returned (.int .i64 0) ∧ ArTo w F p (rep f (C, E) n).1 (rep f (C, E) n).2 w' := by
  have h2 := h.n2
  have H := Lib.hid h
  obtain ⟨hcf, hdo⟩ := hg
  have HD := Lib.hid hdo
  have HL := Lib.hid hlen
  have hm : isM m = true := by
    unfold rwE at hz
    split at hz
    · assumption
    · cases hz
  have hn : 1 ≤ n ∧ n ≤ 64 := by
    unfold rwE at hz
    rw [if_pos hm] at hz
    split at hz
    · cases hz
    · omega
  have hck : ckE C.length E.length m n 0 [(x : Int), (y : Int)] = 0 := by
    unfold rwE at hz
    rw [if_pos hm, if_neg (by omega)] at hz
    split at hz
    · assumption
    · rename_i hne; exact absurd hz hne
  have hap : ¬ ((x : Int) < y + n ∧ (y : Int) < x + n) := by
    unfold rwE at hz
    rw [if_pos hm, if_neg (by omega), if_pos hck] at hz
    split at hz
    · cases hz
    · assumption
  have hrm : roomE E.length ((s : Int) * n) = 0 := by
    unfold rwE at hz
    rw [if_pos hm, if_neg (by omega), if_pos hck, if_neg hap] at hz
    exact hz
  obtain ⟨_, hr1, _⟩ := ckE_zero hck
  obtain ⟨hx, hr2⟩ := rowsE_one hr1
  obtain ⟨hy, _⟩ := rowsE_one hr2
  have HK := Lib.hid (check_any (h.box (.cells #[.int .i64 (x : Int), .int .i64 (y : Int)] 3)) m n 0 w.heap.size 2 [(x : Int), (y : Int)] rfl (by decide) (rd2 w 3 x y))
  have HM := Lib.hid hm
  have HC := Lib.hid hck
  have HR := Lib.hid hrm
  have hx1 : x + n ≤ C.length := by omega
  have hy1 : y + n ≤ C.length := by omega
  have hsn : s * n ≤ 256 := by
    have : s * n ≤ 4 * 64 := Nat.mul_le_mul hs hn.2
    omega
  have hsn2 : ((s : Int) * (n : Int)) = ((s * n : Nat) : Int) := by simp
  have HSN := Lib.hid hsn2
  clear h hdo hlen hm hz hck hrm hr1 hr2 hx hy hsn2
  have hlo1 : 0 ≤ (s : Int) * n := by rw [HSN.out]; omega
  have hlo2 : (s : Int) * n ≤ 256 := by rw [HSN.out]; omega
  by_cases hxy : (x : Int) < y + n
  · have hyx : ¬ (y : Int) < x + n := fun h => hap ⟨hxy, h⟩
    clear hap
    go_enter Try.func80, Try.ntmps80
    go_wp2_with fail
    refine (is_any m _).mono ?_
    rintro e w' ⟨rfl, rfl⟩
    rw [HM.out]
    go_wp2_with fail
    refine Calls.mono (R := fun e w' => e = .returned (.int .i64 0) ∧ w.alloc (.cells #[.int .i64 (x : Int), .int .i64 (y : Int)] 3) = w') (by have := HK.out; rwa [HC.out] at this) ?_
    rintro e w' ⟨rfl, rfl⟩
    go_wp2_with fail
    refine Calls.mono (R := fun e w' => e = .returned (.int .i64 0) ∧ w.alloc (.cells #[.int .i64 (x : Int), .int .i64 (y : Int)] 3) = w') (by have := room_any (H.out.box (.cells #[.int .i64 (x : Int), .int .i64 (y : Int)] 3)) ((s : Int) * n); rwa [HR.out] at this) ?_
    rintro e w' ⟨rfl, rfl⟩
    have HST : Hid (ArTo w F p (rep f (C, E) 0).1 (rep f (C, E) 0).2 (w.alloc (.cells #[.int .i64 (x : Int), .int .i64 (y : Int)] 3))) := ArTo.box H.out (ArTo.refl (H.out.box _))
    go_wp2_with fail
    go_loopw [58] (fun i wr => ∃ j : Nat, j ≤ n ∧ i = .int .i64 j ∧ ArTo w F p (rep f (C, E) j).1 (rep f (C, E) j).2 wr) (fun i _ => n - (intOf i).toNat)
    case atStart => exact ⟨0, Nat.zero_le _, rfl, HST.out⟩
    case round =>
      obtain ⟨j, hj, rfl, hrel⟩ := hrel
      have HRL := Lib.hid hrel
      clear hrel HST
      by_cases hlt : j < n
      · obtain ⟨hl1, hl2⟩ := HL.out j hj
        have HQ := Lib.hid (HD.out wr j hlt HRL.out hl1 hl2)
        clear hl1 hl2
        go_wp2_with fail
        refine HQ.out.mono ?_
        rintro e w2 ⟨rfl, h3⟩
        have H3 := Lib.hid (HRL.out.trans h3)
        clear h3
        go_wp2_with fail
        go_roundw
        case rel => exact ⟨j + 1, by omega, by go_num, H3.out⟩
        case measure => simp [intOf]; omega
      · obtain rfl : n = j := by omega
        go_wp2_with fail
        go_ret
        exact ⟨rfl, HRL.out⟩
  · skip
    clear hap
    go_enter Try.func80, Try.ntmps80
    go_wp2_with fail
    refine (is_any m _).mono ?_
    rintro e w' ⟨rfl, rfl⟩
    rw [HM.out]
    go_wp2_with fail
    refine Calls.mono (R := fun e w' => e = .returned (.int .i64 0) ∧ w.alloc (.cells #[.int .i64 (x : Int), .int .i64 (y : Int)] 3) = w') (by have := HK.out; rwa [HC.out] at this) ?_
    rintro e w' ⟨rfl, rfl⟩
    go_wp2_with fail
    refine Calls.mono (R := fun e w' => e = .returned (.int .i64 0) ∧ w.alloc (.cells #[.int .i64 (x : Int), .int .i64 (y : Int)] 3) = w') (by have := room_any (H.out.box (.cells #[.int .i64 (x : Int), .int .i64 (y : Int)] 3)) ((s : Int) * n); rwa [HR.out] at this) ?_
    rintro e w' ⟨rfl, rfl⟩
    have HST : Hid (ArTo w F p (rep f (C, E) 0).1 (rep f (C, E) 0).2 (w.alloc (.cells #[.int .i64 (x : Int), .int .i64 (y : Int)] 3))) := ArTo.box H.out (ArTo.refl (H.out.box _))
    go_wp2_with fail
    go_loopw [58] (fun i wr => ∃ j : Nat, j ≤ n ∧ i = .int .i64 j ∧ ArTo w F p (rep f (C, E) j).1 (rep f (C, E) j).2 wr) (fun i _ => n - (intOf i).toNat)
    case atStart => exact ⟨0, Nat.zero_le _, rfl, HST.out⟩
    case round =>
      obtain ⟨j, hj, rfl, hrel⟩ := hrel
      have HRL := Lib.hid hrel
      clear hrel HST
      by_cases hlt : j < n
      · obtain ⟨hl1, hl2⟩ := HL.out j hj
        have HQ := Lib.hid (HD.out wr j hlt HRL.out hl1 hl2)
        clear hl1 hl2
        go_wp2_with fail
        refine HQ.out.mono ?_
        rintro e w2 ⟨rfl, h3⟩
        have H3 := Lib.hid (HRL.out.trans h3)
        clear h3
        go_wp2_with fail
        go_roundw
        case rel => exact ⟨j + 1, by omega, by go_num, H3.out⟩
        case measure => simp [intOf]; omega
      · obtain rfl : n = j := by omega
        go_wp2_with fail
        go_ret
        exact ⟨rfl, HRL.out⟩

set_option maxHeartbeats 2000000 in
theorem rows_err (h : Ar w F p C E) (m : BitVec 64) (x y n : Int) (s : Nat) (fv : Value) (hs : s ≤ 4) (hz : rwE C.length E.length m x y n s ≠ 0) :
    Calls Try.prog 80 #[.pointer (some ⟨p, 0, none⟩), .int .u64 (n64 m), .int .i64 x, .int .i64 y, .int .i64 n, .int .i64 s, fv] w fun e w' => e = .returned (.int .i64 (rwE C.length E.length m x y n s)) ∧ ArTo w F p C E w' := by
  have h2 := h.n2
  have H := Lib.hid h
  have HK := Lib.hid (check_any (h.box (.cells #[.int .i64 x, .int .i64 y] 3)) m n 0 w.heap.size 2 [x, y] rfl (by decide) (rd2 w 3 x y))
  clear h
  cases hm : isM m
  · have HF := Lib.hid (show rwE C.length E.length m x y n s = 2 by unfold rwE; rw [hm]; rfl)
    have HM := Lib.hid hm
    clear hm hz
    go_enter Try.func80, Try.ntmps80
    go_wp2_with fail
    refine (is_any m _).mono ?_
    rintro e w' ⟨rfl, rfl⟩
    rw [HM.out]
    go_wp2_with fail
    go_ret
    exact ⟨by rw [HF.out]; rfl, ArTo.refl H.out⟩
  have HM := Lib.hid hm
  by_cases hn : n < 1 ∨ 64 < n
  · have HF := Lib.hid (show rwE C.length E.length m x y n s = 7 by unfold rwE; rw [if_pos hm, if_pos hn])
    clear hm hz
    by_cases hn1 : n < 1
    · clear hn
      go_enter Try.func80, Try.ntmps80
      go_wp2_with fail
      refine (is_any m _).mono ?_
      rintro e w' ⟨rfl, rfl⟩
      rw [HM.out]
      go_wp2_with fail
      go_ret
      exact ⟨by rw [HF.out]; rfl, ArTo.refl H.out⟩
    · have hn2 : 64 < n := by omega
      clear hn
      go_enter Try.func80, Try.ntmps80
      go_wp2_with fail
      refine (is_any m _).mono ?_
      rintro e w' ⟨rfl, rfl⟩
      rw [HM.out]
      go_wp2_with fail
      go_ret
      exact ⟨by rw [HF.out]; rfl, ArTo.refl H.out⟩
  have hn1 : ¬ n < 1 := by omega
  have hn2 : ¬ 64 < n := by omega
  by_cases hc : ckE C.length E.length m n 0 [x, y] = 0
  · obtain ⟨_, hr1, _⟩ := ckE_zero hc
    obtain ⟨hx, hr2⟩ := rowsE_one hr1
    obtain ⟨hy, _⟩ := rowsE_one hr2
    have hx0 := hx.1
    have hx1 := hx.2.2
    have hy0 := hy.1
    have hy1 := hy.2.2
    have HC := Lib.hid hc
    by_cases ho : x < y + n ∧ y < x + n
    · have HF := Lib.hid (show rwE C.length E.length m x y n s = 2 by unfold rwE; rw [if_pos hm, if_neg hn, if_pos hc, if_pos ho])
      obtain ⟨ho1, ho2⟩ := ho
      clear hm hz hc hr1 hr2 hx hy hn
      go_enter Try.func80, Try.ntmps80
      go_wp2_with fail
      refine (is_any m _).mono ?_
      rintro e w' ⟨rfl, rfl⟩
      rw [HM.out]
      go_wp2_with fail
      refine Calls.mono (R := fun e w' => e = .returned (.int .i64 0) ∧ w.alloc (.cells #[.int .i64 x, .int .i64 y] 3) = w') (by have := HK.out; rwa [HC.out] at this) ?_
      rintro e w' ⟨rfl, rfl⟩
      go_wp2_with fail
      go_ret
      exact ⟨by rw [HF.out]; rfl, ArTo.box H.out (ArTo.refl (H.out.box _))⟩
    · have HF := Lib.hid (show rwE C.length E.length m x y n s = roomE E.length ((s : Int) * n) by unfold rwE; rw [if_pos hm, if_neg hn, if_pos hc, if_neg ho])
      have hsn : (s : Int) * n ≤ 256 := by
        have h1 : (s : Int) * n ≤ 4 * n := Int.mul_le_mul_of_nonneg_right (by omega) (by omega)
        omega
      have hsn0 : 0 ≤ (s : Int) * n := Int.mul_nonneg (by omega) (by omega)
      have hq : (roomE E.length ((s : Int) * n) != 0) = true := by rw [bne_iff_ne, ← HF.out]; exact hz
      have HRM := Lib.hid (room_any (H.out.box (.cells #[.int .i64 x, .int .i64 y] 3)) ((s : Int) * n))
      have hxy : ¬ x < y + n ∨ (x < y + n ∧ ¬ y < x + n) := by omega
      clear hm hz hc hr1 hr2 hx hy hn ho
      rcases hxy with hxy | ⟨hxy, hyx⟩
      all_goals
        go_enter Try.func80, Try.ntmps80
        go_wp2_with fail
        refine (is_any m _).mono ?_
        rintro e w' ⟨rfl, rfl⟩
        rw [HM.out]
        go_wp2_with fail
        refine Calls.mono (R := fun e w' => e = .returned (.int .i64 0) ∧ w.alloc (.cells #[.int .i64 x, .int .i64 y] 3) = w') (by have := HK.out; rwa [HC.out] at this) ?_
        rintro e w' ⟨rfl, rfl⟩
        go_wp2_with fail
        refine HRM.out.mono ?_
        rintro e w' ⟨rfl, rfl⟩
        go_wp2_with fail
        go_ret
        exact ⟨by rw [HF.out]; rfl, ArTo.box H.out (ArTo.refl (H.out.box _))⟩
  · have HF := Lib.hid (show rwE C.length E.length m x y n s = ckE C.length E.length m n 0 [x, y] by unfold rwE; rw [if_pos hm, if_neg hn, if_neg hc])
    have hq : (ckE C.length E.length m n 0 [x, y] != 0) = true := by rw [bne_iff_ne]; exact hc
    revert HK HF hq
    generalize ckE C.length E.length m n 0 [x, y] = c
    intro HK HF hq
    clear hm hz hc hn
    go_enter Try.func80, Try.ntmps80
    go_wp2_with fail
    refine (is_any m _).mono ?_
    rintro e w' ⟨rfl, rfl⟩
    rw [HM.out]
    go_wp2_with fail
    refine HK.out.mono ?_
    rintro e w' ⟨rfl, rfl⟩
    go_wp2_with fail
    go_ret
    exact ⟨by rw [HF.out]; rfl, ArTo.box H.out (ArTo.refl (H.out.box _))⟩
theorem rwE_zero {nC nE : Nat} {m : BitVec 64} {x y n : Int} {s : Int} (h : rwE nC nE m x y n s = 0) : isM m = true ∧ 1 ≤ n ∧ n ≤ 64 ∧ 0 ≤ x ∧ x + n ≤ nC ∧ 0 ≤ y ∧ y + n ≤ nC ∧ ¬ (x < y + n ∧ y < x + n) ∧ roomE nE (s * n) = 0 := by
  unfold rwE at h
  split at h
  · rename_i hm
    split at h
    · cases h
    · rename_i hn
      split at h
      · rename_i hc
        obtain ⟨_, hr1, _⟩ := ckE_zero hc
        obtain ⟨hx, hr2⟩ := rowsE_one hr1
        obtain ⟨hy, _⟩ := rowsE_one hr2
        split at h
        · cases h
        · rename_i ho
          exact ⟨hm, by omega, by omega, hx.1, hx.2.2, hy.1, hy.2.2, ho, h⟩
      · rename_i hc; exact absurd h hc
  · cases h
end
theorem swC_length (C : List (BitVec 64)) (m : BitVec 64) (x y : Nat) : (swC C m x y).length = C.length := by simp [swC]
theorem mvC_length (C : List (BitVec 64)) (m : BitVec 64) (x y : Nat) : (mvC C m x y).length = C.length := by simp [mvC]
theorem rep_sw_len (m : BitVec 64) (x y : Nat) (s : List (BitVec 64) × List Ev) (k : Nat) : (rep (swF m x y) s k).1.length = s.1.length ∧ (rep (swF m x y) s k).2.length = s.2.length + 4 * k := by
  induction k with
  | zero => exact ⟨rfl, rfl⟩
  | succ k ih => rw [rep_succ]; unfold swF at ih ⊢; simp [swC_length, ih.1, ih.2]; omega
theorem rep_mv_len (m : BitVec 64) (x y : Nat) (s : List (BitVec 64) × List Ev) (k : Nat) : (rep (mvF m x y) s k).1.length = s.1.length ∧ (rep (mvF m x y) s k).2.length = s.2.length + 3 * k := by
  induction k with
  | zero => exact ⟨rfl, rfl⟩
  | succ k ih => rw [rep_succ]; unfold mvF at ih ⊢; simp [mvC_length, ih.1, ih.2]; omega
end Go.Proofs.Ytdgehacbpjgmcaa
