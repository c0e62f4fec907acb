/-
  compare.check, rows, EqualRows, LessRows, exchange, Exchange over an arena.
-/
import Derived.Test.YtdgehacbpjgmcaaCmpPure
import Derived.Test.YtdgehacbpjgmcaaMaskSwap
import Derived.Test.YtdgehacbpjgmcaaPair
import Derived.IntWalk
namespace Go.Proofs.Ytdgehacbpjgmcaa
open Go.RowKit
attribute [local go_sem] bits_and_u64 bits_or_u64 bits_xor_u64 bits_andNot_u64 wrap_u64 bv_add bv_neg bv_sub bv_mul
set_option linter.unusedVariables false
set_option maxRecDepth 100000
/-- What check answers. -/
def ccE (nC : Nat) (x y n : Int) : Int := if n < 1 ∨ 64 < n then 7 else if hasE nC x n = 0 then hasE nC y n else hasE nC x n
theorem ccE_zero {nC : Nat} {x y n : Int} (h : ccE nC x y n = 0) : 1 ≤ n ∧ n ≤ 64 ∧ 0 ≤ x ∧ x + n ≤ nC ∧ 0 ≤ y ∧ y + n ≤ nC := by
  unfold ccE at h
  split at h
  · cases h
  · rename_i hn
    split at h
    · rename_i hx
      rcases hasE_cases nC x n with ⟨_, h2⟩ | ⟨h1, _⟩
      · rcases hasE_cases nC y n with ⟨_, h3⟩ | ⟨h1, _⟩
        · omega
        · rw [h1] at h; cases h
      · rw [h1] at hx; cases hx
    · rename_i hx; exact absurd h hx
/-- Two rows compared, up to k cells: equal; less. -/
def ordR (C : List (BitVec 64)) (x y : Nat) : Nat → Bool × Bool
  | 0 => (true, false)
  | k + 1 => ((ordR C x y k).1 && decide (cl C (x + k) = cl C (y + k)), (ordR C x y k).2 || ((ordR C x y k).1 && decide ((cl C (x + k)).toNat < (cl C (y + k)).toNat)))
theorem ordR_succ (C : List (BitVec 64)) (x y k : Nat) : ordR C x y (k + 1) = ((ordR C x y k).1 && decide (cl C (x + k) = cl C (y + k)), (ordR C x y k).2 || ((ordR C x y k).1 && decide ((cl C (x + k)).toNat < (cl C (y + k)).toNat))) := rfl
/-- The steps of that. -/
def evR (x y : Nat) (E : List Ev) : Nat → List Ev
  | 0 => E
  | k + 1 => evR x y E k ++ [(1, x + k), (1, y + k)]
theorem evR_succ (x y : Nat) (E : List Ev) (k : Nat) : evR x y E (k + 1) = evR x y E k ++ [(1, x + k), (1, y + k)] := rfl
theorem length_evR (x y : Nat) (E : List Ev) (k : Nat) : (evR x y E k).length = E.length + 2 * k := by
  induction k with
  | zero => rfl
  | succ k ih => rw [evR_succ, List.length_append, ih]; show _ + 2 = _; omega
def crE (nC nE : Nat) (x y n : Int) : Int := if ccE nC x y n = 0 then roomE nE (2 * n) else ccE nC x y n
/-- What rows returns, and leaves. -/
def crR (C : List (BitVec 64)) (E : List Ev) (x y n : Int) : (BitVec 64 × BitVec 64 × Int) × (List (BitVec 64) × List Ev) :=
  if crE C.length E.length x y n = 0 then ((msk (ordR C x.toNat y.toNat n.toNat).1, msk (ordR C x.toNat y.toNat n.toNat).2, 0), (C, evR x.toNat y.toNat E n.toNat)) else ((0#64, 0#64, crE C.length E.length x y n), (C, E))
theorem crE_zero {nC nE : Nat} {x y n : Int} (h : crE nC nE x y n = 0) : (1 ≤ n ∧ n ≤ 64 ∧ 0 ≤ x ∧ x + n ≤ nC ∧ 0 ≤ y ∧ y + n ≤ nC) ∧ nE + 2 * n ≤ 8388608 := by
  unfold crE at h
  split at h
  · rename_i h1; exact ⟨ccE_zero h1, (roomE_zero h).2⟩
  · rename_i h1; exact absurd h h1
/-- Two rows put in order. -/
def exF (n : Nat) (s : List (BitVec 64) × List Ev) (x y : Nat) : List (BitVec 64) × List Ev := rep (swF (ltM (cl s.1 y) (cl s.1 x)) x y) (s.1, s.2 ++ [(1, x), (1, y)]) n
theorem exF_len (n : Nat) (s : List (BitVec 64) × List Ev) (x y : Nat) : (exF n s x y).1.length = s.1.length ∧ (exF n s x y).2.length = s.2.length + (4 * n + 2) := by
  unfold exF
  obtain ⟨h1, h2⟩ := rep_sw_len (ltM (cl s.1 y) (cl s.1 x)) x y (s.1, s.2 ++ [(1, x), (1, y)]) n
  refine ⟨h1, h2.trans ?_⟩
  simp; omega
def exE (nC nE : Nat) (x y n : Int) : Int := if ccE nC x y n = 0 then if x < y + n ∧ y < x + n then 2 else roomE nE (4 * n + 2) else ccE nC x y n
def exR (C : List (BitVec 64)) (E : List Ev) (x y n : Int) : Int × (List (BitVec 64) × List Ev) :=
  if exE C.length E.length x y n = 0 then (0, exF n.toNat (C, E) x.toNat y.toNat) else (exE C.length E.length x y n, (C, E))
theorem exE_zero {nC nE : Nat} {x y n : Int} (h : exE nC nE x y n = 0) : (1 ≤ n ∧ n ≤ 64 ∧ 0 ≤ x ∧ x + n ≤ nC ∧ 0 ≤ y ∧ y + n ≤ nC) ∧ ¬ (x < y + n ∧ y < x + n) ∧ nE + (4 * n + 2) ≤ 8388608 := by
  unfold exE at h
  split at h
  · rename_i h1
    split at h
    · cases h
    · rename_i h2; exact ⟨ccE_zero h1, h2, (roomE_zero h).2⟩
  · rename_i h1; exact absurd h h1
section
variable {w : World} {F : Nat → Prop} {p : Nat} {C : List (BitVec 64)} {E : List Ev}
set_option maxHeartbeats 1000000 in
theorem ccheck_any (h : Ar w F p C E) (x y n : Int) :
    Calls Try.prog 58 #[.pointer (some ⟨p, 0, none⟩), .int .i64 x, .int .i64 y, .int .i64 n] w fun e w' => e = .returned (.int .i64 (ccE C.length x y n)) ∧ w = w' := by
  have H := Lib.hid h
  clear h
  by_cases n1 : n < 1
  · have HF := Lib.hid (show ccE C.length x y n = 7 by unfold ccE; rw [if_pos (.inl n1)])
    go_enter Try.func58, Try.ntmps58
    go_wp2_with fail
    go_ret
    exact ⟨by rw [HF.out]; rfl, rfl⟩
  by_cases n2 : 64 < n
  · have HF := Lib.hid (show ccE C.length x y n = 7 by unfold ccE; rw [if_pos (.inr n2)])
    go_enter Try.func58, Try.ntmps58
    go_wp2_with fail
    go_ret
    exact ⟨by rw [HF.out]; rfl, rfl⟩
  have hn : ¬ (n < 1 ∨ 64 < n) := by omega
  by_cases hb : hasE C.length x n = 0
  · have HB := Lib.hid hb
    have HF := Lib.hid (show ccE C.length x y n = hasE C.length y n by unfold ccE; rw [if_neg hn, if_pos hb])
    clear hb hn
    go_enter Try.func58, Try.ntmps58
    go_wp2_with fail
    refine Calls.mono (R := fun e w' => e = .returned (.int .i64 0) ∧ w = w') (by have := has_any H.out x n; rwa [HB.out] at this) ?_
    rintro e w' ⟨rfl, rfl⟩
    go_wp2_with fail
    refine (has_any H.out y n).mono ?_
    rintro e w' ⟨rfl, rfl⟩
    go_wp2_with fail
    go_ret
    exact ⟨by rw [HF.out]; rfl, rfl⟩
  · have HF := Lib.hid (show ccE C.length x y n = hasE C.length x n by unfold ccE; rw [if_neg hn, if_neg hb])
    have hq : (hasE C.length x n != 0) = true := by rw [bne_iff_ne]; exact hb
    clear hb hn
    go_enter Try.func58, Try.ntmps58
    go_wp2_with fail
    refine (has_any H.out x n).mono ?_
    rintro e w' ⟨rfl, rfl⟩
    go_wp2_with fail
    go_ret
    exact ⟨by rw [HF.out]; rfl, rfl⟩
def Ve3Post (w : World) (F : Nat → Prop) (p : Nat) (r : (BitVec 64 × BitVec 64 × Int) × (List (BitVec 64) × List Ev)) (e : Ending) (w' : World) : Prop :=
  e = .returned (.tuple #[.int .u64 (n64 r.1.1), .int .u64 (n64 r.1.2.1), .int .i64 r.1.2.2]) ∧ ArTo w F p r.2.1 r.2.2 w'
set_option maxHeartbeats 2000000 in
theorem crows_ok (h : Ar w F p C E) (x y n : Nat) (hz : crE C.length E.length x y n = 0) :
    Calls Try.prog 39 #[.pointer (some ⟨p, 0, none⟩), .int .i64 (x : Int), .int .i64 (y : Int), .int .i64 (n : Int)] w (Ve3Post w F p ((msk (ordR C x y n).1, msk (ordR C x y n).2, 0), (C, evR x y E n))) := by
  obtain ⟨⟨g1, g2, g3, g4, g5, g6⟩, g7⟩ := crE_zero hz
  have h2 := h.n2
  have H := Lib.hid h
  have hck : ccE C.length x y n = 0 := by
    unfold crE at hz
    split at hz
    · assumption
    · rename_i h1; exact absurd hz h1
  have hrm : roomE E.length (2 * (n : Int)) = 0 := by unfold crE at hz; rwa [if_pos hck] at hz
  have HK := Lib.hid hck
  have HR := Lib.hid hrm
  clear h hz hck hrm
  go_enter Try.func39, Try.ntmps39
  go_wp2_with fail
  refine Calls.mono (R := fun e w' => e = .returned (.int .i64 0) ∧ w = w') (by have := ccheck_any H.out x y n; rwa [HK.out] at this) ?_
  rintro e w' ⟨rfl, rfl⟩
  go_wp2_with fail
  refine Calls.mono (R := fun e w' => e = .returned (.int .i64 0) ∧ w = w') (by have := room_any H.out (2 * (n : Int)); rwa [HR.out] at this) ?_
  rintro e w' ⟨rfl, rfl⟩
  go_wp2_with fail
  refine Calls.mono (R := fun e w' => e = .returned (.int .u64 18446744073709551615) ∧ w = w') (of_any 1#64 w) ?_
  rintro e w' ⟨rfl, rfl⟩
  go_wp2_with fail
  go_loopw [8, 9, 35] (fun sm ls i wr => ∃ k : Nat, k ≤ n ∧ i = .int .i64 k ∧ sm = .int .u64 (n64 (msk (ordR C x y k).1)) ∧ ls = .int .u64 (n64 (msk (ordR C x y k).2)) ∧ ArTo w F p C (evR x y E k) wr) (fun _ _ i _ => n - (intOf i).toNat)
  case atStart => exact ⟨0, Nat.zero_le _, rfl, rfl, rfl, ArTo.refl H.out⟩
  case round =>
    obtain ⟨k, hk, rfl, rfl, rfl, hrel⟩ := hrel
    have HA := Lib.hid hrel
    have HE := Lib.hid (length_evR x y E k)
    clear hrel
    by_cases hlt : k < n
    · go_wp2_with fail
      refine (load_ok HA.out.1 ((x : Int) + (k : Int)) (by omega) (by omega) (by rw [HE.out]; omega)).mono ?_
      rintro e w1 ⟨rfl, h1⟩
      have H1 := Lib.hid (HA.out.trans h1)
      clear h1
      go_wp2_with fail
      refine (load_ok H1.out.1 ((y : Int) + (k : Int)) (by omega) (by omega) (by rw [List.length_append, HE.out]; show _ + 1 < _; omega)).mono ?_
      rintro e w2 ⟨rfl, h2⟩
      have H2 : Hid (ArTo w F p C (evR x y E (k + 1)) w2) := by
        have := H1.out.trans h2
        rw [show ((x : Int) + (k : Int)).toNat = x + k by omega, show ((y : Int) + (k : Int)).toNat = y + k by omega, List.append_assoc] at this
        exact Lib.hid this
      clear h2 H1
      have t1 : ((x : Int) + (k : Int)).toNat = x + k := by omega
      have t2 : ((y : Int) + (k : Int)).toNat = y + k := by omega
      rw [t1, t2]
      clear t1 t2
      have HS1 : Hid (n64 (msk (ordR C x y k).1 &&& eqM (cl C (x + k)) (cl C (y + k))) = n64 (msk (ordR C x y (k + 1)).1)) := Lib.hid (by rw [ordR_succ]; unfold eqM; rw [msk_and])
      have HS2 : Hid (n64 (msk (ordR C x y k).2 ||| (msk (ordR C x y k).1 &&& ltM (cl C (x + k)) (cl C (y + k)))) = n64 (msk (ordR C x y (k + 1)).2)) := Lib.hid (by rw [ordR_succ]; unfold ltM; rw [msk_and, msk_or])
      go_wp2_with fail
      refine (less_any _ _ w2).mono ?_
      rintro e w' ⟨rfl, rfl⟩
      go_wp2_with fail
      refine (equal_any _ _ w2).mono ?_
      rintro e w' ⟨rfl, rfl⟩
      go_wp2_with fail
      go_roundw
      case rel => exact ⟨k + 1, by omega, by go_num, by rw [← HS1.out], by rw [← HS2.out], H2.out⟩
      case measure => simp [intOf]; omega
    · obtain rfl : n = k := by omega
      go_wp2_with fail
      go_ret3
      exact ⟨rfl, HA.out⟩
end
end Go.Proofs.Ytdgehacbpjgmcaa
