/-
 compare's functions of numbers, and the specification's.
-/
import Derived.Test.YtkflicifngohcaaGreatDoorM21
import Derived.IntWalk
import Derived.Test.YtkflicifngohcaaGreatDoorM12
set_option linter.unusedVariables false
set_option linter.unusedSimpArgs false
namespace Go.Proofs.YtkflicifngohcaaGreatDoor
open Go.RowKit
attribute [local go_sem] bits_and_u64 bits_or_u64 bits_xor_u64 bits_andNot_u64 wrap_u64 bv_add bv_neg bv_sub bv_mul
attribute [local go_sem ↓] run_max_u64 run_min_u64
set_option maxRecDepth 100000
def eqM (a b : BitVec 64) : BitVec 64 := msk (decide (a = b))
theorem ze_xor (a b : BitVec 64) : zeM (a ^^^ b) = eqM a b := by
 unfold zeM eqM
 by_cases h : a = b
 ·subst h; rw [decide_eq_true rfl, decide_eq_true (by simp)]
 ·rw [decide_eq_false h, decide_eq_false]
  intro h2
  apply h
  have h3 : a ^^^ b = 0#64 := BitVec.eq_of_toNat_eq (by simpa using h2)
  exact BitVec.xor_eq_zero_iff.1 h3
theorem equal_any (a b : BitVec 64) (w : World) : Calls Tryz.prog 135 #[.int .u64 (n64 a), .int .u64 (n64 b)] w fun e w' => e = .returned (.int .u64 (n64 (eqM a b))) ∧ w = w' := by
 go_enter Tryz.func135, Tryz.ntmps135
 go_wp2_with fail
 refine (zero_any _ w).mono ?_
 rintro e w' ⟨rfl, rfl⟩
 go_wp2
 go_ret
 exact ⟨ret_int (by rw [ze_xor]), rfl⟩
end Go.Proofs.YtkflicifngohcaaGreatDoor

namespace Go.Proofs.YtkflicifngohcaaGreatDoor
open Go.RowKit Go.Shelf
attribute [local go_sem] Oper.semAt_some
set_option maxRecDepth 100000
theorem hasE_both (n : Nat) (x k : Int) : (hasE n x k = 0 ∧ 0 ≤ x ∧ 0 ≤ k ∧ x + k ≤ n) ∨ (hasE n x k = 7 ∧ ¬ (0 ≤ x ∧ 0 ≤ k ∧ x + k ≤ n)) := by
 unfold hasE
 split
 ·right; exact ⟨rfl, by omega⟩
 ·left; exact ⟨rfl, by omega⟩
theorem roomE_ok {n : Nat} {s : Int} (h : roomE n s = 0) : 0 ≤ s ∧ n + s ≤ 8388608 := by
 unfold roomE at h
 split at h
 ·cases h
 ·split at h
  ·cases h
  ·omega
def lkE (nC nE : Nat) (base n s : Int) : Int := if n < 1 ∨ 4096 < n then 7 else if hasE nC base n = 0 then roomE nE (s * n) else hasE nC base n
theorem lkE_zero {nC nE : Nat} {base n s : Int} (h : lkE nC nE base n s = 0) : 1 ≤ n ∧ n ≤ 4096 ∧ 0 ≤ base ∧ base + n ≤ nC ∧ nE + s * n ≤ 8388608 := by
 unfold lkE at h
 split at h
 ·cases h
 ·rename_i h1
  split at h
  ·rename_i h2
   rcases hasE_both nC base n with ⟨_, h3⟩ | ⟨h3, _⟩
   ·have := (roomE_ok h).2; omega
   ·rw [h3] at h2; cases h2
  ·rename_i h2; exact absurd h h2
def ldE (base : Nat) (E : List Ev) : Nat → List Ev
 | 0 => E
 | k + 1 => ldE base E k ++ [(1, base + k)]
theorem ldE_succ (base : Nat) (E : List Ev) (k : Nat) : ldE base E (k + 1) = ldE base E k ++ [(1, base + k)] := rfl
theorem length_ldE (base : Nat) (E : List Ev) (k : Nat) : (ldE base E k).length = E.length + k := by
 induction k with
 | zero => rfl
 | succ k ih => rw [ldE_succ, List.length_append, ih]; rfl
section
variable {w : World} {F : Nat → Prop} {p : Nat} {C : List (BitVec 64)} {E : List Ev}
set_option maxHeartbeats 1000000 in
theorem lcheck_any (h : Ar w F p C E) (base n : Int) (s : Nat) (hs : s ≤ 2) :
  Calls Tryz.prog 93 #[.pointer (some ⟨p, 0, none⟩), .int .i64 base, .int .i64 n, .int .i64 (s : Int)] w fun e w' => e = .returned (.int .i64 (lkE C.length E.length base n s)) ∧ w = w' := by
 have H := hID h
 clear h
 by_cases n1 : n < 1
 ·have HF := hID (show lkE C.length E.length base n s = 7 by unfold lkE; rw [if_pos (.inl n1)])
  go_enter Tryz.func93, Tryz.ntmps93
  go_wp2_with fail
  go_ret
  exact ⟨by rw [HF.out]; rfl, rfl⟩
 by_cases n2 : 4096 < n
 ·have HF := hID (show lkE C.length E.length base n s = 7 by unfold lkE; rw [if_pos (.inr n2)])
  go_enter Tryz.func93, Tryz.ntmps93
  go_wp2_with fail
  go_ret
  exact ⟨by rw [HF.out]; rfl, rfl⟩
 have hn : ¬ (n < 1 ∨ 4096 < n) := by omega
 by_cases hb : hasE C.length base n = 0
 ·have HB := hID hb
  have HF := hID (show lkE C.length E.length base n s = roomE E.length ((s : Int) * n) by unfold lkE; rw [if_neg hn, if_pos hb])
  have m1 : 0 ≤ (s : Int) * n := Int.mul_nonneg (by omega) (by omega)
  have m2 : (s : Int) * n ≤ 2 * n := Int.mul_le_mul_of_nonneg_right (by omega) (by omega)
  clear hb hn
  go_enter Tryz.func93, Tryz.ntmps93
  go_wp2_with fail
  refine Calls.mono (R := fun e w' => e = .returned (.int .i64 0) ∧ w = w') (by have := has_any H.out base n; rwa [HB.out] at this) ?_
  rintro e w' ⟨rfl, rfl⟩
  go_wp2_with fail
  refine (room_any H.out ((s : Int) * n)).mono ?_
  rintro e w' ⟨rfl, rfl⟩
  go_wp2_with fail
  go_ret
  exact ⟨by rw [HF.out]; rfl, rfl⟩
 ·have HF := hID (show lkE C.length E.length base n s = hasE C.length base n by unfold lkE; rw [if_neg hn, if_neg hb])
  have hq : (hasE C.length base n != 0) = true := by rw [bne_iff_ne]; exact hb
  clear hb hn
  go_enter Tryz.func93, Tryz.ntmps93
  go_wp2_with fail
  refine (has_any H.out base n).mono ?_
  rintro e w' ⟨rfl, rfl⟩
  go_wp2_with fail
  go_ret
  exact ⟨by rw [HF.out]; rfl, rfl⟩
end
theorem lat_any (i : Nat) (hi : i < 18446744073709551616) (idx : BitVec 64) (w : World) : Calls Tryz.prog 95 #[.int .i64 (i : Int), .int .u64 (n64 idx)] w fun e w' => e = .returned (.int .u64 (n64 (eqM (BitVec.ofNat 64 i) idx))) ∧ w = w' := by
 have HN := hID (show n64 (BitVec.ofNat 64 i) = (i : Int) by unfold n64; rw [BitVec.toNat_ofNat, Nat.mod_eq_of_lt hi])
 go_enter Tryz.func95, Tryz.ntmps95
 go_wp2_with fail
 refine Calls.mono (R := fun e w' => e = .returned (.int .u64 (n64 (eqM (BitVec.ofNat 64 i) idx))) ∧ w = w') (by have := equal_any (BitVec.ofNat 64 i) idx w; rwa [HN.out] at this) ?_
 rintro e w' ⟨rfl, rfl⟩
 go_wp2
 go_ret
 exact ⟨rfl, rfl⟩
theorem all_any (p : Nat) (base n : Int) (w : World) : Calls Tryz.prog 94 #[.pointer (some ⟨p, 0, none⟩), .int .i64 base, .int .i64 n] w fun e w' =>
  e = .returned (.func (.func 134) #[] #[.pointer (some ⟨w.heap.size + 1 + 1, 0, none⟩), .pointer (some ⟨w.heap.size, 0, none⟩), .pointer (some ⟨w.heap.size + 1, 0, none⟩)]) ∧
  w' = ((w.alloc (.cells #[.pointer (some ⟨p, 0, none⟩)] 36)).alloc (.cells #[.int .i64 base] 3)).alloc (.cells #[.int .i64 n] 3) := by
 go_enter Tryz.func94, Tryz.ntmps94
 go_wp2
 go_ret
 exact ⟨rfl, rfl⟩
set_option maxHeartbeats 2000000 in
theorem all_drives (m : Nat) (hm : 1 ≤ m) (p base n nb ab bb B : Nat) (hn : base + n ≤ 65536) (V : Nat → BitVec 64) (J JY : Nat → World → Prop)
  (hbox : ∀ k W, J k W → W.cell? ⟨nb, 0, none⟩ = some (.int .i64 (n : Int)) ∧ W.cell? ⟨ab, 0, none⟩ = some (.pointer (some ⟨p, 0, none⟩)) ∧ W.cell? ⟨bb, 0, none⟩ = some (.int .i64 (base : Int)))
  (hload : ∀ k W, k < n → J k W → Calls Tryz.prog 96 #[.pointer (some ⟨p, 0, none⟩), .int .i64 ((base : Int) + (k : Int))] W fun e W' => e = .returned (.tuple #[.int .u64 (n64 (V k)), .int .i64 0]) ∧ JY k W' ∧ KeepsOthers W W') :
  Drives Tryz.prog m 134 #[.pointer (some ⟨nb, 0, none⟩), .pointer (some ⟨ab, 0, none⟩), .pointer (some ⟨bb, 0, none⟩)] (fun x : Nat × BitVec 64 => #[.int .i64 (x.1 : Int), .int .u64 (n64 x.2)]) (fun xs => xs.length = n)
   (fun pre W => J pre.length W) (fun pre x W => x.1 = pre.length ∧ x.1 < n ∧ x.2 = V x.1 ∧ JY x.1 W) B := fun l Rk W hRk hB h0 hR hY => by
 have HY := hID hY
 have HK := hID hRk
 have HB := hID hbox
 have HL := hID hload
 have HS : Hid (∃ pre : List (Nat × BitVec 64), pre.length = 0 ∧ J 0 W ∧ Rk W) := hID ⟨[], rfl, h0, hR⟩
 obtain ⟨k1, k2, k3⟩ := hbox 0 W h0
 clear hY hRk hbox hload h0 hR
 refine callsIn_of_wp Tryz.func134 rfl trivial ?_ rfl
 simp only [Tryz.ntmps134, List.size_toArray, List.length_cons, List.length_nil, Nat.reduceAdd, Nat.reduceSub, Array.replicate_succ, Array.replicate_zero, List.push_toArray, List.append_toArray, List.nil_append, List.cons_append]
 gi_wp2
 gi_loopw [9] (fun q wr => ∃ k : Nat, q = .int .i64 (k : Int) ∧ k ≤ n ∧ ∃ pre : List (Nat × BitVec 64), pre.length = k ∧ J k wr ∧ Rk wr) (fun q wr => n - (intOf q).toNat)
 case atStart => exact ⟨0, rfl, Nat.zero_le _, HS.out⟩
 case round =>
  obtain ⟨k, rfl, hk, pre, hpre, hj, hr⟩ := hrel
  have HJ := hID hj
  have HR := hID hr
  have HP := hID hpre
  clear HS k1 k2 k3
  obtain ⟨c1, c2, c3⟩ := HB.out k wr hj
  clear hj hr hpre
  by_cases hlt : k < n
  ·gi_wp2_with fail
   refine ⟨trivial, ?_⟩
   refine callsIn_wide.2 ((HL.out k wr hlt HJ.out).mono ?_)
   rintro e w1 ⟨rfl, hy1, hk1⟩
   obtain ⟨fn, tmps, assign, body, hy, hR⟩ := HY.out pre (k, V k) w1 ⟨HP.out.symm, hlt, rfl, hy1⟩ (HK.out _ _ HR.out hk1)
   dsimp only at hy
   clear hy1 hk1
   gi_wp2
   refine hR.mono ?_
   rintro e w3 ⟨rfl, hj3, hr3⟩
   have HJ3 : Hid (J (k + 1) w3) := by rw [List.length_append, HP.out] at hj3; exact hID hj3
   have HR3 := hID hr3
   clear hy hR hj3 hr3
   gi_wp2
   go_roundw
   case rel => exact ⟨k + 1, by go_num, by omega, pre ++ [(k, V k)], by rw [List.length_append, HP.out]; rfl, HJ3.out, HR3.out⟩
   case measure => simp [intOf]; omega
  ·obtain rfl : n = k := by omega
   gi_wp2
   go_end0
   exact ⟨⟨_, rfl⟩, pre, HP.out, by rw [HP.out]; exact HJ.out, HR.out⟩
end Go.Proofs.YtkflicifngohcaaGreatDoor
