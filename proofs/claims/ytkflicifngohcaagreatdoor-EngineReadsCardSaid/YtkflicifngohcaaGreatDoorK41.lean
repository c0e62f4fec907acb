/-
 What the walks of EngineClears and EngineReads share: two arenas, with contracts that name more; large; Row; slices of cells.
-/
import Derived.Test.YtkflicifngohcaaGreatDoorK36
import Derived.Test.YtkflicifngohcaaGreatDoorK38
import Derived.Test.YtkflicifngohcaaGreatDoorK40
import Derived.Test.YtkflicifngohcaaGreatDoorK9
import Derived.Deep.RegionHeld3
import Derived.Test.YtkflicifngohcaaGreatDoorK29
set_option linter.unusedVariables false
set_option linter.unusedSimpArgs false
namespace Go.Proofs.YtkflicifngohcaaGreatDoor
open Go.RowKit
set_option maxRecDepth 100000
section
variable {w0 w w' : World} {bs : Bks} {p q : Nat} {C C' : List (BitVec 64)} {E E' : List Ev}
end
theorem u64s_words (L : List (BitVec 64)) : u64s L = wordsV (L.map BitVec.toNat) := by
 unfold u64s wordsV
 rw [List.map_map]
 rfl
theorem Rd.from_ {w : World} {F : Nat → Prop} {b o n c : Nat} {L : List Nat} (h : Rd w F 1 (.slice (some ⟨b, o, none⟩) n c) n (wordsV L)) (k : Nat) (hk : k ≤ n) (c2 : Nat) : Rd w (fun _ => True) 1 (.slice (some ⟨b, o + k, none⟩) (n - k) c2) (L.drop k).length (wordsV (L.drop k)) := by
 obtain ⟨A, c', he, hm, hl, hc⟩ := h
 cases he
 have hl2 : L.length = n := by unfold wordsV at hl; simpa using hl
 have hd : (L.drop k).length = n - k := by rw [List.length_drop, hl2]
 rw [hd]
 refine ⟨_, _, rfl, by omega, by unfold wordsV; rw [List.length_map, hd]; omega, fun hn => ?_⟩
 obtain ⟨b2, o2, he, _, hb, hx⟩ := hc (by omega)
 cases he
 refine ⟨b, o + k, rfl, trivial, hb, fun j u hu => ?_⟩
 rw [Nat.add_assoc]
 refine hx (k + j) u ?_
 unfold wordsV at hu ⊢
 rw [List.map_drop, List.getElem?_drop] at hu
 exact hu
theorem bytes_cells {w : World} {v : Value} {L : List Nat} (hv : Rd w (fun _ => True) 1 v L.length (bytesV L)) : ∃ A c, v = .slice A L.length c ∧ ∀ W', Off Nob w W' → ∀ k, k < L.length → ∃ b o, A = some ⟨b, o, none⟩ ∧ W'.cell? ⟨b, o + k, none⟩ = some (.int .u8 ((L.getD k 0 : Nat) : Int)) := by
 obtain ⟨A, c, rfl, _⟩ := hv.form
 refine ⟨A, c, rfl, fun W' o k hk => ?_⟩
 obtain ⟨A2, c2, he2, _, _, hr⟩ := hv.keepT o
 cases he2
 obtain ⟨b, o, rfl, _, _, hcell⟩ := hr (by omega)
 refine ⟨b, o, rfl, hcell k _ ?_⟩
 unfold bytesV
 rw [List.getElem?_map, List.getElem?_eq_getElem hk, List.getD_eq_getElem?_getD, List.getElem?_eq_getElem hk]
 rfl
theorem getN_of {L : List Nat} {q : Nat} (h : q < L.length) : L.getD q 0 ∈ L := by
 rw [List.getD_eq_getElem?_getD, List.getElem?_eq_getElem h]
 exact List.getElem_mem h
theorem n64_ofNat (x : Nat) (h : x < 256) : n64 (BitVec.ofNat 64 x) = (x : Int) := by
 unfold n64
 rw [BitVec.toNat_ofNat, Nat.mod_eq_of_lt (by omega)]
theorem own_some {w : World} {base n : Nat} {t : TypeId} {v : Value} {L : List Value} (h : w.ownsRow base t 1 v n L) (hn : 0 < n) : ∃ g cap, v = .slice (some ⟨g, 0, none⟩) n cap ∧ n ≤ cap ∧ cap ≤ maxLen := by
 rcases h.2 with ⟨rfl, h0⟩ | ⟨g, cap, cur, rfl, _, _, h1, h2, _⟩
 ·omega
 ·exact ⟨g, cap, rfl, h1, h2⟩
def onesB : BitVec 64 := 18446744073709551615#64
theorem n64_onesB : n64 onesB = 18446744073709551615 := by decide
theorem isM_onesB : isM onesB = true := by decide
def rowNF (f a b : Nat) : LayN := ⟨a, b, f, f + 256 * a, f + 256 * a + a, f + 256 * a + a + b * a, f + 256 * a + a + b * a + a, f + 256 * a + a + b * a + a + a⟩
set_option maxHeartbeats 1000000 in
theorem large_is (A0 A1 A2 A3 : Option Addr) (n0 n1 n2 n3 k0 k1 k2 k3 : Nat) (wd : Int) (w : World) : Calls Tryz.prog 10 #[.agg #[.slice A0 n0 k0, .int .i64 wd, .slice A1 n1 k1, .slice A2 n2 k2, .slice A3 n3 k3]] w fun e w' => (∃ q, e = .returned (.bool q) ∧ (q = false → n0 ≤ 20 ∧ n1 ≤ 1100 ∧ n2 ≤ 10 ∧ n3 ≤ 100)) ∧ Off Nob w w' := by
 have X0 : Hid (Off Nob w (w.alloc (.cells #[.slice A0 n0 k0, .int .i64 wd, .slice A1 n1 k1, .slice A2 n2 k2, .slice A3 n3 k3] 25)) ∧ Blk (w.alloc (.cells #[.slice A0 n0 k0, .int .i64 wd, .slice A1 n1 k1, .slice A2 n2 k2, .slice A3 n3 k3] 25)) w.heap.size 25 #[.slice A0 n0 k0, .int .i64 wd, .slice A1 n1 k1, .slice A2 n2 k2, .slice A3 n3 k3]) := hID ⟨(Off.refl _ _).alloc _, Blk.new _ _ _⟩
 have s0 := X0.out.2.cell 0
 have s2 := X0.out.2.cell 2
 have s3 := X0.out.2.cell 3
 have s4 := X0.out.2.cell 4
 by_cases h0 : (20 : Int) < (n0 : Int)
 ·have d0 := decide_eq_true h0
  clear h0
  go_enter Tryz.func10, Tryz.ntmps10
  go_wp2_with fail
  go_ret
  exact ⟨⟨_, rfl, fun h => by cases h⟩, X0.out.1⟩
 ·have d0 := decide_eq_false h0
  have g0 : Hid (n0 ≤ 20) := hID (by omega)
  clear h0
  by_cases h1 : (1100 : Int) < (n1 : Int)
  ·have d1 := decide_eq_true h1
   clear h1
   go_enter Tryz.func10, Tryz.ntmps10
   go_wp2_with fail
   go_ret
   exact ⟨⟨_, rfl, fun h => by cases h⟩, X0.out.1⟩
  ·have d1 := decide_eq_false h1
   have g1 : Hid (n1 ≤ 1100) := hID (by omega)
   clear h1
   by_cases h2 : (10 : Int) < (n2 : Int)
   ·have d2 := decide_eq_true h2
    clear h2
    go_enter Tryz.func10, Tryz.ntmps10
    go_wp2_with fail
    go_ret
    exact ⟨⟨_, rfl, fun h => by cases h⟩, X0.out.1⟩
   ·have d2 := decide_eq_false h2
    have g2 : Hid (n2 ≤ 10) := hID (by omega)
    clear h2
    by_cases h3 : (100 : Int) < (n3 : Int)
    ·have d3 := decide_eq_true h3
     clear h3
     go_enter Tryz.func10, Tryz.ntmps10
     go_wp2_with fail
     go_ret
     exact ⟨⟨_, rfl, fun h => by cases h⟩, X0.out.1⟩
    ·have d3 := decide_eq_false h3
     have g3 : Hid (n3 ≤ 100) := hID (by omega)
     clear h3
     go_enter Tryz.func10, Tryz.ntmps10
     go_wp2_with fail
     go_ret
     exact ⟨⟨_, rfl, fun _ => ⟨g0.out, g1.out, g2.out, g3.out⟩⟩, X0.out.1⟩
end Go.Proofs.YtkflicifngohcaaGreatDoor

namespace Go.Proofs.YtkflicifngohcaaGreatDoor
open Go.RowKit
structure Placed (l : LayN) (T S F : List Nat) (C : List (BitVec 64)) : Prop where
 t : ∀ k b, k < l.a → b < 256 → C.getD (l.t + 256 * k + b) 0 = BitVec.ofNat 64 (T.getD (256 * k + b) 0)
 s : ∀ k, k < l.a → C.getD (l.s + k) 0 = BitVec.ofNat 64 (S.getD k 0)
 f : ∀ j, j < l.b * l.a → C.getD (l.f + j) 0 = BitVec.ofNat 64 (F.getD j 0)
theorem bvs_get (L : List Nat) (k : Nat) : (bvs L).getD k 0 = BitVec.ofNat 64 (L.getD k 0) := by
 unfold bvs
 rw [List.getD_eq_getElem?_getD, List.getElem?_map, List.getD_eq_getElem?_getD]
 cases L[k]? <;> rfl
structure LayN.Asc (l : LayN) : Prop where
 s : l.s = l.t + 256 * l.a
 f : l.f = l.s + l.a
 st : l.st = l.f + l.b * l.a
theorem Placed.setup {l : LayN} (ha : l.Asc) {T S F : List Nat} {C : List (BitVec 64)} (hi : l.In C.length) (hT : T.length = 256 * l.a) (hS : S.length = l.a) (hF : F.length = l.b * l.a) : Placed l T S F (suC l T S F C) := by
 have h1 := ha.s
 have h2 := ha.f
 have h3 := ha.st
 have h4 := hi.hst
 have e1 : ∀ i, (suC l T S F C).getD i 0 = if l.st ≤ i ∧ i < l.st + l.a then (List.replicate l.a (0 : BitVec 64)).getD (i - l.st) 0 else if l.f ≤ i ∧ i < l.f + l.b * l.a then (bvs F).getD (i - l.f) 0 else if l.s ≤ i ∧ i < l.s + l.a then (bvs S).getD (i - l.s) 0 else if l.t ≤ i ∧ i < l.t + 256 * l.a then (bvs T).getD (i - l.t) 0 else C.getD i 0 := by
  intro i
  unfold suC
  rw [setL_get _ _ _ _ (by simp only [setL_length, List.length_replicate]; omega), setL_get _ _ _ _ (by simp only [setL_length, bvs_len]; omega), setL_get _ _ _ _ (by simp only [setL_length, bvs_len]; omega), setL_get _ _ _ _ (by simp only [bvs_len]; omega)]
  simp only [List.length_replicate, bvs_len, hT, hS, hF]
 refine ⟨fun k b hk hb => ?_, fun k hk => ?_, fun j hj => ?_⟩
 ·have hm : 256 * k + b < 256 * l.a := by omega
  rw [e1, if_neg (by omega), if_neg (by omega), if_neg (by omega), if_pos (by omega), show l.t + 256 * k + b - l.t = 256 * k + b from by omega, bvs_get]
 ·rw [e1, if_neg (by omega), if_neg (by omega), if_pos (by omega), show l.s + k - l.s = k from by omega, bvs_get]
 ·rw [e1, if_neg (by omega), if_pos (by omega), show l.f + j - l.f = j from by omega, bvs_get]
theorem Placed.byte {l : LayN} (hs : l.Seq) {T S F : List Nat} {C : List (BitVec 64)} (h : Placed l T S F C) (x m : BitVec 64) : Placed l T S F (byC l x m C) := by
 have h1 := hs.t
 have h2 := hs.s
 have h3 := hs.f
 refine ⟨fun k b hk hb => ?_, fun k hk => ?_, fun j hj => ?_⟩
 ·rw [byC_low hs (by omega)]
  exact h.t k b hk hb
 ·rw [byC_low hs (by omega)]
  exact h.s k hk
 ·rw [byC_low hs (by omega)]
  exact h.f j hj
section
variable {l : LayN} {x m : BitVec 64} {C D : List (BitVec 64)}
theorem b1C_at (hs : l.Seq) (hn : l.n + l.a ≤ C.length) (hx : x.toNat < 256) : ∀ K k : Nat, K ≤ l.a → k < K → (b1C l x C K).getD (l.n + k) 0 = C.getD (l.t + 256 * k + x.toNat) 0
 | K + 1, k, hK, hk => by
  show ((b1C l x C K).set (l.n + K) _).getD (l.n + k) 0 = _
  rw [getD_set64, b1C_len]
  by_cases e : K = k
  ·subst e
   rw [if_pos ⟨rfl, by omega⟩, gvF_eq _ _ _ (by decide), if_pos hx]
   have h1 := hs.t
   have h2 := hs.n
   exact b1C_low hs (by omega) K
  ·rw [if_neg (by omega)]
   exact b1C_at hs hn hx K k (by omega) (by omega)
theorem b2S_keep {i : Nat} : ∀ K : Nat, (i < l.st ∨ l.st + K ≤ i) → (b2S l m D K).1.getD i 0 = D.getD i 0
 | 0, _ => rfl
 | K + 1, h => by
  show ((b2S l m D K).1.set (l.st + K) _).getD i 0 = _
  rw [getD_set64, if_neg (by omega), b2S_keep K (by omega)]
theorem b2S_carry : ∀ K : Nat, (b2S l m D K).2 = if K = 0 then 0#64 else D.getD (l.st + (K - 1)) 0 >>> 63
 | 0 => rfl
 | K + 1 => by
  show (b2S l m D K).1.getD (l.st + K) 0 >>> 63 = _
  rw [b2S_keep K (by omega), if_neg (by omega), Nat.add_sub_cancel]
theorem b2S_at (hs : l.Seq) (hst : l.st + l.a ≤ D.length) : ∀ K k : Nat, K ≤ l.a → k < K → (b2S l m D K).1.getD (l.st + k) 0 = selM m ((((D.getD (l.st + k) 0 <<< 1) ||| (if k = 0 then 0#64 else D.getD (l.st + (k - 1)) 0 >>> 63)) ||| D.getD (l.s + k) 0) &&& D.getD (l.n + k) 0) (D.getD (l.st + k) 0)
 | K + 1, k, hK, hk => by
  show ((b2S l m D K).1.set (l.st + K) _).getD (l.st + k) 0 = _
  rw [getD_set64, b2S_len]
  by_cases e : K = k
  ·subst e
   have h1 := hs.n
   have h2 := hs.s
   rw [if_pos ⟨rfl, by omega⟩, b2S_keep K (by omega), b2S_keep K (by omega), b2S_keep K (by omega), b2S_carry]
  ·rw [if_neg (by omega)]
   exact b2S_at hs hst K k (by omega) (by omega)
theorem b3I_low {r : Nat} (hs : l.Seq) (hr : r < l.b) (q : Nat) : b3I l (b3C l m D q) r l.a = b3I l D r l.a := by
 have h1 := hs.n
 have h2 := hs.h
 have h3 := hs.f
 have h4 : (r + 1) * l.a ≤ l.b * l.a := Nat.mul_le_mul_right _ hr
 rw [Nat.add_mul] at h4
 have key : ∀ k, k ≤ l.a → b3I l (b3C l m D q) r k = b3I l D r k := by
  intro k
  induction k with
  | zero => intro _; rfl
  | succ k ih =>
   intro hk
   show b3I l (b3C l m D q) r k ||| _ = b3I l D r k ||| _
   rw [ih (by omega), b3C_low (by omega), b3C_low (by omega)]
 exact key l.a (Nat.le_refl _)
theorem b3C_at (hs : l.Seq) (hh : l.h + l.b ≤ D.length) : ∀ K r : Nat, K ≤ l.b → r < K → (b3C l m D K).getD (l.h + r) 0 = m &&& ~~~ (zeM (b3I l D r l.a))
 | K + 1, r, hK, hr => by
  show ((b3C l m D K).set (l.h + K) _).getD (l.h + r) 0 = _
  rw [getD_set64, b3C_len]
  by_cases e : K = r
  ·subst e
   rw [if_pos ⟨rfl, by omega⟩, b3I_low hs (by omega)]
  ·rw [if_neg (by omega)]
   exact b3C_at hs hh K r (by omega) (by omega)
theorem b3I_bit (r j : Nat) : ∀ K : Nat, (b3I l D r K).toNat.testBit j = decide (∃ k, k < K ∧ ((D.getD (l.f + r * l.a + k) 0).toNat.testBit j = true ∧ (D.getD (l.st + k) 0).toNat.testBit j = true))
 | 0 => by
  rw [decide_eq_false (by rintro ⟨k, hk, _⟩; omega)]
  exact Nat.zero_testBit j
 | K + 1 => by
  show (b3I l D r K ||| (D.getD (l.f + r * l.a + K) 0 &&& D.getD (l.st + K) 0)).toNat.testBit j = _
  rw [BitVec.toNat_or, BitVec.toNat_and, Nat.testBit_or, Nat.testBit_and, b3I_bit r j K, Bool.eq_iff_iff, Bool.or_eq_true, Bool.and_eq_true, decide_eq_true_eq, decide_eq_true_eq]
  constructor
  ·rintro (⟨k, hk, h⟩ | h)
   ·exact ⟨k, by omega, h⟩
   ·exact ⟨K, by omega, h⟩
  ·rintro ⟨k, hk, h⟩
   by_cases e : k = K
   ·subst e
    exact .inr h
   ·exact .inl ⟨k, by omega, h⟩
end
def stN (l : LayN) (C : List (BitVec 64)) : List Nat := (stL l C l.a).map BitVec.toNat
theorem stN_len (l : LayN) (C : List (BitVec 64)) : (stN l C).length = l.a := by simp [stN, stL]
theorem stN_lt (l : LayN) (C : List (BitVec 64)) : ∀ x ∈ stN l C, x < 18446744073709551616 := by
 intro x hx
 unfold stN at hx
 obtain ⟨v, _, rfl⟩ := List.mem_map.1 hx
 exact v.isLt
theorem stN_get (l : LayN) (C : List (BitVec 64)) {k : Nat} (hk : k < l.a) : (stN l C).getD k 0 = (C.getD (l.st + k) 0).toNat := by
 unfold stN stL
 rw [List.getD_eq_getElem?_getD, List.getElem?_map, List.getElem?_map, List.getElem?_range hk]
 rfl
theorem stN_bit (l : LayN) (C : List (BitVec 64)) {i : Nat} (hi : i < 64 * l.a) : bitAt (stN l C) i = (C.getD (l.st + i / 64) 0).toNat.testBit (i % 64) := by
 unfold bitAt
 rw [stN_get l C (by omega)]
theorem stN_ext {l : LayN} {C D : List (BitVec 64)} (h : ∀ k, k < l.a → C.getD (l.st + k) 0 = D.getD (l.st + k) 0) : stN l C = stN l D := by
 unfold stN stL
 rw [List.map_map, List.map_map]
 apply List.map_congr_left
 intro k hk
 simp only [Function.comp]
 rw [h k (List.mem_range.1 hk)]
theorem nat_word {L : List Nat} (h : ∀ x ∈ L, x < 18446744073709551616) (k : Nat) : (BitVec.ofNat 64 (L.getD k 0)).toNat = L.getD k 0 := by
 rw [BitVec.toNat_ofNat]
 apply Nat.mod_eq_of_lt
 rw [List.getD_eq_getElem?_getD]
 cases hg : L[k]? with
 | none => exact Nat.pow_pos (by decide)
 | some y => exact h y (List.mem_of_getElem? hg)
theorem finL_bit {F : List Nat} {W r i : Nat} (hi : i < 64 * W) : bitAt (finL F W r) i = (F.getD (r * W + i / 64) 0).testBit (i % 64) := by
 unfold bitAt finL
 rw [List.getD_eq_getElem?_getD, List.getElem?_take, if_pos (by omega), List.getElem?_drop, List.getD_eq_getElem?_getD]
theorem sel_onesB (a b : BitVec 64) : selM onesB a b = a := sel_msk true a b
theorem sel_zeroB (a b : BitVec 64) : selM 0#64 a b = b := sel_msk false a b
theorem hitR_iff {F : List Nat} {W : Nat} {X : List Nat} {r : Nat} : hitR F W X r = true ↔ ∃ i, i < 64 * W ∧ bitAt X i = true ∧ bitAt (finL F W r) i = true := by
 unfold hitR
 rw [decide_eq_true_eq]
 constructor
 ·intro h
  obtain ⟨p, hp⟩ := List.exists_mem_of_length_pos h
  obtain ⟨h1, h2⟩ := mem_onesN.1 hp
  unfold andX at h1 h2
  rw [rowOf_len] at h1
  rw [rowOf_bit, Bool.and_eq_true, Bool.and_eq_true] at h2
  exact ⟨p, h1, h2.2.1, h2.2.2⟩
 ·rintro ⟨i, hi, h1, h2⟩
  apply List.length_pos_of_mem (a := i)
  refine mem_onesN.2 ⟨by unfold andX; rw [rowOf_len]; exact hi, ?_⟩
  unfold andX
  rw [rowOf_bit, h1, h2, decide_eq_true hi]
  rfl
theorem carry_bit (v : BitVec 64) (j : Nat) : (v >>> 63).toNat.testBit j = (decide (j = 0) && v.toNat.testBit 63) := by
 rw [BitVec.toNat_ushiftRight, Nat.testBit_shiftRight]
 by_cases h : j = 0
 ·subst h
  simp
 ·have h1 : v.toNat.testBit (63 + j) = false := Nat.testBit_lt_two_pow (Nat.lt_of_lt_of_le v.isLt (Nat.pow_le_pow_right (by decide) (by omega)))
  rw [h1, decide_eq_false h]
  rfl
theorem shl_bit (v : BitVec 64) {j : Nat} (hj : j < 64) : (v <<< 1).toNat.testBit j = (decide (1 ≤ j) && v.toNat.testBit (j - 1)) := by
 rw [BitVec.toNat_shiftLeft, Nat.testBit_mod_two_pow, decide_eq_true hj, Bool.true_and, Nat.testBit_shiftLeft]
theorem byC_state {l : LayN} (hs : l.Seq) {T S F : List Nat} {C : List (BitVec 64)} (hi : l.In C.length) (hp : Placed l T S F C) (hT : ∀ z ∈ T, z < 18446744073709551616) (hS : ∀ z ∈ S, z < 18446744073709551616) {x : Nat} (hx : x < 256) : stN l (byC l (BitVec.ofNat 64 x) onesB C) = stepX T S l.a (stN l C) x := by
 have hxx : (BitVec.ofNat 64 x).toNat = x := by rw [BitVec.toNat_ofNat, Nat.mod_eq_of_lt (by omega)]
 have hn := hs.n
 have hh := hs.h
 have hss := hs.s
 have hst := hi.hst
 have hin := hi.hn
 apply row_ext (by rw [stN_len]; unfold stepX andX; rw [rowOf_len]) (stN_lt _ _) (by unfold stepX andX; exact rowOf_lt _ _)
 rw [stN_len]
 intro i hi64
 have hk : i / 64 < l.a := by omega
 rw [stN_bit _ _ hi64]
 unfold byC
 rw [b3C_low (by omega), b2S_at hs (by rw [b1C_len]; exact hst) l.a _ (Nat.le_refl _) hk, sel_onesB, b1C_at hs hin (by omega) l.a _ (Nat.le_refl _) hk, b1C_low hs (by omega), b1C_low hs (by omega), b1C_low hs (by omega), hxx, hp.t _ _ hk hx, hp.s _ hk]
 rw [BitVec.toNat_and, Nat.testBit_and, nat_word hT]
 unfold stepX andX
 rw [rowOf_bit, decide_eq_true hi64, Bool.true_and, tabRow_bit hi64]
 congr 1
 unfold orX
 rw [rowOf_bit, decide_eq_true hi64, Bool.true_and, BitVec.toNat_or, BitVec.toNat_or, Nat.testBit_or, Nat.testBit_or, nat_word hS]
 show _ = (_ || (S.getD (i / 64) 0).testBit (i % 64))
 congr 1
 unfold shX
 rw [rowOf_bit, decide_eq_true hi64, Bool.true_and, shl_bit _ (Nat.mod_lt _ (by decide))]
 by_cases hj : 1 ≤ i % 64
 ·rw [decide_eq_true hj, decide_eq_true (by omega : 1 ≤ i), Bool.true_and, Bool.true_and, stN_bit _ _ (by omega), show (i - 1) / 64 = i / 64 from by omega, show (i - 1) % 64 = i % 64 - 1 from by omega]
  have : (if i / 64 = 0 then 0#64 else C.getD (l.st + (i / 64 - 1)) 0 >>> 63).toNat.testBit (i % 64) = false := by
   split
   ·exact Nat.zero_testBit _
   ·rw [carry_bit, decide_eq_false (by omega)]
    rfl
  rw [this, Bool.or_false]
 ·rw [decide_eq_false hj, Bool.false_and, Bool.false_or]
  by_cases h0 : i / 64 = 0
  ·rw [if_pos h0, decide_eq_false (by omega : ¬ 1 ≤ i), Bool.false_and]
   exact Nat.zero_testBit _
  ·rw [if_neg h0, carry_bit, decide_eq_true (by omega : i % 64 = 0), decide_eq_true (by omega : 1 ≤ i), Bool.true_and, Bool.true_and, stN_bit _ _ (by omega), show (i - 1) / 64 = i / 64 - 1 from by omega, show (i - 1) % 64 = 63 from by omega]
theorem byC_hits {l : LayN} (hs : l.Seq) {T S F : List Nat} {C : List (BitVec 64)} (hi : l.In C.length) (hp : Placed l T S F C) (hF : ∀ z ∈ F, z < 18446744073709551616) (x m : BitVec 64) {r : Nat} (hr : r < l.b) : (byC l x m C).getD (l.h + r) 0 = m &&& msk (hitR F l.a (stN l (byC l x m C)) r) := by
 have hn := hs.n
 have hh := hs.h
 have hf := hs.f
 have h4 : (r + 1) * l.a ≤ l.b * l.a := Nat.mul_le_mul_right _ hr
 rw [Nat.add_mul] at h4
 obtain ⟨D, hD⟩ : ∃ D, (b2S l m (b1C l x C l.a) l.a).1 = D := ⟨_, rfl⟩
 have hDl : D.length = C.length := by rw [← hD, b2S_len, b1C_len]
 have hlow : ∀ i, i < l.st → D.getD i 0 = C.getD i 0 := fun i h => by rw [← hD, b2S_low h, b1C_low hs (by omega)]
 have hX : stN l (byC l x m C) = stN l D := by
  apply stN_ext
  intro k hk
  unfold byC
  rw [b3C_low (by omega), hD]
 rw [hX]
 unfold byC
 rw [hD, b3C_at hs (by rw [hDl]; exact hi.hh) l.b r (Nat.le_refl _) hr]
 have hz : ~~~ (zeM (b3I l D r l.a)) = msk (hitR F l.a (stN l D) r) := by
  have e : (decide ((b3I l D r l.a).toNat = 0)) = !hitR F l.a (stN l D) r := by
   rw [Bool.eq_iff_iff, decide_eq_true_eq, Bool.not_eq_true', ← Bool.not_eq_true, hitR_iff]
   constructor
   ·rintro h0 ⟨i, hi64, h1, h2⟩
    have := b3I_bit (l := l) (D := D) r (i % 64) l.a
    rw [h0, Nat.zero_testBit] at this
    have h3 := of_decide_eq_false this.symm
    refine h3 ⟨i / 64, by omega, ?_, ?_⟩
    ·rw [finL_bit hi64] at h2
     have hia : i / 64 < l.a := by omega
     rw [hlow _ (by omega), Nat.add_assoc, hp.f _ (by omega), nat_word hF]
     exact h2
    ·rw [stN_bit _ _ hi64] at h1
     exact h1
   ·intro hno
    apply Nat.eq_of_testBit_eq
    intro j
    rw [b3I_bit, Nat.zero_testBit]
    apply decide_eq_false
    rintro ⟨k, hk, h1, h2⟩
    have hj : j < 64 := by
     rcases Nat.lt_or_ge j 64 with h | h
     ·exact h
     ·rw [Nat.testBit_lt_two_pow (Nat.lt_of_lt_of_le (D.getD (l.st + k) 0).isLt (Nat.pow_le_pow_right (by decide) h))] at h2
      cases h2
    have hi64 : 64 * k + j < 64 * l.a := by omega
    refine hno ⟨64 * k + j, hi64, ?_, ?_⟩
    ·rw [stN_bit _ _ hi64, show (64 * k + j) / 64 = k from by omega, show (64 * k + j) % 64 = j from by omega]
     exact h2
    ·rw [finL_bit hi64, show (64 * k + j) / 64 = k from by omega, show (64 * k + j) % 64 = j from by omega]
     rw [hlow _ (by omega), Nat.add_assoc, hp.f _ (by omega), nat_word hF] at h1
     exact h1
  unfold zeM
  rw [e]
  cases hitR F l.a (stN l D) r <;> decide
 rw [hz]
theorem byC_still {l : LayN} (hs : l.Seq) {C : List (BitVec 64)} (hi : l.In C.length) (x : BitVec 64) : stN l (byC l x 0#64 C) = stN l C := by
 have hn := hs.n
 have hh := hs.h
 apply stN_ext
 intro k hk
 unfold byC
 rw [b3C_low (by omega), b2S_at hs (by rw [b1C_len]; exact hi.hst) l.a k (Nat.le_refl _) hk, sel_zeroB, b1C_low hs (by omega)]
theorem and_onesB (a : BitVec 64) : onesB &&& a = a := BitVec.allOnes_and
theorem stN_setup {l : LayN} {T S F : List Nat} {C : List (BitVec 64)} (h : l.st + l.a ≤ C.length) : stN l (suC l T S F C) = List.replicate l.a 0 := by
 unfold stN stL
 rw [List.map_map]
 apply List.ext_getElem (by simp)
 intro i h1 h2
 simp only [List.length_map, List.length_range] at h1
 simp only [List.getElem_map, List.getElem_range, List.getElem_replicate, Function.comp]
 unfold suC
 rw [setL_get _ _ _ _ (by simp only [setL_length, List.length_replicate]; exact h), List.length_replicate, if_pos ⟨by omega, by omega⟩, List.getD_eq_getElem?_getD, List.getElem?_replicate]
 split <;> rfl
theorem low_step {T S : List Nat} {W top : Nat} (h : ∀ b, b < 256 → ∀ i, i < 64 * W → top ≤ i → bitAt (tabRow T W b) i = false) (X : List Nat) {b : Nat} (hb : b < 256) : LowB (stepX T S W X b) top := by
 intro i hi
 unfold stepX andX
 rw [rowOf_bit]
 by_cases h1 : i < 64 * W
 ·rw [h b hb i h1 hi, Bool.and_false, Bool.and_false]
 ·rw [decide_eq_false h1, Bool.false_and]
theorem low_zero (W top : Nat) : LowB (List.replicate W 0) top := by
 intro i hi
 unfold bitAt
 rw [List.getD_eq_getElem?_getD, List.getElem?_replicate]
 split <;> simp
theorem stepX_len (T S : List Nat) (W : Nat) (X : List Nat) (b : Nat) : (stepX T S W X b).length = W := by unfold stepX andX; exact rowOf_len _ _
theorem stepX_lt (T S : List Nat) (W : Nat) (X : List Nat) (b : Nat) : ∀ x ∈ stepX T S W X b, x < 18446744073709551616 := by unfold stepX andX; exact rowOf_lt _ _
theorem stN_part {l : LayN} {D : List (BitVec 64)} {Z : Nat} (h : l.st + l.a ≤ Z) (hd : D.length = Z) : ((D.map BitVec.toNat).drop l.st).take l.a = stN l D := by
 unfold stN stL
 apply List.ext_getElem
 ·simp
  omega
 ·intro i h1 h2
  simp only [List.length_map, List.length_range] at h2
  simp only [List.getElem_take, List.getElem_drop, List.getElem_map, List.getElem_range]
  rw [List.getD_eq_getElem?_getD, List.getElem?_eq_getElem (by omega)]
  rfl
theorem map_get (D : List (BitVec 64)) (i : Nat) : (D.map BitVec.toNat).getD i 0 = (D.getD i 0).toNat := by
 rw [List.getD_eq_getElem?_getD, List.getElem?_map, List.getD_eq_getElem?_getD]
 cases D[i]? <;> rfl
end Go.Proofs.YtkflicifngohcaaGreatDoor

namespace Go.Proofs.YtkflicifngohcaaGreatDoor
open Go.RowKit
set_option maxRecDepth 100000
def OneX (w0 w : World) (b : Nat) (t : TypeId) (cs : Array Value) (p : Nat) (C : List (BitVec 64)) (E : List Ev) (R : List (Value × List Value)) : Prop :=
 ∃ F, Ar w F p C E ∧ Off Nob w0 w ∧ (∀ k, F k → w0.heap.size ≤ k) ∧ Blk w b t cs ∧ ¬ F b ∧ w0.heap.size ≤ b ∧ ∀ y ∈ R, Rd w (fun k => ¬ F k ∧ k ≠ b) 1 y.1 y.2.length y.2
section
variable {w0 w w' : World} {b : Nat} {t : TypeId} {cs : Array Value} {p : Nat} {C : List (BitVec 64)} {E : List Ev} {R : List (Value × List Value)}
theorem OneX.old (h : OneX w0 w b t cs p C E R) : Off Nob w0 w := by obtain ⟨F, ha, ho, _⟩ := h; exact ho
theorem OneX.blk (h : OneX w0 w b t cs p C E R) : Blk w b t cs := by obtain ⟨F, ha, ho, hf, hb, _⟩ := h; exact hb
theorem OneX.row (h : OneX w0 w b t cs p C E R) {V : Value} {X : List Value} (hm : (V, X) ∈ R) : Rd w (fun _ => True) 1 V X.length X := by obtain ⟨F, ha, ho, hf, hb, _, _, hr⟩ := h; exact (hr _ hm).any
theorem OneX.ar (h : OneX w0 w b t cs p C E R) : ∃ F, Ar w F p C E := by obtain ⟨F, ha, _⟩ := h; exact ⟨F, ha⟩
theorem OneX.off (h : OneX w0 w b t cs p C E R) (o : Off Nob w w') : OneX w0 w' b t cs p C E R := by
 obtain ⟨F, ha, ho, hf, hb, hn, hg, hr⟩ := h
 exact ⟨F, ha.keep o (fun _ _ hn => hn), ho.also o, hf, hb.to (o.block _ hb.lt id), hn, hg, fun y hy => (hr y hy).keep o (fun _ _ hn => hn)⟩
theorem Rd.grown {F : Nat → Prop} {size n : Nat} {v : Value} {xs : List Value} (h : Rd w (fun k => ¬ F k ∧ k ≠ b) size v n xs) (o : Off F w w') : Rd w' (fun k => ¬ Grow F w w' k ∧ k ≠ b) size v n xs := by
 obtain ⟨A, c, rfl, hm, hl, hc⟩ := h
 refine ⟨A, c, rfl, hm, hl, fun hn => ?_⟩
 obtain ⟨g, of, rfl, ⟨hf, hne⟩, hb, hx⟩ := hc hn
 exact ⟨g, of, rfl, ⟨fun k => k.elim hf (fun k => by omega), hne⟩, Nat.lt_of_lt_of_le hb o.size, fun j u hu => (World.cell?_of_block (o.block g hb hf)).trans (hx j u hu)⟩
theorem OneX.callQ (h : OneX w0 w b t cs p C E R) {P : Program} {f : FuncId} {xs : Array Value} {Q : Ending → World → Prop} {C2 : List (BitVec 64)} {E2 : List Ev}
  (hc : ∀ F, Ar w F p C E → (∀ k, F k → w0.heap.size ≤ k) → Calls P f xs w fun e w' => Q e w' ∧ ArTo w F p C2 E2 w') : Calls P f xs w fun e w' => Q e w' ∧ OneX w0 w' b t cs p C2 E2 R := by
 obtain ⟨F, ha, ho, hf, hb, hn, hg, hr⟩ := h
 refine (hc F ha hf).mono fun e w' ⟨he, a3, o3⟩ => ⟨he, ?_⟩
 exact ⟨_, a3, ho.own o3 hf, Grow.from_ hf ho.size, hb.to (o3.block _ hb.lt hn), fun h => h.elim hn (fun h => by have := hb.lt; omega), hg, fun y hy => (hr y hy).grown o3⟩
theorem OneX.push (h : OneX w0 w b t cs p C E R) {V : Value} {X : List Value} (o : Off Nob w w') (hr : Rd w' (fun k => w.heap.size ≤ k) 1 V X.length X) : OneX w0 w' b t cs p C E ((V, X) :: R) := by
 have hB := h.blk.lt
 obtain ⟨F, ha, ho, hf, hb, hn, hg, hrs⟩ := h
 refine ⟨F, ha.keep o (fun _ _ hn => hn), ho.also o, hf, hb.to (o.block _ hb.lt id), hn, hg, fun y hy => ?_⟩
 rcases List.mem_cons.1 hy with rfl | hy
 ·exact hr.mono (fun k hk => ⟨fun hF => by have := ha.lt k hF; omega, fun he => by omega⟩)
 ·exact (hrs y hy).keep o (fun _ _ hn => hn)
theorem OneX.sub (h : OneX w0 w b t cs p C E R) {R' : List (Value × List Value)} (hs : ∀ y ∈ R', y ∈ R) : OneX w0 w b t cs p C E R' := by
 obtain ⟨F, ha, ho, hf, hb, hn, hg, hr⟩ := h
 exact ⟨F, ha, ho, hf, hb, hn, hg, fun y hy => hr y (hs y hy)⟩
theorem OneX.turn {V' n' a c : Value} (h : OneX w0 w b t #[a, c] p C E R) : OneX w0 ((w.setCell ⟨b, 0, none⟩ V').setCell ⟨b, 1, none⟩ n') b t #[V', n'] p C E R := by
 obtain ⟨F, ha, ho, hf, hb, hn, hg, hr⟩ := h
 have off : Off (fun k => k = b) w ((w.setCell ⟨b, 0, none⟩ V').setCell ⟨b, 1, none⟩ n') := Off.put (F := fun k => k = b) (p := ⟨b, 1, none⟩) (Off.put (F := fun k => k = b) (p := ⟨b, 0, none⟩) (Off.refl _ _) (.inl (Eq.refl b)) _) (.inl (Eq.refl b)) _
 exact ⟨F, ha.keep off (fun k hk he => hn (by have e : k = b := he; rw [e] at hk; exact hk)), ho.own off (fun k hk => by rw [hk]; exact hg), hf, (hb.put 0 V').put 1 n', hn, hg, fun y hy => (hr y hy).keep off (fun k hk he => hk.2 he)⟩
theorem OneX.new {F : Nat → Prop} (ha : Ar w F p C E) (ho : Off Nob w0 w) (hf : ∀ k, F k → w0.heap.size ≤ k) (o : Off Nob w w') (hb : Blk w' b t cs) (hg : w.heap.size ≤ b) : OneX w0 w' b t cs p C E [] :=
 ⟨F, ha.keep o (fun _ _ hn => hn), ho.also o, hf, hb, fun hF => by have := ha.lt _ hF; omega, Nat.le_trans ho.size hg, fun y hy => by cases hy⟩
end
def rowZF (f a b : Nat) : Nat := f + rowZ a b
theorem rowNF_in (f a b : Nat) (a1 : 1 ≤ a) (a4 : a ≤ 4) (b1 : 1 ≤ b) (b16 : b ≤ 16) : (rowNF f a b).In (rowZF f a b) := by
 unfold rowZF rowZ
 refine ⟨a1, a4, b1, b16, ?_, ?_, ?_, ?_, ?_, ?_⟩
 ·show f + 256 * a ≤ _
  omega
 ·show f + 256 * a + a ≤ _
  omega
 ·show f + 256 * a + a + b * a ≤ _
  omega
 ·show f + 256 * a + a + b * a + a ≤ _
  omega
 ·show f + 256 * a + a + b * a + a + a ≤ _
  omega
 ·show f + 256 * a + a + b * a + a + a + b ≤ _
  omega
theorem rowN3_ok (a b : Nat) (a1 : 1 ≤ a) (a4 : a ≤ 4) (b1 : 1 ≤ b) (b16 : b ≤ 16) : (rowNF 3 a b).lay.Ok (rowZF 3 a b) := by
 have h : ∀ x : Fin 4, ∀ y : Fin 16, (List.range 6).all (fun k => decide (0 ≤ (pAt (rowNF 3 (x.val + 1) (y.val + 1)).lay.parts k).1 ∧ 0 ≤ (pAt (rowNF 3 (x.val + 1) (y.val + 1)).lay.parts k).2 ∧ (pAt (rowNF 3 (x.val + 1) (y.val + 1)).lay.parts k).1 + (pAt (rowNF 3 (x.val + 1) (y.val + 1)).lay.parts k).2 ≤ rowZF 3 (x.val + 1) (y.val + 1))) = true ∧ apAll (rowNF 3 (x.val + 1) (y.val + 1)).lay.parts = true := by decide +kernel
 obtain ⟨h1, h2⟩ := h ⟨a - 1, by omega⟩ ⟨b - 1, by omega⟩
 have ea : a - 1 + 1 = a := by omega
 have eb : b - 1 + 1 = b := by omega
 simp only [ea, eb] at h1 h2
 refine ⟨by show (1 : Int) ≤ (a : Int); omega, by show (a : Int) ≤ 4; omega, by show (1 : Int) ≤ (b : Int); omega, by show (b : Int) ≤ 16; omega, fun k hk => ?_, h2⟩
 have := List.all_eq_true.1 h1 k (List.mem_range.2 hk)
 exact of_decide_eq_true this
theorem rowNF_seq (f a b : Nat) : (rowNF f a b).Seq := by
 refine ⟨rfl, rfl, ?_, ?_, ?_⟩
 ·show f + 256 * a ≤ f + 256 * a + a + b * a
  omega
 ·show f + 256 * a + a ≤ f + 256 * a + a + b * a
  omega
 ·show f + 256 * a + a + b * a ≤ f + 256 * a + a + b * a
  omega
theorem rowNF_asc (f a b : Nat) : (rowNF f a b).Asc := ⟨rfl, rfl, rfl⟩
theorem row_ok3 (a b : Nat) (a1 : 1 ≤ a) (a4 : a ≤ 4) (b1 : 1 ≤ b) (b16 : b ≤ 16) (w : World) : Calls Tryz.prog 13 #[.int .i64 a, .int .i64 b, .int .i64 3] w fun e w' => e = .returned (.tuple #[.agg #[.int .i64 (rowNF 3 a b).a, .int .i64 (rowNF 3 a b).b, .int .i64 (rowNF 3 a b).t, .int .i64 (rowNF 3 a b).s, .int .i64 (rowNF 3 a b).f, .int .i64 (rowNF 3 a b).st, .int .i64 (rowNF 3 a b).n, .int .i64 (rowNF 3 a b).h], .int .i64 (rowZF 3 a b)]) ∧ Off Nob w w' := by
 refine (rrow a b 3 (by omega) (by omega) (by omega) (by omega) (by omega) (by omega) w).mono ?_
 rintro e w' ⟨rfl, o⟩
 refine ⟨?_, o⟩
 simp [layV, rowNF, rowZF, rowZ]
 omega
theorem hit_split (h : Nat → Bool) (n r : Nat) (hr : r < n) : (List.range n).filter h = (List.range r).filter h ++ (if h r then [r] else []) ++ ((List.range' (r + 1) (n - (r + 1))).filter h) := by
 have e : List.range n = List.range r ++ ([r] ++ List.range' (r + 1) (n - (r + 1))) := by
  rw [List.range_eq_range', List.range_eq_range']
  have h1 : n = r + (1 + (n - (r + 1))) := by omega
  rw [show List.range' 0 n = List.range' 0 (r + (1 + (n - (r + 1)))) by rw [← h1], ← List.range'_append_1, Nat.zero_add, ← List.range'_append_1]
  rfl
 rw [e, List.filter_append, List.filter_append, List.append_assoc]
 congr 1
 congr 1
 cases hh : h r <;> simp [hh]
theorem hit_at {F : List Nat} {W : Nat} {X : List Nat} {n r : Nat} (hr : r < n) (h : hitR F W X r = true) : (hitsTo F W X r).length < (hitsTo F W X n).length ∧ (hitsTo F W X n).getD (hitsTo F W X r).length 0 = r := by
 have e := hit_split (hitR F W X) n r hr
 rw [h, if_pos rfl] at e
 unfold hitsTo
 rw [e]
 refine ⟨by simp only [List.length_append, List.length_cons, List.length_nil]; omega, ?_⟩
 rw [List.append_assoc, List.getD_eq_getElem?_getD, List.getElem?_append_right (Nat.le_refl _), Nat.sub_self]
 rfl
theorem hit_not {F : List Nat} {W : Nat} {X : List Nat} {n r : Nat} (h : hitR F W X r = false) {k : Nat} (hk : k < (hitsTo F W X n).length) : (hitsTo F W X n).getD k 0 ≠ r := by
 intro e
 have hm := getN_ofL hk
 rw [e] at hm
 unfold hitsTo at hm
 have := (List.mem_filter.1 hm).2
 rw [h] at this
 cases this
theorem Rd.word {w : World} {F : Nat → Prop} {b o n c : Nat} {L : List Nat} (h : Rd w F 1 (.slice (some ⟨b, o, none⟩) n c) n (wordsV L)) {i : Nat} (hi : i < n) : w.cell? ⟨b, o + i, none⟩ = some (.int .u64 ((L.getD i 0 : Nat) : Int)) := by
 obtain ⟨A, c', he, hm, hl, hc⟩ := h
 cases he
 have hl2 : L.length = n := by rw [wordsV_len] at hl; omega
 obtain ⟨b2, o2, he, _, hb, hx⟩ := hc (by omega)
 cases he
 refine hx i _ ?_
 unfold wordsV
 rw [List.getElem?_map, List.getElem?_eq_getElem (by omega), List.getD_eq_getElem?_getD, List.getElem?_eq_getElem (by omega)]
 rfl
def HitJ (D : List (BitVec 64)) (h n : Nat) (H : List Nat) (hit : Nat → Bool) (cnt : Nat → Nat) : Prop :=
 cnt 0 = 0 ∧ (∀ r, r < n → D.getD (h + r) 0 = msk (hit r)) ∧ (∀ r, r < n → hit r = true → cnt r < H.length ∧ H.getD (cnt r) 0 = r ∧ cnt (r + 1) = cnt r + 1) ∧ (∀ r, r < n → hit r = false → cnt (r + 1) = cnt r ∧ ∀ q, q < H.length → H.getD q 0 ≠ r)
theorem HitJ.step {D : List (BitVec 64)} {h n W : Nat} {F X : List Nat} (hd : ∀ r, r < n → D.getD (h + r) 0 = msk (hitR F W X r)) : HitJ D h n (hitsTo F W X n) (hitR F W X) (fun r => (hitsTo F W X r).length) := by
 refine ⟨rfl, hd, fun r hr hh => ?_, fun r hr hh => ?_⟩
 ·obtain ⟨q1, q2⟩ := hit_at hr hh
  exact ⟨q1, q2, by show (hitsTo F W X (r + 1)).length = _; rw [hitsTo_yes hh, List.length_append]; rfl⟩
 ·exact ⟨by show (hitsTo F W X (r + 1)).length = _; rw [hitsTo_no hh], fun q hq => hit_not hh hq⟩
end Go.Proofs.YtkflicifngohcaaGreatDoor
