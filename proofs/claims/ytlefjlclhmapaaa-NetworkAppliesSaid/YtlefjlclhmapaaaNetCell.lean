/-
  (network.mover).cell and far: two cells, the second of which gets the first one's value, if a bit says so.
-/
import Derived.Test.YtlefjlclhmapaaaNetPure
import Derived.Test.YtlefjlclhmapaaaWk
import Derived.Test.YtlefjlclhmapaaaMasks
import Derived.Deep.RegionHeld3
namespace Go.Proofs.Ytlefjlclhmapaaa
open Go.RowKit
attribute [local go_sem] bits_and_u64 bits_or_u64 bits_xor_u64 bits_andNot_u64 wrap_u64 bv_add bv_neg bv_sub bv_mul
set_option linter.unusedVariables false
set_option maxRecDepth 100000
/-- A bit of a number. -/
def bitB (x : BitVec 64) (j : Nat) : Bool := decide (x.toNat / 2 ^ j % 2 = 1)
theorem of_bit (x : BitVec 64) (j : Nat) : ofM (x >>> j) = msk (bitB x j) := by
  unfold ofM bitB
  rw [BitVec.toNat_ushiftRight, Nat.shiftRight_eq_div_pow]
theorem n64_shr (x : BitVec 64) (j : Nat) : n64 x / 2 ^ j = n64 (x >>> j) := by
  unfold n64
  rw [BitVec.toNat_ushiftRight, Nat.shiftRight_eq_div_pow]
  push_cast
  rfl
theorem andn_msk (b : Bool) (x : BitVec 64) : x &&& ~~~ msk b = if b then 0#64 else x := by
  cases b
  · rw [msk_false, BitVec.not_zero, BitVec.and_allOnes]; rfl
  · rw [msk_true]; simp
/-- A pair of cells, behind a move. -/
def prS (b : Bool) (s : List (BitVec 64) × List Ev) (f t : Nat) : List (BitVec 64) × List Ev :=
  ((s.1.set t (if b then cl s.1 f else cl s.1 t)).set f (if b then 0#64 else cl s.1 f), s.2 ++ [(1, f), (1, t), (2, t), (2, f)])
theorem prS_len (b : Bool) (s : List (BitVec 64) × List Ev) (f t : Nat) : (prS b s f t).1.length = s.1.length ∧ (prS b s f t).2.length = s.2.length + 4 := by
  unfold prS; simp
section
variable {w : World} {F : Nat → Prop} {p : Nat} {C : List (BitVec 64)} {E : List Ev}
set_option maxHeartbeats 2000000 in
theorem ncell_ok (h : Ar w F p C E) (b : Bool) (f t : Nat) (hf : f < C.length) (ht : t < C.length) (hE : E.length + 4 ≤ 8388608) :
    Calls Try.prog 47 #[.agg #[.pointer (some ⟨p, 0, none⟩)], .int .u64 (n64 (msk b)), .int .i64 (f : Int), .int .i64 (t : Int)] w fun e w' => e = .returned (.tuple #[]) ∧ ArTo w F p (prS b (C, E) f t).1 (prS b (C, E) f t).2 w' := by
  have HW := Lib.hid ((Wk.start h).push 95 #[.pointer (some ⟨p, 0, none⟩)])
  have k0 : (w.alloc (.cells #[.pointer (some ⟨p, 0, none⟩)] 95)).cell? ⟨w.heap.size, 0, none⟩ = some (.pointer (some ⟨p, 0, none⟩)) := (HW.out.blk (List.mem_cons_self ..)).cell 0
  obtain ⟨x, hx⟩ : ∃ x, cl C f = x := ⟨_, rfl⟩
  obtain ⟨y, hy⟩ : ∃ y, cl C t = y := ⟨_, rfl⟩
  have HXY := Lib.hid (And.intro hx hy)
  obtain ⟨m, hm⟩ : ∃ m, msk b = m := ⟨_, rfl⟩
  have HM := Lib.hid hm
  rw [hm]
  have HR : Hid (prS b (C, E) f t = ((C.set t (selM m x y)).set f (x &&& ~~~ m), (((E ++ [(1, f)]) ++ [(1, t)]) ++ [(2, t)]) ++ [(2, f)])) := Lib.hid (by
    rw [← hm, sel_msk, andn_msk, ← hx, ← hy]
    unfold prS
    simp)
  rw [HR.out]
  clear h hx hy hm
  go_enter Try.func47, Try.ntmps47
  go_wp2_with fail
  refine (HW.out.call (fun w F ha => by have := load_ok ha (f : Int) (by omega) (by omega) (by omega); rw [Int.toNat_natCast, HXY.out.1] at this; exact this)).mono ?_
  rintro e w1 ⟨rfl, h1⟩
  have k1 : w1.cell? ⟨w.heap.size, 0, none⟩ = some (.pointer (some ⟨p, 0, none⟩)) := (h1.blk (List.mem_cons_self ..)).cell 0
  have H1 := Lib.hid h1
  clear h1 k0 HW
  go_wp2_with fail
  refine (H1.out.call (fun w F ha => by have := load_ok ha (t : Int) (by omega) (by omega) (by rw [List.length_append]; simp; omega); rw [Int.toNat_natCast, HXY.out.2] at this; exact this)).mono ?_
  rintro e w2 ⟨rfl, h2⟩
  have k2 : w2.cell? ⟨w.heap.size, 0, none⟩ = some (.pointer (some ⟨p, 0, none⟩)) := (h2.blk (List.mem_cons_self ..)).cell 0
  have H2 := Lib.hid h2
  clear h2 k1 H1
  go_wp2_with fail
  go_region_held3 (fun w' => w'.cell? ⟨w.heap.size, 0, none⟩ = some (.pointer (some ⟨p, 0, none⟩)))
    (first | with_reducible assumption | go_keep)
    (first
      | (go_at_call 67; refine (select_any m x y _).mono ?_; rintro e w' ⟨rfl, rfl⟩)
      | (go_at_call 23; refine (Wk.call (H2.out.off (by first | with_reducible exact Off.refl _ _ | with_reducible exact Off.drew (Off.refl _ _) | with_reducible exact Off.drewN (Off.refl _ _) _)) (fun w F ha => by have := store_ok ha (t : Int) (selM m x y) (by omega) (by omega) (by simp; omega); rw [Int.toNat_natCast] at this; exact this)).mono ?_; rintro e w3 ⟨rfl, h3⟩; have k3 : w3.cell? ⟨w.heap.size, 0, none⟩ = some (.pointer (some ⟨p, 0, none⟩)) := (h3.blk (List.mem_cons_self ..)).cell 0; have H3 := Lib.hid h3; clear h3))
  go_wp2_with fail
  refine (H3.out.call (fun w F ha => by have := store_ok ha (f : Int) (x &&& ~~~ m) (by omega) (by simp; omega) (by simp; omega); rw [Int.toNat_natCast] at this; exact this)).mono ?_
  rintro e w4 ⟨rfl, h4⟩
  have H4 := Lib.hid h4
  clear h4 k3 H3
  go_wp2_with fail
  go_end0
  exact ⟨rfl, H4.out.done⟩
set_option maxHeartbeats 2000000 in
theorem nfar_ok (h : Ar w F p C E) (j f t : Nat) (hj : j ≤ 9) (hf : f < C.length) (ht : t < C.length) (hE : E.length + 4 ≤ 8388608) :
    Calls Try.prog 48 #[.agg #[.pointer (some ⟨p, 0, none⟩)], .int .i64 (j : Int), .int .i64 (f : Int), .int .i64 (t : Int)] w fun e w' => e = .returned (.int .u64 (n64 (msk (bitB (cl C f) j)))) ∧ ArTo w F p (prS (bitB (cl C f) j) (C, E) f t).1 (prS (bitB (cl C f) j) (C, E) f t).2 w' := by
  have HW := Lib.hid ((Wk.start h).push 95 #[.pointer (some ⟨p, 0, none⟩)])
  have k0 : (w.alloc (.cells #[.pointer (some ⟨p, 0, none⟩)] 95)).cell? ⟨w.heap.size, 0, none⟩ = some (.pointer (some ⟨p, 0, none⟩)) := (HW.out.blk (List.mem_cons_self ..)).cell 0
  obtain ⟨x, hx⟩ : ∃ x, cl C f = x := ⟨_, rfl⟩
  obtain ⟨y, hy⟩ : ∃ y, cl C t = y := ⟨_, rfl⟩
  have HXY := Lib.hid (And.intro hx hy)
  rw [hx]
  obtain ⟨b, hb⟩ : ∃ b, bitB x j = b := ⟨_, rfl⟩
  obtain ⟨m, hm⟩ : ∃ m, msk b = m := ⟨_, rfl⟩
  have HO : Hid (ofM (x >>> j) = m) := Lib.hid (by rw [of_bit, hb, hm])
  rw [hb, hm]
  have HR : Hid (prS b (C, E) f t = ((C.set t (selM m x y)).set f (x &&& ~~~ m), (((E ++ [(1, f)]) ++ [(1, t)]) ++ [(2, t)]) ++ [(2, f)])) := Lib.hid (by
    rw [← hm, sel_msk, andn_msk, ← hx, ← hy]
    unfold prS
    simp)
  rw [HR.out]
  have hsh := n64_shr x j
  clear h hx hy hm hb
  go_enter Try.func48, Try.ntmps48
  go_wp2_with fail
  refine (HW.out.call (fun w F ha => by have := load_ok ha (f : Int) (by omega) (by omega) (by omega); rw [Int.toNat_natCast, HXY.out.1] at this; exact this)).mono ?_
  rintro e w1 ⟨rfl, h1⟩
  have k1 : w1.cell? ⟨w.heap.size, 0, none⟩ = some (.pointer (some ⟨p, 0, none⟩)) := (h1.blk (List.mem_cons_self ..)).cell 0
  have H1 := Lib.hid h1
  clear h1 k0 HW
  go_wp2_with fail
  refine (H1.out.call (fun w F ha => by have := load_ok ha (t : Int) (by omega) (by omega) (by rw [List.length_append]; simp; omega); rw [Int.toNat_natCast, HXY.out.2] at this; exact this)).mono ?_
  rintro e w2 ⟨rfl, h2⟩
  have k2 : w2.cell? ⟨w.heap.size, 0, none⟩ = some (.pointer (some ⟨p, 0, none⟩)) := (h2.blk (List.mem_cons_self ..)).cell 0
  have H2 := Lib.hid h2
  clear h2 k1 H1
  go_wp2_with fail
  refine Calls.mono (R := fun e w' => e = .returned (.int .u64 (n64 m)) ∧ _ = w') (by have := of_any (x >>> j) w2; rw [HO.out] at this; exact this) ?_
  rintro e w' ⟨rfl, rfl⟩
  go_wp2_with fail
  go_region_held3 (fun w' => w'.cell? ⟨w.heap.size, 0, none⟩ = some (.pointer (some ⟨p, 0, none⟩)))
    (first | with_reducible assumption | go_keep)
    (first
      | (go_at_call 67; refine (select_any m x y _).mono ?_; rintro e w' ⟨rfl, rfl⟩)
      | (go_at_call 23; refine (Wk.call (H2.out.off (by first | with_reducible exact Off.refl _ _ | with_reducible exact Off.drew (Off.refl _ _) | with_reducible exact Off.drewN (Off.refl _ _) _)) (fun w F ha => by have := store_ok ha (t : Int) (selM m x y) (by omega) (by omega) (by simp; omega); rw [Int.toNat_natCast] at this; exact this)).mono ?_; rintro e w3 ⟨rfl, h3⟩; have k3 : w3.cell? ⟨w.heap.size, 0, none⟩ = some (.pointer (some ⟨p, 0, none⟩)) := (h3.blk (List.mem_cons_self ..)).cell 0; have H3 := Lib.hid h3; clear h3))
  go_wp2_with fail
  refine (H3.out.call (fun w F ha => by have := store_ok ha (f : Int) (x &&& ~~~ m) (by omega) (by simp; omega) (by simp; omega); rw [Int.toNat_natCast] at this; exact this)).mono ?_
  rintro e w4 ⟨rfl, h4⟩
  have H4 := Lib.hid h4
  clear h4 k3 H3
  go_wp2_with fail
  go_ret
  exact ⟨rfl, H4.out.done⟩
end
end Go.Proofs.Ytlefjlclhmapaaa
