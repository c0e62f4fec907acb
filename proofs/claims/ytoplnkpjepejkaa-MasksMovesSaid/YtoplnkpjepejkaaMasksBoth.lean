/-
  Words for the laws of layer 7 that take cells and a call.
-/
import Derived.Test.YtoplnkpjepejkaaAwake07
import Derived.Test.YtoplnkpjepejkaaRef07
import Derived.Test.YtoplnkpjepejkaaOpen
namespace Go.Proofs.Ytoplnkpjepejkaa
open Go.RowKit
set_option maxRecDepth 100000
/-- A call's fields in a box. -/
def BoxAt (b : Nat) (m : BitVec 64) (x y n : Int) (w : World) : Prop :=
  (w.cell? ⟨b, 0, none⟩ = some (.int .u64 (n64 m)) ∧ w.cell? ⟨b, 1, none⟩ = some (.int .i64 x)) ∧ (w.cell? ⟨b, 2, none⟩ = some (.int .i64 y) ∧ w.cell? ⟨b, 3, none⟩ = some (.int .i64 n)) ∧ b < w.heap.size
theorem BoxAt.new (w : World) (t : TypeId) (m : BitVec 64) (x y n : Int) : BoxAt w.heap.size m x y n (w.alloc (.cells #[.int .u64 (n64 m), .int .i64 x, .int .i64 y, .int .i64 n] t)) := by
  refine ⟨⟨?_, ?_⟩, ⟨?_, ?_⟩, by simp⟩ <;> rw [World.cell?_alloc_new] <;> rfl
theorem BoxAt.off {b : Nat} {m : BitVec 64} {x y n : Int} {w w' : World} (h : BoxAt b m x y n w) (o : Off Nob w w') : BoxAt b m x y n w' := by
  have hc : ∀ i, w'.cell? ⟨b, i, none⟩ = w.cell? ⟨b, i, none⟩ := fun i => World.cell?_of_block (a := ⟨b, i, none⟩) (o.block b h.2.2 (fun h => h))
  unfold BoxAt
  rw [hc, hc, hc, hc]
  exact ⟨h.1, h.2.1, Nat.lt_of_lt_of_le h.2.2 o.size⟩
theorem BoxAt.far {b : Nat} {m : BitVec 64} {x y n : Int} {w w' : World} {F : Nat → Prop} (h : BoxAt b m x y n w) (o : Off F w w') (hf : ¬ F b) : BoxAt b m x y n w' := by
  have hc : ∀ i, w'.cell? ⟨b, i, none⟩ = w.cell? ⟨b, i, none⟩ := fun i => World.cell?_of_block (a := ⟨b, i, none⟩) (o.block b h.2.2 hf)
  unfold BoxAt
  rw [hc, hc, hc, hc]
  exact ⟨h.1, h.2.1, Nat.lt_of_lt_of_le h.2.2 o.size⟩
theorem pad_length (C : List (BitVec 64)) : (pad C).length = max C.length 1 := by
  unfold pad
  by_cases h : C = []
  · rw [if_pos h, h]; rfl
  · rw [if_neg h]; have := List.length_pos_iff.2 h; omega
theorem sameB_refl (A : List (BitVec 64)) : sameB A A = true := by simp [sameB]
/-- The cells of an arena, as a new slice. -/
theorem cells_of {w : World} {F : Nat → Prop} {p : Nat} {C : List (BitVec 64)} {E : List Ev} (h : Ar w F p C E) :
    Calls Try.prog 22 #[.pointer (some ⟨p, 0, none⟩)] w fun e w' => ∃ v, e = .returned v ∧ Off Nob w w' ∧ Rd w' (fun k => w.heap.size ≤ k ∧ k < w'.heap.size) 1 v C.length (u64s C) :=
  (cells_ok h).mono fun _ _ ⟨v, he, hv, ho⟩ => ⟨v, he, ho, NewU.rd hv⟩
/-- Cells of an arena of one's own. -/
theorem cells_same {w0 w : World} {p : Nat} {C : List (BitVec 64)} {E : List Ev} (h : Have w0 w p C E) :
    Calls Try.prog 22 #[.pointer (some ⟨p, 0, none⟩)] w fun e w' => ∃ v, e = .returned v ∧ Off Nob w w' ∧ Rd w' (fun k => w.heap.size ≤ k ∧ k < w'.heap.size) 1 v C.length (u64s C) := by
  obtain ⟨F, hF⟩ := h.ar
  exact (cells_ok hF).mono fun e w' ⟨v, he, hv, ho⟩ => ⟨v, he, ho, NewU.rd hv⟩
theorem from_in {k x y n N : Nat} (h1 : x ≤ k) (h2 : k < x + n) (h3 : y + n ≤ N) : k - x + y < N ∧ decide ((k : Int) - x + y < 0) = false ∧ decide ((N : Int) ≤ (k : Int) - x + y) = false := by
  refine ⟨by omega, ?_, ?_⟩
  · rw [decide_eq_false_iff_not]; omega
  · rw [decide_eq_false_iff_not]; omega
theorem not_both {k x y n : Nat} (hap : x + n ≤ y ∨ y + n ≤ x) (h1 : y ≤ k) (h2 : k < y + n) : ¬ (x ≤ k ∧ k < x + n) := by omega
theorem out_of {k x n : Nat} (h : ¬ (x ≤ k ∧ k < x + n)) : k < x ∨ x + n ≤ k := by omega
theorem three {k x y n : Nat} : (x ≤ k ∧ k < x + n) ∨ (y ≤ k ∧ k < y + n) ∨ (¬ (x ≤ k ∧ k < x + n) ∧ ¬ (y ≤ k ∧ k < y + n)) := by omega
theorem rwE_mk {nC nE : Nat} {m : BitVec 64} {x y n s : Int} (hm : isM m = true) (h1 : 1 ≤ n) (h2 : n ≤ 64) (h3 : 0 ≤ x) (h4 : x + n ≤ nC) (h5 : 0 ≤ y) (h6 : y + n ≤ nC) (h7 : ¬ (x < y + n ∧ y < x + n)) (h8 : 0 ≤ s * n) (h9 : nE + s * n ≤ 8388608) : rwE nC nE m x y n s = 0 := by
  have e1 : hasE nC x n = 0 := by unfold hasE; rw [if_neg (by omega)]
  have e2 : hasE nC y n = 0 := by unfold hasE; rw [if_neg (by omega)]
  have e3 : rowsE nC n [x, y] = 0 := by rw [rowsE_cons, if_pos e1, rowsE_cons, if_pos e2]; rfl
  have e4 : roomE nE 0 = 0 := by unfold roomE; rw [if_neg (by omega), if_neg (by omega)]
  have e5 : ckE nC nE m n 0 [x, y] = 0 := by unfold ckE; rw [if_pos hm, if_pos e3, e4]
  unfold rwE
  rw [if_pos hm, if_neg (by omega), if_pos e5, if_neg h7]
  unfold roomE
  rw [if_neg (by omega), if_neg (by omega)]
section
variable {w5 : World} {F : Nat → Prop} {p b : Nat} {C : List (BitVec 64)} {E : List Ev} {M : BitVec 64} {x y n : Int}
theorem cells_fin (h : Ar w5 F p C E) (hb : BoxAt b M x y n w5) (W : World) (o : Off Nob w5 W) : Calls Try.prog 22 #[.pointer (some ⟨p, 0, none⟩)] W fun e w' => ∃ v, e = .returned v ∧ w'.cell? ⟨b, 3, none⟩ = some (.int .i64 n) ∧ Off Nob w5 w' ∧ Rd w' (fun k => W.heap.size ≤ k ∧ k < w'.heap.size) 1 v C.length (u64s C) :=
  (cells_of (h.keep o (fun _ _ h => h))).mono fun _ _ ⟨v, he, ho, hv⟩ => ⟨v, he, (hb.off (o.also ho)).2.1.2, o.also ho, hv⟩
theorem same_fin {G H : Nat → Prop} {v u : Value} (hb : BoxAt b M x y n w5) (hu : Rd w5 G 1 u C.length (u64s C)) (W : World) (o : Off Nob w5 W) (hv : Rd W H 1 v C.length (u64s C)) : Calls Try.prog 24 #[v, u] W fun e w' => e = .returned (.bool true) ∧ w'.cell? ⟨b, 3, none⟩ = some (.int .i64 n) ∧ Off Nob w5 w' := by
  refine (sameCells_any hv (hu.keep o (fun _ _ h => h))).mono ?_
  rintro e w' ⟨rfl, ho⟩
  exact ⟨by rw [sameB_refl], (hb.off (o.also ho)).2.1.2, o.also ho⟩
theorem steps_fin (h : Ar w5 F p C E) (W : World) (o : Off Nob w5 W) : Calls Try.prog 25 #[.pointer (some ⟨p, 0, none⟩)] W fun e w' => e = .returned (.int .i64 (E.length : Int)) ∧ W = w' := steps_any (h.keep o (fun _ _ h => h))
end
end Go.Proofs.Ytoplnkpjepejkaa
