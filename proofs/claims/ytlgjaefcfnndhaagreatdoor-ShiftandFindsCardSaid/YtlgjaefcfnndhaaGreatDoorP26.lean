/-
 Maps whose keys are spots: the law of the key's type, and which key a spot is.
-/
import Derived.Test.YtlgjaefcfnndhaaGreatDoorP15
import Derived.DeepKeys4
import Derived.Maps.Keyed
import Derived.Maps.OwnSet
import Derived.Test.YtlgjaefcfnndhaaGreatDoorP13
set_option linter.unusedVariables false
set_option linter.unusedSimpArgs false
set_option maxHeartbeats 16000000
set_option maxRecDepth 100000
namespace Go.Proofs.YtlgjaefcfnndhaaGreatDoor
section
open Go.RowKit Go.Maps
theorem Tryz.laidOut : laidOutB Tryz.prog = true := by kernel_rfl
theorem Tryz.rowSp : 165 < Tryz.prog.types.size := of_decide_eq_true (by kernel_rfl)
theorem qzv : WideMaps.KeyLaw Tryz.prog 165 := deep_law_laid Tryz.laidOut (m := 2) (by omega) Tryz.rowSp (by kernel_rfl) (by kernel_rfl)
theorem spotKeyed : Keyed Tryz.prog 165 := Keyed.of_law qzv
end
section
open Go.RowKit Go.Maps
theorem Tryz.zeroInt (w : World) : (zeroValue 3).run Tryz.prog w = .ok (.int .i64 0) w := by kernel_rfl
structure Pst (w W1 : World) (B : Nat) (W : World) (cs : Array Value) (a v : Value) (n : Nat) (D : DataW Unit) (m : Nat) (ls : List Value) : Prop where
 off : Off Nob w W
 box : Blk W w.heap.size 25 cs
 pla : Blk W (w.heap.size + 1) 62 #[a, v]
 own : W.ownsMap Tryz.prog 165 (plainElem Tryz.prog 3) (w.heap.size + 2) n D
 lan : W.ownsRow B 43 3 v m ls
 lo : w.heap.size + 3 ≤ B
 hi : B ≤ W.heap.size
 ex : ∀ k, w.heap.size + 3 ≤ k → k < B → W.heap[k]? = W1.heap[k]?
section
variable {B : Nat} {w W1 W W' : World} {cs : Array Value} {a v : Value} {n m : Nat} {D : DataW Unit} {ls : List Value}
theorem qgx {b : Nat} (h : W.ownsMap Tryz.prog 165 (plainElem Tryz.prog 3) b n D) (he : W'.heap[b]? = W.heap[b]?) : W'.ownsMap Tryz.prog 165 (plainElem Tryz.prog 3) b n D := by
 obtain ⟨es, clock, hb, F, hs, hD⟩ := h
 exact ⟨es, clock, he.trans hb, F, hs, hD⟩
theorem Pst.go (h : Pst w W1 B W cs a v n D m ls) (o : Off Nob W W') : Pst w W1 B W' cs a v n D m ls :=
 ⟨h.off.also o, h.box.to (o.block _ h.box.lt id), h.pla.to (o.block _ h.pla.lt id), qgx h.own (o.block _ h.own.lt id), qas h.lan (fun g hg => o.block g (h.lan.lt g hg).2 (fun h => h)), h.lo, Nat.le_trans h.hi o.size, fun k h1 h2 => (o.block k (Nat.lt_of_lt_of_le h2 h.hi) id).trans (h.ex k h1 h2)⟩
theorem qkj {b : Nat} (h : W.mapTurned W' b) : Off (fun k => k = b) W W' := by
 have g := h.grown
 exact Off.grown oRf g (fun k hk => by cases hk; exact .inl rfl)
theorem Pst.turn {n' : Nat} {D' : DataW Unit} (h : Pst w W1 B W cs a v n D m ls) (ho : W'.ownsMap Tryz.prog 165 (plainElem Tryz.prog 3) (w.heap.size + 2) n' D') (t : W.mapTurned W' (w.heap.size + 2)) : Pst w W1 B W' cs a v n' D' m ls := by
 have o := qkj t
 refine ⟨h.off.trans (o.mono fun k hk e => ?_), h.box.to (o.block _ h.box.lt (by omega)), h.pla.to (o.block _ h.pla.lt (by omega)), ho, ?_, h.lo, Nat.le_trans h.hi o.size, fun k h1 h2 => (o.block k (Nat.lt_of_lt_of_le h2 h.hi) (by omega)).trans (h.ex k h1 h2)⟩
 ·subst e
  exact .inr ⟨by omega, hk⟩
 ·exact qas h.lan (fun g hg => o.block g (h.lan.lt g hg).2 (by have := (h.lan.lt g hg).1; have := h.lo; omega))
theorem qcu (W : World) (p : Addr) (u : Value) : Off (fun k => k = p.block) W (W.setCell p u) := Off.put (F := fun k => k = p.block) oRf (.inl rfl) u
theorem Pst.put (h : Pst w W1 B W cs a v n D m ls) (i : Nat) (u : Value) : Off Nob w (W.setCell ⟨w.heap.size + 1, i, none⟩ u) ∧ Blk (W.setCell ⟨w.heap.size + 1, i, none⟩ u) w.heap.size 25 cs ∧ (W.setCell ⟨w.heap.size + 1, i, none⟩ u).ownsMap Tryz.prog 165 (plainElem Tryz.prog 3) (w.heap.size + 2) n D ∧ (W.setCell ⟨w.heap.size + 1, i, none⟩ u).ownsRow B 43 3 v m ls ∧ B ≤ (W.setCell ⟨w.heap.size + 1, i, none⟩ u).heap.size ∧ ∀ k, w.heap.size + 3 ≤ k → k < B → (W.setCell ⟨w.heap.size + 1, i, none⟩ u).heap[k]? = W1.heap[k]? := by
 have o := qcu W ⟨w.heap.size + 1, i, none⟩ u
 refine ⟨h.off.trans (o.mono fun k hk e => .inr ⟨by simp at e; omega, hk⟩), h.box.to (o.block _ h.box.lt (by simp)), qgx h.own (o.block _ h.own.lt (by simp)), qas h.lan (fun g hg => o.block g (h.lan.lt g hg).2 (by have := (h.lan.lt g hg).1; have := h.lo; simp; omega)), Nat.le_trans h.hi o.size, fun k h1 h2 => (o.block k (Nat.lt_of_lt_of_le h2 h.hi) (by simp; omega)).trans (h.ex k h1 h2)⟩
theorem Pst.put0 (h : Pst w W1 B W cs a v n D m ls) (u : Value) : Pst w W1 B (W.setCell ⟨w.heap.size + 1, 0, none⟩ u) cs u v n D m ls := by
 obtain ⟨p1, p2, p3, p4, p5, p6⟩ := h.put 0 u
 exact ⟨p1, p2, h.pla.put 0 u, p3, p4, h.lo, p5, p6⟩
theorem Pst.put1 {v' : Value} {m' : Nat} {ls' : List Value} (h : Pst w W1 B W cs a v n D m ls) (hl : W.ownsRow B 43 3 v' m' ls') : Pst w W1 B (W.setCell ⟨w.heap.size + 1, 1, none⟩ v') cs a v' n D m' ls' := by
 obtain ⟨p1, p2, p3, _, p5, p6⟩ := h.put 1 v'
 have o := qcu W ⟨w.heap.size + 1, 1, none⟩ v'
 exact ⟨p1, p2, h.pla.put 1 v', p3, qas hl (fun g hg => o.block g (hl.lt g hg).2 (by have := (hl.lt g hg).1; have := h.lo; simp; omega)), h.lo, p5, p6⟩
theorem Pst.grow {v' : Value} {m' : Nat} {ls' : List Value} (h : Pst w W1 B W cs a v n D m ls) (hg : W.grownBy W' v.ownBlock) (hl : W'.ownsRow B 43 3 v' m' ls') : Pst w W1 B (W'.setCell ⟨w.heap.size + 1, 1, none⟩ v') cs a v' n D m' ls' := by
 have o : Off (fun k => v.ownBlock = some k) W W' := Off.grown oRf hg (fun k hk => .inl hk)
 have ne : ∀ k, v.ownBlock = some k → B ≤ k := fun k hk => (h.lan.lt k hk).1
 have lo := h.lo
 have o2 := qcu W' ⟨w.heap.size + 1, 1, none⟩ v'
 have hs := o2.size
 have b1 : Blk W' w.heap.size 25 cs := h.box.to (o.block _ h.box.lt (fun e => by have := ne _ e; omega))
 have b2 : Blk W' (w.heap.size + 1) 62 #[a, v] := h.pla.to (o.block _ h.pla.lt (fun e => by have := ne _ e; omega))
 have b3 : W'.ownsMap Tryz.prog 165 (plainElem Tryz.prog 3) (w.heap.size + 2) n D := qgx h.own (o.block _ h.own.lt (fun e => by have := ne _ e; omega))
 have h1 : Off Nob w W' := h.off.trans (o.mono fun k hk e => .inr ⟨by have := ne k e; omega, hk⟩)
 have e1 : ∀ k, w.heap.size + 3 ≤ k → k < B → W'.heap[k]? = W1.heap[k]? := fun k h1 h2 => (o.block k (Nat.lt_of_lt_of_le h2 h.hi) (fun e => by have := ne _ e; omega)).trans (h.ex k h1 h2)
 refine ⟨h1.trans (o2.mono fun k hk e => .inr ⟨by simp at e; omega, hk⟩), b1.to (o2.block _ b1.lt (by simp)), b2.put 1 v', qgx b3 (o2.block _ b3.lt (by simp)), qas hl (fun g hg => o2.block g (hl.lt g hg).2 (by have := (hl.lt g hg).1; simp; omega)), h.lo, Nat.le_trans (Nat.le_trans h.hi o.size) hs, fun k h1 h2 => (o2.block k (Nat.lt_of_lt_of_le h2 (Nat.le_trans h.hi o.size)) (by simp; omega)).trans (e1 k h1 h2)⟩
theorem Pst.growF (h : Pst w W1 B W cs a v n D m ls) (hg : W.grownBy W' v.ownBlock) : W'.frozen? ⟨w.heap.size + 1, 1, none⟩ = false := by
 have o : Off (fun k => v.ownBlock = some k) W W' := Off.grown oRf hg (fun k hk => .inl hk)
 have lo := h.lo
 exact (Blk.frozen (h.pla.to (o.block _ h.pla.lt (fun e => by have := (h.lan.lt _ e).1; omega))) 1)
theorem Pst.growC (h : Pst w W1 B W cs a v n D m ls) (hg : W.grownBy W' v.ownBlock) : W'.cell? ⟨w.heap.size + 1, 1, none⟩ = some v := by
 have o : Off (fun k => v.ownBlock = some k) W W' := Off.grown oRf hg (fun k hk => .inl hk)
 have lo := h.lo
 exact (Blk.cell (h.pla.to (o.block _ h.pla.lt (fun e => by have := (h.lan.lt _ e).1; omega))) 1)
theorem Pst.base (h : Pst w W1 B W cs a (.slice none 0 0) n D 0 []) : Pst w W W.heap.size W cs a (.slice none 0 0) n D 0 [] :=
 ⟨h.off, h.box, h.pla, h.own, World.ownsRow_nil _ _ _ _, Nat.le_trans h.lo h.hi, Nat.le_refl _, fun _ _ _ => rfl⟩
theorem Pst.cell (h : Pst w W1 B W cs a v n D m ls) {k i : Nat} {u : Value} (h1 : w.heap.size + 3 ≤ k) (h2 : k < B) (hu : W1.cell? ⟨k, i, none⟩ = some u) : W.cell? ⟨k, i, none⟩ = some u := by
 unfold World.cell? at hu ⊢
 rw [h.ex k h1 h2]
 exact hu
end
end
end Go.Proofs.YtlgjaefcfnndhaaGreatDoor
