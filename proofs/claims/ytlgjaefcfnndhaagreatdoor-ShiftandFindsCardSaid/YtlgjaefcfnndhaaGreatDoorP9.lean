/-
 Words for memory: a block that is known whole, worlds that differ in some blocks alone, slices that read as lists. Nothing of the program is named here.
-/
import Derived.WalkKit
import Derived.WalkSpells
import Derived.WalkLawsBesides
import Derived.Maps.AppendAt
import Derived.Lib.Hide
set_option linter.unusedVariables false
set_option linter.unusedSimpArgs false
set_option maxHeartbeats 16000000
namespace Go.Proofs.YtlgjaefcfnndhaaGreatDoor
section
theorem dcF {p : Prop} [Decidable p] (h : ¬ p := by omega) : decide p = false := decide_eq_false h
theorem dcT {p : Prop} [Decidable p] (h : p := by omega) : decide p = true := decide_eq_true h
theorem dT {p : Prop} [Decidable p] (h : p) : decide p = true := decide_eq_true h
theorem dF {p : Prop} [Decidable p] (h : ¬p) : decide p = false := decide_eq_false h
theorem gDe {α : Type _} {l : List α} {i : Nat} {a : α} : l.getD i a = (l[i]?).getD a := List.getD_eq_getElem?_getD
theorem gEe {α : Type _} {l : List α} {i : Nat} (h : i < l.length) : l[i]? = some l[i] := List.getElem?_eq_getElem h
theorem hID {p : Prop} (h : p) : RowKit.Hid p := Lib.hid h
theorem qL {α : Type _} : (∀ (xs : List α) (i : Nat) (h : i < xs.toArray.size), xs.toArray[i] = xs[i]) ∧ (∀ (a : α) (l : List α) (h : 0 < (a :: l).length), (a :: l)[0] = a) ∧ (∀ (a : α) (l : List α) (i : Nat) (h : i + 1 < (a :: l).length), (a :: l)[i + 1] = l[i]'(Nat.lt_of_succ_lt_succ h)) ∧ (∀ (l : List α) (i : Nat) (a : α), l.toArray.setIfInBounds i a = (l.set i a).toArray) ∧ (∀ (x : α) (xs : List α) (a : α), (x :: xs).set 0 a = a :: xs) ∧ (∀ (x : α) (xs : List α) (i : Nat) (a : α), (x :: xs).set (i + 1) a = x :: xs.set i a) :=
  ⟨fun _ _ h => List.getElem_toArray h, fun a l h => List.getElem_cons_zero a l h, fun a l i h => List.getElem_cons_succ a l i h, fun l i a => List.setIfInBounds_toArray l i a, fun _ _ _ => List.set_cons_zero, fun _ _ _ _ => List.set_cons_succ⟩
theorem qG {α : Type _} : (∀ (l : List α) (i : Nat), l.toArray[i]? = l[i]?) ∧ (∀ (a : α) (l : List α) (i : Nat), (a :: l)[i + 1]? = l[i]?) ∧ (∀ (a : α) (l : List α), (a :: l)[0]? = some a) := ⟨fun _ _ => List.getElem?_toArray .., fun _ _ _ => List.getElem?_cons_succ, fun _ _ => List.getElem?_cons_zero⟩
open Go.RowKit
def Blk (w : World) (g : Nat) (t : TypeId) (cs : Array Value) : Prop := w.heap[g]? = some (.cells cs t (0, 0))
section
variable {w w' : World} {g : Nat} {t : TypeId} {cs : Array Value}
theorem Blk.lt (h : Blk w g t cs) : g < w.heap.size := (Array.getElem?_eq_some_iff.1 h).1
theorem Blk.cell (h : Blk w g t cs) (i : Nat) : w.cell? ⟨g, i, none⟩ = cs[i]? := cell_of_row w g i cs t (0, 0) h
theorem Blk.frozen (h : Blk w g t cs) (i : Nat) : w.frozen? ⟨g, i, none⟩ = false := by unfold Blk at h; simp [World.frozen?, h]
theorem Blk.new (w : World) (t : TypeId) (cs : Array Value) : Blk (w.alloc (.cells cs t)) w.heap.size t cs := heap_alloc_new w _
theorem Blk.alloc (h : Blk w g t cs) (o : Obj) : Blk (w.alloc o) g t cs := (Below.heap_alloc w o g h.lt).trans h
theorem Blk.put (h : Blk w g t cs) (i : Nat) (u : Value) : Blk (w.setCell ⟨g, i, none⟩ u) g t (cs.setIfInBounds i u) := by
 unfold Blk at h ⊢
 simp [World.setCell, Array.getElem?_modify, h]
theorem Blk.far (h : Blk w g t cs) {p : Addr} (hp : g ≠ p.block) (u : Value) : Blk (w.setCell p u) g t cs := (Below.heap_setCell w p u g hp).trans h
theorem Blk.to (h : Blk w g t cs) (he : w'.heap[g]? = w.heap[g]?) : Blk w' g t cs := he.trans h
theorem Blk.diff {g' : Nat} {t' : TypeId} {cs' : Array Value} (h : Blk w g t cs) (h' : Blk w g' t' cs') (hne : t ≠ t') : g ≠ g' := by
 intro e
 subst e
 have h2 := (Eq.symm h).trans h'
 injection h2 with h2
 injection h2 with _ ht
 exact hne ht
theorem qnk {base : Nat} {e : TypeId} {size n : Nat} {v : Value} {xs : List Value} (h : w.ownsRow base e size v n xs) (hg : Blk w g t cs) (hne : e ≠ t) : v.ownBlock ≠ some g := by
 intro he
 rcases h.2 with ⟨rfl, _⟩ | ⟨g', cap, cur, rfl, _, hh, _⟩
 ·simp [Value.ownBlock] at he
 ·have e2 : g' = g := by simpa [Value.ownBlock] using he
  subst e2
  exact Blk.diff (t := e) hh hg hne rfl
end
structure Off (F : Nat → Prop) (w w' : World) : Prop where
 os : w'.os = w.os
 tape : w'.tape = w.tape
 output : w'.output = w.output
 size : w.heap.size ≤ w'.heap.size
 block : ∀ k, k < w.heap.size → ¬ F k → w'.heap[k]? = w.heap[k]?
def Grow (F : Nat → Prop) (w w' : World) : Nat → Prop := fun k => F k ∨ (w.heap.size ≤ k ∧ k < w'.heap.size)
def Nob : Nat → Prop := fun _ => False
section
variable {F G : Nat → Prop} {w w' w1 w2 : World}
theorem Off.refl (F : Nat → Prop) (w : World) : Off F w w := ⟨rfl, rfl, rfl, Nat.le_refl _, fun _ _ _ => rfl⟩
theorem Off.trans (h : Off F w w1) (k : Off (Grow F w w1) w1 w2) : Off F w w2 :=
 ⟨k.os.trans h.os, k.tape.trans h.tape, k.output.trans h.output, Nat.le_trans h.size k.size, fun i hi hn =>
  (k.block i (Nat.lt_of_lt_of_le hi h.size) (fun hg => hg.elim hn (fun h2 => by omega))).trans (h.block i hi hn)⟩
theorem Off.also (h : Off F w w1) (k : Off F w1 w2) : Off F w w2 := h.trans ⟨k.os, k.tape, k.output, k.size, fun i hi hn => k.block i hi (fun hf => hn (.inl hf))⟩
theorem Off.mono (h : Off F w w') (hs : ∀ k, k < w.heap.size → F k → G k) : Off G w w' := ⟨h.os, h.tape, h.output, h.size, fun k hk hn => h.block k hk (fun hf => hn (hs k hk hf))⟩
theorem Off.ofNob (h : Off Nob w w') : Off G w w' := h.mono fun _ _ hf => hf.elim
theorem Off.alloc (h : Off F w w1) (o : Obj) : Off F w (w1.alloc o) := h.also ⟨rfl, rfl, rfl, by simp, fun k hk _ => Below.heap_alloc _ _ _ hk⟩
theorem Off.drew (h : Off F w w1) : Off F w w1.drew := h.also ⟨rfl, rfl, rfl, Nat.le_refl _, fun _ _ _ => rfl⟩
theorem Off.drewN (h : Off F w w1) (n : Nat) : Off F w (w1.drewN n) := h.also ⟨rfl, rfl, rfl, Nat.le_refl _, fun _ _ _ => rfl⟩
theorem Off.put (h : Off F w w1) {p : Addr} (hp : F p.block ∨ w.heap.size ≤ p.block) (u : Value) : Off F w (w1.setCell p u) :=
 ⟨h.os, h.tape, h.output, by simpa using h.size, fun k hk hn => (Below.heap_setCell _ _ _ _ (fun e => by subst e; rcases hp with hp | hp; exact hn hp; omega)).trans (h.block k hk hn)⟩
theorem Off.grown (h : Off F w w1) {row : Option Nat} (hg : w1.grownBy w2 row) (hr : ∀ k, row = some k → F k ∨ w.heap.size ≤ k) : Off F w w2 :=
 ⟨hg.os.trans h.os, hg.tape.trans h.tape, hg.output.trans h.output, Nat.le_trans h.size hg.size, fun k hk hn =>
  (hg.block k (Nat.lt_of_lt_of_le hk h.size) (fun e => by rcases hr k e.symm with h1 | h1; exact hn h1; omega)).trans (h.block k hk hn)⟩
theorem Off.below {B : Nat} (h : Off F w w') (hB : B ≤ w.heap.size) (hf : ∀ k, F k → B ≤ k) : Below B w w' :=
 ⟨h.os, h.tape, h.output, h.size, fun k hk => h.block k (by omega) (fun hk2 => by have := hf k hk2; omega)⟩
theorem Off.belowNob (h : Off Nob w w') : Below w.heap.size w w' := h.below (Nat.le_refl _) fun _ hf => hf.elim
theorem Off.ofBelow (h : Below w.heap.size w w') : Off F w w' := ⟨h.os, h.tape, h.output, h.size, fun k hk _ => h.block k hk⟩
end
def Rd (w : World) (F : Nat → Prop) (size : Nat) (v : Value) (n : Nat) (xs : List Value) : Prop :=
 ∃ A c, v = .slice A n c ∧ n ≤ maxLen ∧ xs.length = n * size ∧
  (0 < n → ∃ b o, A = some ⟨b, o, none⟩ ∧ F b ∧ b < w.heap.size ∧ ∀ j u, xs[j]? = some u → w.cell? ⟨b, o + j, none⟩ = some u)
section
variable {F G : Nat → Prop} {w w' : World} {size n : Nat} {v : Value} {xs : List Value}
theorem Rd.keep (h : Rd w F size v n xs) (o : Off G w w') (hd : ∀ k, F k → ¬ G k) : Rd w' F size v n xs := by
 obtain ⟨A, c, rfl, hm, hl, hc⟩ := h
 refine ⟨A, c, rfl, hm, hl, fun hn => ?_⟩
 obtain ⟨b, of, rfl, hf, hb, hx⟩ := hc hn
 exact ⟨b, of, rfl, hf, Nat.lt_of_lt_of_le hb o.size, fun j u hu => (World.cell?_of_block (o.block b hb (hd b hf))).trans (hx j u hu)⟩
theorem Rd.mono (h : Rd w F size v n xs) (hs : ∀ k, F k → G k) : Rd w G size v n xs := by
 obtain ⟨A, c, rfl, hm, hl, hc⟩ := h
 refine ⟨A, c, rfl, hm, hl, fun hn => ?_⟩
 obtain ⟨b, of, rfl, hf, hb, hx⟩ := hc hn
 exact ⟨b, of, rfl, hs b hf, hb, hx⟩
theorem Rd.nil (w : World) (F : Nat → Prop) (size : Nat) : Rd w F size (.slice none 0 0) 0 [] := ⟨none, 0, rfl, Nat.zero_le _, by simp, fun h => absurd h (by omega)⟩
theorem Rd.own {base : Nat} {e : TypeId} (h : w.ownsRow base e size v n xs) (hf : ∀ k, v.ownBlock = some k → F k) : Rd w F size v n xs := by
 rcases h.2 with ⟨rfl, rfl⟩ | ⟨g, cap, cur, rfl, hb, hg, hn, hm, hs, ht⟩
 ·exact ⟨none, 0, rfl, Nat.zero_le _, h.1, fun h => absurd h (by omega)⟩
 ·refine ⟨_, cap, rfl, by omega, h.1, fun _ => ⟨g, 0, rfl, hf g rfl, (Array.getElem?_eq_some_iff.1 hg).1, fun j u hu => ?_⟩⟩
  have hc := h.cells (g := g) rfl j u hu
  rw [Nat.zero_add]
  have ha : (⟨g, 0, none⟩ : Addr).add j = ⟨g, j, none⟩ := by unfold Addr.add; split <;> simp_all
  rw [ha] at hc
  exact hc
end
theorem qam (b o j : Nat) : (⟨b, o, none⟩ : Addr).add j = ⟨b, o + j, none⟩ := by unfold Addr.add; split <;> simp_all
theorem oAl {F : Nat → Prop} {w w1 : World} (h : Off F w w1) (o : Obj) : Off F w (w1.alloc o) := h.alloc o
theorem oRf {F : Nat → Prop} {w : World} : Off F w w := Off.refl F w
end
section
open Go.RowKit
def CapOk (v : Value) : Prop := ∀ A n c, v = .slice A n c → n ≤ c
theorem ql3 {w : World} {base : Nat} {e : TypeId} {size n : Nat} {v : Value} {xs : List Value} (h : w.ownsRow base e size v n xs) : CapOk v := by
 rintro A m c rfl
 rcases h.2 with ⟨h0, h1⟩ | ⟨g, cap, cur, he, _, _, h1, _⟩
 ·cases h0
  exact Nat.le_refl _
 ·cases he
  exact h1
end
end Go.Proofs.YtlgjaefcfnndhaaGreatDoor
