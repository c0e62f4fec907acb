/-
 A range over a function whose body works over an arena: what the law asks of the words Ar, Wk, Off.
-/
import Derived.RangeFuncNested
import Derived.RangeFuncBound
import Derived.RangeFuncCalls
import Derived.RangeFuncLeaves
import Derived.Shelf.Abstract
import Derived.Shelf.RegionOpen
import Derived.OwnWalkIn
import Derived.TacticsInMore
import Derived.LoopNIn
import Derived.LoopIn
import Derived.Test.YtlgjaefcfnndhaaGreatDoorL12
set_option linter.unusedVariables false
set_option linter.unusedSimpArgs false
set_option maxHeartbeats 16000000
set_option maxRecDepth 100000
namespace Go.Proofs.YtlgjaefcfnndhaaGreatDoor
section
open Go.RowKit Go.Shelf
theorem Blk.isC {w : World} {g : Nat} {t : TypeId} {cs : Array Value} (h : Blk w g t cs) : ∃ o : Obj, w.heap[g]? = some o ∧ o.isCells = true := ⟨_, h, rfl⟩
theorem qpd {w : World} {base : Nat} {e : TypeId} {size n : Nat} {v : Value} {xs : List Value} (h : w.ownsRow base e size v n xs) (g : Nat) (hg : v.ownBlock = some g) : ∃ o : Obj, w.heap[g]? = some o ∧ o.isCells = true := by
 rcases h.2 with ⟨rfl, _⟩ | ⟨g', cap, cur, rfl, _, hh, _⟩
 ·simp [Value.ownBlock] at hg
 ·have e2 : g' = g := by simpa [Value.ownBlock] using hg
  subst e2
  exact ⟨_, hh, rfl⟩
theorem qhm {W W' : World} {row : Option Nat} (hg : W.grownBy W' row) (hr : ∀ r, row = some r → ∃ o : Obj, W.heap[r]? = some o ∧ o.isCells = false) {k : Nat} {o : Obj} (hk : W.heap[k]? = some o) (ho : o.isCells = true) : W'.heap[k]? = W.heap[k]? :=
 hg.block k (Array.getElem?_eq_some_iff.1 hk).1 (fun e => by
  obtain ⟨o2, h2, h3⟩ := hr k e.symm
  rw [hk] at h2
  cases h2
  rw [ho] at h3
  cases h3)
theorem qqp {F : Nat → Prop} {W W' : World} (o : Off F W W') (hc : ∀ k, F k → ∃ ob : Obj, W.heap[k]? = some ob ∧ ob.isCells = true) : KeepsOthers W W' :=
 ⟨o.size, fun k ob hk hn => (o.block k (Array.getElem?_eq_some_iff.1 hk).1 (fun hf => by
  obtain ⟨o2, h2, h3⟩ := hc k hf
  rw [hk] at h2
  cases h2
  rw [hn] at h3
  cases h3)).trans hk⟩
section
variable {W1 w0 w w' : World} {F : Nat → Prop} {bs : Bks} {p : Nat} {C C2 : List (BitVec 64)} {E E2 : List Ev}
end
def KpB (bl : List Nat) (W W' : World) : Prop := ∀ b ∈ bl, W'.heap[b]? = W.heap[b]?
theorem kpB_t {bl : List Nat} {A B C : World} (h : KpB bl A B) (k : KpB bl B C) : KpB bl A C := fun b hb => (k b hb).trans (h b hb)
theorem kpB_b {bl : List Nat} {w : World} (hlt : ∀ b ∈ bl, b < w.heap.size) (W : World) (l : Nat) (o o' : Obj) (hl : w.heap.size ≤ l) (h : W.heap[l]? = some o) (hc : o.isCells = false) (hw : o.isWalk = false) : KpB bl W (W.putObj l o') :=
 fun b hb => World.putObj_heap_other (fun e => by have := hlt b hb; omega)
theorem KpB.blk {bl : List Nat} {W W' : World} (h : KpB bl W W') {b : Nat} (hb : b ∈ bl) {t : TypeId} {cs : Array Value} (k : Blk W b t cs) : Blk W' b t cs := k.to (h b hb)
def Rest {β : Type} (L : List β) (J : List {x : β // x ∈ L} → World → Prop) (rest : List β) (W : World) : Prop := ∃ pre : List {x : β // x ∈ L}, pre.map Subtype.val ++ rest = L ∧ J pre W
theorem Rest.start {β : Type} {L : List β} {J : List {x : β // x ∈ L} → World → Prop} {W : World} (h : J [] W) : Rest L J L W := ⟨[], rfl, h⟩
theorem qqq {β : Type} {L : List β} {J Jx : List {x : β // x ∈ L} → World → Prop} {Fe : Fence} {m : Nat} {P : Program} {l : Nat} {enc : β → Array Value} {Kp : World → World → Prop}
  (hY : ∀ pre (x : {x : β // x ∈ L}) W1, J pre W1 → pre.length < L.length → YieldAt Fe m P l (enc x.1) W1 fun e W' => (e = .returned (.bool true) ∧ J (pre ++ [x]) W' ∧ Kp W1 W') ∨ (e = .returned (.bool false) ∧ Jx (pre ++ [x]) W'))
  {x : β} {rest : List β} {W : World} (h : Rest L J (x :: rest) W) :
  YieldAt Fe m P l (enc x) W fun e W' => (e = .returned (.bool true) ∧ Rest L J rest W' ∧ Kp W W') ∨ (e = .returned (.bool false) ∧ ∃ pre, Jx pre W') := by
 obtain ⟨pre, he, hj⟩ := h
 have hm : x ∈ L := by rw [← he]; simp
 have hl : pre.length < L.length := by have := congrArg List.length he; simp at this; omega
 obtain ⟨fn, tmps, assign, body, hy, hR⟩ := hY pre ⟨x, hm⟩ W hj hl
 refine ⟨fn, tmps, assign, body, hy, hR.mono ?_⟩
 rintro e W' (⟨h1, h2, h3⟩ | ⟨h1, h2⟩)
 ·exact .inl ⟨h1, ⟨_, by rw [List.map_append, List.append_assoc]; exact he, h2⟩, h3⟩
 ·exact .inr ⟨h1, _, h2⟩
theorem qs9 {β : Type} {L : List β} {J : List {x : β // x ∈ L} → World → Prop} {W : World} (h : Rest L J [] W) : ∃ xs : List {x : β // x ∈ L}, xs.map Subtype.val = L ∧ J xs W := by
 obtain ⟨pre, he, hj⟩ := h
 exact ⟨pre, (List.append_nil _).symm.trans he, hj⟩
def Iter {β : Type} (P : Program) (n g : Nat) (lb : Array Value) (enc : β → Array Value) (bl : List Nat) (L : List β) (w : World) : Prop :=
 SeqStopsK Fence.wide n P g lb (fun x : {x : β // x ∈ L} => enc x.1) (KpB bl) (fun xs => xs.map Subtype.val = L) (fun _ => True) L.length w
end
section
open Go.RowKit Go.Shelf
theorem qkw {w : World} {b b' size n : Nat} {e : TypeId} {v : Value} {xs : List Value} (hb : b' ≤ b) (h : w.ownsRow b e size v n xs) : w.ownsRow b' e size v n xs := by
 refine ⟨h.1, ?_⟩
 rcases h.2 with hn | ⟨g, cap, cur, rfl, h1, rest⟩
 ·exact .inl hn
 ·exact .inr ⟨g, cap, cur, rfl, Nat.le_trans hb h1, rest⟩
theorem Blk.turn {W W' : World} {g : Nat} {t : TypeId} {cs : Array Value} (h : Blk W g t cs) {row : Option Nat} (hg : W.grownBy W' row) (hr : ∀ r, row = some r → ∃ o : Obj, W.heap[r]? = some o ∧ o.isCells = false) : Blk W' g t cs := h.to (qhm hg hr h rfl)
end
end Go.Proofs.YtlgjaefcfnndhaaGreatDoor
