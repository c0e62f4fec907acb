/-
 A range over a function whose body works over an arena: what the law asks of the words Ar, Wk, Off.
-/
import Derived.RangeFuncNested
import Derived.RangeFuncBound
import Derived.RangeFuncCalls
import Derived.RangeFuncLeaves
import Derived.Shelf.Abstract
import Derived.Shelf.RegionOpen
import Derived.OwnWalkIn
import Derived.TacticsInMore
import Derived.LoopNIn
import Derived.LoopIn
import Derived.Test.YtkflicifngohcaaGreatDoorM8
set_option linter.unusedVariables false
set_option linter.unusedSimpArgs false
namespace Go.Proofs.YtkflicifngohcaaGreatDoor
open Go.RowKit Go.Shelf
set_option maxRecDepth 100000
theorem Blk.isC {w : World} {g : Nat} {t : TypeId} {cs : Array Value} (h : Blk w g t cs) : ∃ o : Obj, w.heap[g]? = some o ∧ o.isCells = true := ⟨_, h, rfl⟩
theorem own_isC {w : World} {base : Nat} {e : TypeId} {size n : Nat} {v : Value} {xs : List Value} (h : w.ownsRow base e size v n xs) (g : Nat) (hg : v.ownBlock = some g) : ∃ o : Obj, w.heap[g]? = some o ∧ o.isCells = true := by
 rcases h.2 with ⟨rfl, _⟩ | ⟨g', cap, cur, rfl, _, hh, _⟩
 ·simp [Value.ownBlock] at hg
 ·have e2 : g' = g := by simpa [Value.ownBlock] using hg
  subst e2
  exact ⟨_, hh, rfl⟩
theorem Ar.exact {w : World} {F : Nat → Prop} {p : Nat} {C : List (BitVec 64)} {E : List Ev} (h : Ar w F p C E) : ∃ F1, Ar w F1 p C E ∧ (∀ k, F1 k → F k) ∧ ∀ k, F1 k → ∃ o : Obj, w.heap[k]? = some o ∧ o.isCells = true := by
 obtain ⟨cb, pv, ps, rg, hpl, h⟩ := h
 refine ⟨fun k => k = p ∨ k = cb ∨ pv.ownBlock = some k ∨ k ∈ ps, ⟨cb, pv, ps, rg, hpl, { h with fp := .inl rfl, fc := .inr (.inl rfl), fo := fun g hg => .inr (.inr (.inl hg)), fg := fun b hb => .inr (.inr (.inr hb)), fl := ?_ }⟩, ?_, ?_⟩
 ·rintro k (rfl | rfl | hk | hk)
  ·exact h.fl _ h.fp
  ·exact h.fl _ h.fc
  ·exact h.fl _ (h.fo k hk)
  ·exact h.fl _ (h.fg k hk)
 ·rintro k (rfl | rfl | hk | hk)
  ·exact h.fp
  ·exact h.fc
  ·exact h.fo k hk
  ·exact h.fg k hk
 ·rintro k (rfl | rfl | hk | hk)
  ·exact h.top.isC
  ·exact h.cel.isC
  ·exact own_isC h.own k hk
  ·obtain ⟨i, hi, he⟩ := List.getElem_of_mem hk
   have e : ps.getD i 0 = k := by simp [List.getD, hi, he]
   have := h.pg i hi
   rw [e] at this
   exact this.isC
theorem turn_same {W W' : World} {row : Option Nat} (hg : W.grownBy W' row) (hr : ∀ r, row = some r → ∃ o : Obj, W.heap[r]? = some o ∧ o.isCells = false) {k : Nat} {o : Obj} (hk : W.heap[k]? = some o) (ho : o.isCells = true) : W'.heap[k]? = W.heap[k]? :=
 hg.block k (Array.getElem?_eq_some_iff.1 hk).1 (fun e => by
  obtain ⟨o2, h2, h3⟩ := hr k e.symm
  rw [hk] at h2
  cases h2
  rw [ho] at h3
  cases h3)
theorem Ar.turn {W W' : World} {F : Nat → Prop} {p : Nat} {C : List (BitVec 64)} {E : List Ev} (h : Ar W F p C E) {row : Option Nat} (hg : W.grownBy W' row) (hr : ∀ r, row = some r → ∃ o : Obj, W.heap[r]? = some o ∧ o.isCells = false) : Ar W' F p C E := by
 obtain ⟨F1, h1, hs, hc⟩ := h.exact
 obtain ⟨cb, pv, ps, rg, hpl, h1⟩ := h1
 have h2 : ArAt W' F1 p C E cb pv ps rg := h1.to hg.size (fun k hk => by
  obtain ⟨o, ho, hoc⟩ := hc k hk
  exact turn_same hg hr ho hoc)
 exact (show Ar W' F1 p C E from ⟨cb, pv, ps, rg, hpl, h2⟩).mono hs (fun k hk => Nat.lt_of_lt_of_le (h.lt k hk) hg.size)
theorem Wk.turn {w0 W W' : World} {F : Nat → Prop} {bs : Bks} {p : Nat} {C : List (BitVec 64)} {E : List Ev} (h : Wk w0 F W bs p C E) {row : Option Nat} (hg : W.grownBy W' row) (hr : ∀ r, row = some r → w0.heap.size ≤ r ∧ ∃ o : Obj, W.heap[r]? = some o ∧ o.isCells = false) : Wk w0 F W' bs p C E := by
 obtain ⟨F1, ha, hf, ho, hl, hb, hn⟩ := h
 have hr2 := fun r e => (hr r e).2
 refine ⟨F1, ha.turn hg hr2, hf, ho.grown hg (fun k hk => .inr (hr k hk).1), hl, fun x hx => ?_, hn⟩
 obtain ⟨g1, g2, g3⟩ := hb x hx
 exact ⟨g1.to (turn_same hg hr2 g1 rfl), g2, g3⟩
theorem wk_own {β : Type} {w0 : World} {F : Nat → Prop} {B : Nat} (hB : w0.heap.size ≤ B) (bs : β → Bks) (p : Nat) (C : β → List (BitVec 64)) (E : β → List Ev) : OwnFrom B (fun s W => Wk w0 F W (bs s) p (C s) (E s)) :=
 fun s W W' row h hg hr => h.turn hg (fun r e => ⟨Nat.le_trans hB (hr r e).1, (hr r e).2⟩)
theorem offC_keeps {F : Nat → Prop} {W W' : World} (o : Off F W W') (hc : ∀ k, F k → ∃ ob : Obj, W.heap[k]? = some ob ∧ ob.isCells = true) : KeepsOthers W W' :=
 ⟨o.size, fun k ob hk hn => (o.block k (Array.getElem?_eq_some_iff.1 hk).1 (fun hf => by
  obtain ⟨o2, h2, h3⟩ := hc k hf
  rw [hk] at h2
  cases h2
  rw [hn] at h3
  cases h3)).trans hk⟩
section
variable {W1 w0 w w' : World} {F : Nat → Prop} {bs : Bks} {p : Nat} {C C2 : List (BitVec 64)} {E E2 : List Ev}
theorem Wk.callO {P : Program} {f : FuncId} {xs : Array Value} {e0 : Ending} (h : Wk w0 F w bs p C E)
  (hc : ∀ w F, Ar w F p C E → Calls P f xs w fun e w' => e = e0 ∧ ArTo w F p C2 E2 w') : Calls P f xs w fun e w' => e = e0 ∧ Wk w0 F w' bs p C2 E2 ∧ KeepsOthers w w' := by
 obtain ⟨F1, ha, hf, ho, hl, hb, hn⟩ := h
 obtain ⟨F2, ha2, hs2, hc2⟩ := ha.exact
 refine (hc w F2 ha2).mono fun e w' ⟨he, a3, o3⟩ => ⟨he, ⟨_, a3, fun k hk => ?_, ?_, hl, fun x hx => ?_, hn⟩, offC_keeps o3 hc2⟩
 ·rcases hk with hk | hk
  ·exact hf k (hs2 k hk)
  ·exact .inr (Nat.le_trans ho.size hk.1)
 ·exact ⟨o3.os.trans ho.os, o3.tape.trans ho.tape, o3.output.trans ho.output, Nat.le_trans ho.size o3.size, fun i hi hn => (o3.block i (Nat.lt_of_lt_of_le hi ho.size) (fun hf1 => by rcases hf i (hs2 i hf1) with h | h; exact hn h; omega)).trans (ho.block i hi hn)⟩
 ·obtain ⟨g1, g2, g3⟩ := hb x hx
  exact ⟨g1.to (o3.block _ g1.lt (fun h => g2 (hs2 _ h))), fun h => h.elim (fun h => g2 (hs2 _ h)) (fun h => by have := g1.lt; omega), g3⟩
end
def KpB (bl : List Nat) (W W' : World) : Prop := ∀ b ∈ bl, W'.heap[b]? = W.heap[b]?
theorem kpB_t {bl : List Nat} {A B C : World} (h : KpB bl A B) (k : KpB bl B C) : KpB bl A C := fun b hb => (k b hb).trans (h b hb)
theorem kpB_b {bl : List Nat} {w : World} (hlt : ∀ b ∈ bl, b < w.heap.size) (W : World) (l : Nat) (o o' : Obj) (hl : w.heap.size ≤ l) (h : W.heap[l]? = some o) (hc : o.isCells = false) (hw : o.isWalk = false) : KpB bl W (W.putObj l o') :=
 fun b hb => World.putObj_heap_other (fun e => by have := hlt b hb; omega)
theorem KpB.blk {bl : List Nat} {W W' : World} (h : KpB bl W W') {b : Nat} (hb : b ∈ bl) {t : TypeId} {cs : Array Value} (k : Blk W b t cs) : Blk W' b t cs := k.to (h b hb)
theorem Wk.unmark {w0 W : World} {F : Nat → Prop} {bs : Bks} {p : Nat} {C : List (BitVec 64)} {E : List Ev} (h : Wk w0 F W bs p C E) {D : Nat} {o o' : Obj} (hD : w0.heap.size ≤ D) (hk : W.heap[D]? = some o) (hc : o.isCells = false) : Wk w0 F (W.putObj D o') bs p C E :=
 h.turn (grownBy_putObj' W D o') (fun r e => by cases e; exact ⟨hD, _, hk, hc⟩)
def Rest {β : Type} (L : List β) (J : List {x : β // x ∈ L} → World → Prop) (rest : List β) (W : World) : Prop := ∃ pre : List {x : β // x ∈ L}, pre.map Subtype.val ++ rest = L ∧ J pre W
theorem Rest.start {β : Type} {L : List β} {J : List {x : β // x ∈ L} → World → Prop} {W : World} (h : J [] W) : Rest L J L W := ⟨[], rfl, h⟩
theorem rest_yield {β : Type} {L : List β} {J Jx : List {x : β // x ∈ L} → World → Prop} {Fe : Fence} {m : Nat} {P : Program} {l : Nat} {enc : β → Array Value} {Kp : World → World → Prop}
  (hY : ∀ pre (x : {x : β // x ∈ L}) W1, J pre W1 → pre.length < L.length → YieldAt Fe m P l (enc x.1) W1 fun e W' => (e = .returned (.bool true) ∧ J (pre ++ [x]) W' ∧ Kp W1 W') ∨ (e = .returned (.bool false) ∧ Jx (pre ++ [x]) W'))
  {x : β} {rest : List β} {W : World} (h : Rest L J (x :: rest) W) :
  YieldAt Fe m P l (enc x) W fun e W' => (e = .returned (.bool true) ∧ Rest L J rest W' ∧ Kp W W') ∨ (e = .returned (.bool false) ∧ ∃ pre, Jx pre W') := by
 obtain ⟨pre, he, hj⟩ := h
 have hm : x ∈ L := by rw [← he]; simp
 have hl : pre.length < L.length := by have := congrArg List.length he; simp at this; omega
 obtain ⟨fn, tmps, assign, body, hy, hR⟩ := hY pre ⟨x, hm⟩ W hj hl
 refine ⟨fn, tmps, assign, body, hy, hR.mono ?_⟩
 rintro e W' (⟨h1, h2, h3⟩ | ⟨h1, h2⟩)
 ·exact .inl ⟨h1, ⟨_, by rw [List.map_append, List.append_assoc]; exact he, h2⟩, h3⟩
 ·exact .inr ⟨h1, _, h2⟩
theorem rest_done {β : Type} {L : List β} {J : List {x : β // x ∈ L} → World → Prop} {W : World} (h : Rest L J [] W) : ∃ xs : List {x : β // x ∈ L}, xs.map Subtype.val = L ∧ J xs W := by
 obtain ⟨pre, he, hj⟩ := h
 exact ⟨pre, (List.append_nil _).symm.trans he, hj⟩
def Iter {β : Type} (P : Program) (n g : Nat) (lb : Array Value) (enc : β → Array Value) (bl : List Nat) (L : List β) (w : World) : Prop :=
 SeqStopsK Fence.wide n P g lb (fun x : {x : β // x ∈ L} => enc x.1) (KpB bl) (fun xs => xs.map Subtype.val = L) (fun _ => True) L.length w
end Go.Proofs.YtkflicifngohcaaGreatDoor

namespace Go.Proofs.YtkflicifngohcaaGreatDoor
open Go.RowKit Go.Shelf
set_option maxRecDepth 100000
theorem own_low {w : World} {b b' size n : Nat} {e : TypeId} {v : Value} {xs : List Value} (hb : b' ≤ b) (h : w.ownsRow b e size v n xs) : w.ownsRow b' e size v n xs := by
 refine ⟨h.1, ?_⟩
 rcases h.2 with hn | ⟨g, cap, cur, rfl, h1, rest⟩
 ·exact .inl hn
 ·exact .inr ⟨g, cap, cur, rfl, Nat.le_trans hb h1, rest⟩
theorem own_turn {W W' : World} {base : Nat} {e : TypeId} {size n : Nat} {v : Value} {xs : List Value} (h : W.ownsRow base e size v n xs) {row : Option Nat} (hg : W.grownBy W' row) (hr : ∀ r, row = some r → ∃ o : Obj, W.heap[r]? = some o ∧ o.isCells = false) : W'.ownsRow base e size v n xs :=
 own_to h (fun g hg2 => by
  obtain ⟨o, ho, hc⟩ := own_isC h g hg2
  exact turn_same hg hr ho hc)
theorem Blk.turn {W W' : World} {g : Nat} {t : TypeId} {cs : Array Value} (h : Blk W g t cs) {row : Option Nat} (hg : W.grownBy W' row) (hr : ∀ r, row = some r → ∃ o : Obj, W.heap[r]? = some o ∧ o.isCells = false) : Blk W' g t cs := h.to (turn_same hg hr h rfl)
theorem Rf.turn {W W' : World} {F : Nat → Prop} {p : Nat} {C : List (BitVec 64)} {E : List Ev} (h : Rf W F p C E) {row : Option Nat} (hg : W.grownBy W' row) (hr : ∀ r, row = some r → ∃ o : Obj, W.heap[r]? = some o ∧ o.isCells = false) : Rf W' F p C E := by
 obtain ⟨cb, ev, rg, h⟩ := h
 have hl := hg.size
 refine ⟨cb, ev, rg, { h with top := h.top.turn hg hr, cel := h.cel.turn hg hr, own := own_turn h.own hg hr, fl := fun k hk => Nat.lt_of_lt_of_le (h.fl k hk) hl }⟩
end Go.Proofs.YtkflicifngohcaaGreatDoor

namespace Go.Proofs.YtkflicifngohcaaGreatDoor
open Go.RowKit Go.Shelf
set_option maxRecDepth 100000
def Lp (l D : Nat) (r : Loop) (W : World) : Prop := W.heap[l]? = some (.loop r) ∧ W.heap[D]? = some (.deferred (some []))
theorem Lp.keep {l D : Nat} {r : Loop} {A B : World} (h : Lp l D r A) (k : KeepsOthers A B) : Lp l D r B := ⟨k.same _ _ h.1 rfl, k.same _ _ h.2 rfl⟩
theorem Lp.turn {l D : Nat} {r : Loop} {A : World} (h : Lp l D r A) (hne : l ≠ D) (r' : Loop) : Lp l D r' (A.putObj l (.loop r')) :=
 ⟨World.putObj_heap_same (Array.getElem?_eq_some_iff.1 h.1).1, (World.putObj_heap_other (fun e => hne e.symm)).trans h.2⟩
def goesOn (R : World → Prop) (W : World) : Exit → Act → World → Prop
 | .normal, _, W' => KeepsOthers W W' ∧ R W'
 | _, _, _ => False
def Drives {α : Type} (P : Program) (n g : Nat) (lb : Array Value) (encs : α → Array Value) (S : List α → Prop) (I : List α → World → Prop) (Y : List α → α → World → Prop) (B : Nat) : Prop :=
 ∀ (l : Nat) (Rk : World → Prop) (W : World), (∀ A A', Rk A → KeepsOthers A A' → Rk A') → B ≤ W.heap.size → I [] W → Rk W →
  (∀ pre x W1, Y pre x W1 → Rk W1 → YieldAt Fence.wide (n - 1) P l (encs x) W1 fun e W' => e = .returned (.bool true) ∧ I (pre ++ [x]) W' ∧ Rk W') →
  CallsIn Fence.wide n P g (#[.func (.yield l) #[] #[]] ++ lb) W fun e W' => (∃ v, e = .returned v) ∧ ∃ xs, S xs ∧ I xs W' ∧ Rk W'
theorem range_eff {α : Type} {P : Program} {n : Nat} (h1 : 1 ≤ n) {g : Operand} {ps : Array Tmp} {assign body : Code} {Q : Exit → Act → World → Prop} {a : Act} {w : World} {gf : Nat} {lb : Array Value}
  (hg : a.eval g = .func (.func gf) #[] lb) (eg : ∀ args w, (callFunc gf args).run P w = .ok (.enter gf args) w) {encs : α → Array Value} (hps : ∀ x, (encs x).size = ps.size) {S : List α → Prop}
  (I : List α → World → Prop) (Y : List α → α → World → Prop) (hI : OwnFrom w.heap.size I) (hY : ∀ x, OwnFrom w.heap.size (fun pre W => Y pre x W)) (h0 : I [] w)
  (hseq : Drives P (n - 1) gf lb encs S I Y w.heap.size) (a₁ : α → Act)
  (hassign : ∀ (l : Nat) (x : α) (W : World) (K : Act → World → Prop), K (a₁ x) W →
   assign.wpIn (Fence.wide.inRound l) (n - 1 - 1) P (Exit.then K (fun _ _ _ => False)) { tmps := (ps.zip (encs x)).foldl (fun t (p, v) => t.setIfInBounds p v) a.tmps, defers := [] } W)
  (hbody : ∀ (l : Nat) (pre : List α) (x : α) (W : World), Y pre x W → body.wpIn (Fence.wide.inRound l) (n - 1 - 1) P (goesOn (I (pre ++ [x])) W) (a₁ x) W)
  (hdone : ∀ (D : Nat) (xs : List α) (W : World), w.heap.size ≤ D → S xs → I xs W → W.heap[D]? = some (.deferred (some [])) → Q .normal { a with defers := { target := .collected D, args := #[] } :: a.defers } W) :
  (Code.rangeFunc g ps assign body).wpIn Fence.wide n P Q a w := by
 refine wpIn_rangeFunc fun fn hfn => ?_
 generalize hr : ({ state := .ready, pending := none, fn := fn, tmps := a.tmps, params := ps, assign := assign, body := body, defers := w.heap.size } : Loop) = r
 have hstate : r.state = .ready := by rw [← hr]
 have hpend : r.pending = none := by rw [← hr]
 have hne : w.heap.size + 1 ≠ w.heap.size := by omega
 have hW : ∃ W1 : World, W1 = (w.alloc (.deferred (some []))).alloc (.loop r) := ⟨_, rfl⟩
 obtain ⟨W1, hW1⟩ := hW
 have hsz : W1.heap.size = w.heap.size + 2 := by rw [hW1]; simp
 have hL : Lp (w.heap.size + 1) w.heap.size r W1 := by
  rw [hW1]
  refine ⟨?_, (Below.heap_alloc _ _ _ (by simp)).trans (World.alloc_heap_new w _)⟩
  have := World.alloc_heap_new (w.alloc (.deferred (some []))) (.loop r)
  rwa [World.size_alloc] at this
 have hI1 : I [] W1 := by rw [hW1]; exact hI.alloc _ (hI.alloc _ h0)
 refine ⟨w.heap.size + 1, [{ target := .collected w.heap.size, args := #[] }], W1, { target := .fn (.func gf) lb, args := #[.func (.yield (w.heap.size + 1)) #[] #[]] }, W1, gf, #[.func (.yield (w.heap.size + 1)) #[] #[]] ++ lb, W1, ?_, ?_, fun _ _ => trivial, ?_, fun _ => h1, ?_⟩
 ·rw [hW1, ← hr]
  exact run_enterLoop_outer _ _ _ _ _
 ·simp only [resolve, hg]
  simp [go_sem]
 ·simp [invoke, go_sem, eg]
 ·refine (hseq (w.heap.size + 1) (Lp (w.heap.size + 1) w.heap.size r) W1 (fun A A' h k => h.keep k) (by omega) hI1 hL ?_).mono ?_
  ·intro pre x W hy hl
   have hyr := run_yield (P := P) (args := encs x) hl.1 (by rw [← hr]; exact hps x)
   have hb := hl.turn hne { r with state := .busy }
   have hyb : Y pre x (W.putObj (w.heap.size + 1) (.loop { r with state := .busy })) := (hY x).putObj _ hy (by omega) hl.1 rfl
   have e2 : r.fn = fn ∧ r.assign = assign ∧ r.body = body ∧ r.params = ps ∧ r.tmps = a.tmps := by rw [← hr]; exact ⟨rfl, rfl, rfl, rfl, rfl⟩
   obtain ⟨e3, e4, e5, e6, e7⟩ := e2
   rw [e3, e4, e5, e6, e7] at hyr
   refine ⟨fn, _, assign, body, hyr, roundIn_of_wpIn hfn (hassign _ x W _ ⟨_, run_beginRound hl.1 hstate, ?_⟩)⟩
   refine wpIn_mono (hbody _ pre x _ hyb) ?_
   intro e a3 W3 hp
   cases e with
   | normal =>
    obtain ⟨hk, hi3⟩ := hp
    have hl3 := hb.keep hk
    have hend := run_endRound (P := P) none hl3.1
    have e8 : ({ { r with state := .busy } with state := if (none : Option Code).isNone then .ready else .done, pending := none } : Loop) = r := by rw [← hr]; rfl
    rw [e8] at hend
    exact ⟨_, _, hend, rfl, hI.putObj _ hi3 (by omega) hl3.1 rfl, hl3.turn hne r⟩
   | ret => exact hp.elim
   | exit id => exact hp.elim
   | goto t => exact hp.elim
   | panic ch => exact hp.elim
   | outgrown => exact hp.elim
  ·rintro e W2 ⟨⟨v, rfl⟩, xs, hS, hi, hl⟩
   have hend := run_endLoop (P := P) hl.1 (by rw [hstate]; simp)
   rw [hpend] at hend
   exact ⟨none, _, hend, hdone _ xs _ (Nat.le_refl _) hS (hI.putObj _ hi (by omega) hl.1 rfl) ((World.putObj_heap_other (fun e => hne e.symm)).trans hl.2)⟩
end Go.Proofs.YtkflicifngohcaaGreatDoor
