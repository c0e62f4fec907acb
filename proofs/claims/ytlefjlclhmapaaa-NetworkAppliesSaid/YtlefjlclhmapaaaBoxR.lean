/-
  A range over a function whose variable lies in a box, and whose body always goes on.
-/
import Derived.Test.YtlefjlclhmapaaaSeq
namespace Go.Proofs.Ytlefjlclhmapaaa
open Go.RowKit Go.Shelf
set_option linter.unusedVariables false
set_option maxRecDepth 100000
theorem own_low {w : World} {b b' size n : Nat} {e : TypeId} {v : Value} {xs : List Value} (hb : b' ≤ b) (h : w.ownsRow b e size v n xs) : w.ownsRow b' e size v n xs := by
  refine ⟨h.1, ?_⟩
  rcases h.2 with hn | ⟨g, cap, cur, rfl, h1, rest⟩
  · exact .inl hn
  · exact .inr ⟨g, cap, cur, rfl, Nat.le_trans hb h1, rest⟩
theorem own_turn {W W' : World} {base : Nat} {e : TypeId} {size n : Nat} {v : Value} {xs : List Value} (h : W.ownsRow base e size v n xs) {row : Option Nat} (hg : W.grownBy W' row) (hr : ∀ r, row = some r → ∃ o : Obj, W.heap[r]? = some o ∧ o.isCells = false) : W'.ownsRow base e size v n xs :=
  own_to h (fun g hg2 => by
    obtain ⟨o, ho, hc⟩ := own_isC h g hg2
    exact turn_same hg hr ho hc)
theorem Blk.turn {W W' : World} {g : Nat} {t : TypeId} {cs : Array Value} (h : Blk W g t cs) {row : Option Nat} (hg : W.grownBy W' row) (hr : ∀ r, row = some r → ∃ o : Obj, W.heap[r]? = some o ∧ o.isCells = false) : Blk W' g t cs := h.to (turn_same hg hr h rfl)
theorem Rf.turn {W W' : World} {F : Nat → Prop} {p : Nat} {C : List (BitVec 64)} {E : List Ev} (h : Rf W F p C E) {row : Option Nat} (hg : W.grownBy W' row) (hr : ∀ r, row = some r → ∃ o : Obj, W.heap[r]? = some o ∧ o.isCells = false) : Rf W' F p C E := by
  obtain ⟨cb, ev, rg, h⟩ := h
  have hl := hg.size
  refine ⟨cb, ev, rg, { h with top := h.top.turn hg hr, cel := h.cel.turn hg hr, own := own_turn h.own hg hr, fl := fun k hk => Nat.lt_of_lt_of_le (h.fl k hk) hl }⟩
/-- What the assignment leaves: the variable's cells in a new block Bx, its value in the slot sV, its address in the slot sB. -/
def BoxAct (a : Act) (sV sB : Nat) (T : TypeId) (B : Nat) (cs : Array Value) (a' : Act) (W : World) : Prop :=
  ∃ Bx, B ≤ Bx ∧ Blk W Bx T cs ∧ a' = { tmps := (a.tmps.setIfInBounds sV (.agg cs)).setIfInBounds sB (.pointer (some ⟨Bx, 0, none⟩)), defers := [] }
theorem range_boxed {α : Type} {P : Program} {n : Nat} (h1 : 1 ≤ n) {g : Operand} {ps : Array Tmp} {assign body : Code} {Q : Exit → Act → World → Prop} {a : Act} {w : World} {gf : Nat} {lb : Array Value}
    (hg : a.eval g = .func (.func gf) #[] lb) (eg : ∀ args w, (callFunc gf args).run P w = .ok (.enter gf args) w) {encs : α → Array Value} {Kp : World → World → Prop} {S Sp : List α → Prop} {N : Nat}
    (hseq : SeqStopsK Fence.wide (n - 1) P gf lb encs Kp S Sp N w) (hKt : ∀ {A B C : World}, Kp A B → Kp B C → Kp A C) (hKb : ∀ (W : World) (l : Nat) (o o' : Obj), w.heap.size ≤ l → W.heap[l]? = some o → o.isCells = false → o.isWalk = false → Kp W (W.putObj l o')) (hps : ∀ x, (encs x).size = ps.size)
    (I : List α → World → Prop) (hI : OwnFrom w.heap.size I) (h0 : I [] w) (sV sB : Nat) (T : TypeId) (cs : α → Array Value)
    (hassign : ∀ (l : Nat) (pre : List α) (x : α) (W : World) (K : Act → World → Prop), I pre W → (∀ a' W', KeepsFrom w.heap.size W W' → Kp W W' → I pre W' → BoxAct a sV sB T w.heap.size (cs x) a' W' → K a' W') →
      assign.wpIn (Fence.wide.inRound l) (n - 1 - 1) P (Exit.then K (fun _ _ _ => False)) { tmps := (ps.zip (encs x)).foldl (fun t (p, v) => t.setIfInBounds p v) a.tmps, defers := [] } W)
    (hbody : ∀ (l : Nat) (pre : List α) (x : α) (Bx : Nat) (W : World), I pre W → w.heap.size ≤ Bx → Blk W Bx T (cs x) → pre.length < N →
      body.wpIn (Fence.wide.inRound l) (n - 1 - 1) P (ownPostG w.heap.size Kp I (fun _ _ _ => False) (pre ++ [x]) W) { tmps := (a.tmps.setIfInBounds sV (.agg (cs x))).setIfInBounds sB (.pointer (some ⟨Bx, 0, none⟩)), defers := [] } W)
    (hdone : ∀ (D : Nat) (xs : List α) (W : World), w.heap.size ≤ D → S xs → I xs W → W.heap[D]? = some (.deferred (some [])) → Q .normal { a with defers := { target := .collected D, args := #[] } :: a.defers } W) :
    (Code.rangeFunc g ps assign body).wpIn Fence.wide n P Q a w := by
  apply wpIn_rangeFunc_ownH (F := Fence.wide) (n := n) rfl h1 hg trivial eg hseq hKt hKb (Below.refl _ _) hps I (fun _ _ _ => False) hI (fun _ _ _ _ _ hs _ _ => hs) h0 (fun x a' W => BoxAct a sV sB T w.heap.size (cs x) a' W)
  case hAx =>
    rintro x a' s W W' row ⟨Bx, g1, g2, g3⟩ hg hr
    exact ⟨Bx, g1, g2.turn hg (fun r e => (hr r e).2), g3⟩
  case hassign => exact hassign
  case hbody =>
    rintro l pre x a' W hl hr hi ⟨Bx, g1, g2, rfl⟩ hlt
    exact hbody l pre x Bx W hi g1 g2 hlt
  case hdone => exact hdone
  case hstop =>
    rintro D c pre W _ _ h _
    exact h.elim
end Go.Proofs.Ytlefjlclhmapaaa
