/-
  A range over a function that itself works over what the caller sees (it loads cells between two rounds), at the wide fence, whose body always goes on.
-/
import Derived.Test.YtlefjlclhmapaaaSeq
namespace Go.Proofs.Ytlefjlclhmapaaa
open Go.RowKit Go.Shelf
set_option linter.unusedVariables false
set_option maxRecDepth 100000
/-- The loop's record and the block for deferred calls. -/
def Lp (l D : Nat) (r : Loop) (W : World) : Prop := W.heap[l]? = some (.loop r) ∧ W.heap[D]? = some (.deferred (some []))
theorem Lp.keep {l D : Nat} {r : Loop} {A B : World} (h : Lp l D r A) (k : KeepsOthers A B) : Lp l D r B := ⟨k.same _ _ h.1 rfl, k.same _ _ h.2 rfl⟩
theorem Lp.turn {l D : Nat} {r : Loop} {A : World} (h : Lp l D r A) (hne : l ≠ D) (r' : Loop) : Lp l D r' (A.putObj l (.loop r')) :=
  ⟨World.putObj_heap_same (Array.getElem?_eq_some_iff.1 h.1).1, (World.putObj_heap_other (fun e => hne e.symm)).trans h.2⟩
/-- How a round is left: it goes on. -/
def goesOn (R : World → Prop) (W : World) : Exit → Act → World → Prop
  | .normal, _, W' => KeepsOthers W W' ∧ R W'
  | _, _, _ => False
/-- What an iterator does that goes through xs with S: I between two rounds, Y where it hands an element on. -/
def Drives {α : Type} (P : Program) (n g : Nat) (lb : Array Value) (encs : α → Array Value) (S : List α → Prop) (I : List α → World → Prop) (Y : List α → α → World → Prop) (B : Nat) : Prop :=
  ∀ (l : Nat) (Rk : World → Prop) (W : World), (∀ A A', Rk A → KeepsOthers A A' → Rk A') → B ≤ W.heap.size → I [] W → Rk W →
    (∀ pre x W1, Y pre x W1 → Rk W1 → YieldAt Fence.wide (n - 1) P l (encs x) W1 fun e W' => e = .returned (.bool true) ∧ I (pre ++ [x]) W' ∧ Rk W') →
    CallsIn Fence.wide n P g (#[.func (.yield l) #[] #[]] ++ lb) W fun e W' => (∃ v, e = .returned v) ∧ ∃ xs, S xs ∧ I xs W' ∧ Rk W'
theorem range_eff {α : Type} {P : Program} {n : Nat} (h1 : 1 ≤ n) {g : Operand} {ps : Array Tmp} {assign body : Code} {Q : Exit → Act → World → Prop} {a : Act} {w : World} {gf : Nat} {lb : Array Value}
    (hg : a.eval g = .func (.func gf) #[] lb) (eg : ∀ args w, (callFunc gf args).run P w = .ok (.enter gf args) w) {encs : α → Array Value} (hps : ∀ x, (encs x).size = ps.size) {S : List α → Prop}
    (I : List α → World → Prop) (Y : List α → α → World → Prop) (hI : OwnFrom w.heap.size I) (hY : ∀ x, OwnFrom w.heap.size (fun pre W => Y pre x W)) (h0 : I [] w)
    (hseq : Drives P (n - 1) gf lb encs S I Y w.heap.size) (a₁ : α → Act)
    (hassign : ∀ (l : Nat) (x : α) (W : World) (K : Act → World → Prop), K (a₁ x) W →
      assign.wpIn (Fence.wide.inRound l) (n - 1 - 1) P (Exit.then K (fun _ _ _ => False)) { tmps := (ps.zip (encs x)).foldl (fun t (p, v) => t.setIfInBounds p v) a.tmps, defers := [] } W)
    (hbody : ∀ (l : Nat) (pre : List α) (x : α) (W : World), Y pre x W → body.wpIn (Fence.wide.inRound l) (n - 1 - 1) P (goesOn (I (pre ++ [x])) W) (a₁ x) W)
    (hdone : ∀ (D : Nat) (xs : List α) (W : World), w.heap.size ≤ D → S xs → I xs W → W.heap[D]? = some (.deferred (some [])) → Q .normal { a with defers := { target := .collected D, args := #[] } :: a.defers } W) :
    (Code.rangeFunc g ps assign body).wpIn Fence.wide n P Q a w := by
  refine wpIn_rangeFunc fun fn hfn => ?_
  generalize hr : ({ state := .ready, pending := none, fn := fn, tmps := a.tmps, params := ps, assign := assign, body := body, defers := w.heap.size } : Loop) = r
  have hstate : r.state = .ready := by rw [← hr]
  have hpend : r.pending = none := by rw [← hr]
  have hne : w.heap.size + 1 ≠ w.heap.size := by omega
  have hW : ∃ W1 : World, W1 = (w.alloc (.deferred (some []))).alloc (.loop r) := ⟨_, rfl⟩
  obtain ⟨W1, hW1⟩ := hW
  have hsz : W1.heap.size = w.heap.size + 2 := by rw [hW1]; simp
  have hL : Lp (w.heap.size + 1) w.heap.size r W1 := by
    rw [hW1]
    refine ⟨?_, (Below.heap_alloc _ _ _ (by simp)).trans (World.alloc_heap_new w _)⟩
    have := World.alloc_heap_new (w.alloc (.deferred (some []))) (.loop r)
    rwa [World.size_alloc] at this
  have hI1 : I [] W1 := by rw [hW1]; exact hI.alloc _ (hI.alloc _ h0)
  refine ⟨w.heap.size + 1, [{ target := .collected w.heap.size, args := #[] }], W1, { target := .fn (.func gf) lb, args := #[.func (.yield (w.heap.size + 1)) #[] #[]] }, W1, gf, #[.func (.yield (w.heap.size + 1)) #[] #[]] ++ lb, W1, ?_, ?_, fun _ _ => trivial, ?_, fun _ => h1, ?_⟩
  · rw [hW1, ← hr]
    exact run_enterLoop_outer _ _ _ _ _
  · simp only [resolve, hg]
    simp [go_sem]
  · simp [invoke, go_sem, eg]
  · refine (hseq (w.heap.size + 1) (Lp (w.heap.size + 1) w.heap.size r) W1 (fun A A' h k => h.keep k) (by omega) hI1 hL ?_).mono ?_
    · intro pre x W hy hl
      have hyr := run_yield (P := P) (args := encs x) hl.1 (by rw [← hr]; exact hps x)
      have hb := hl.turn hne { r with state := .busy }
      have hyb : Y pre x (W.putObj (w.heap.size + 1) (.loop { r with state := .busy })) := (hY x).putObj _ hy (by omega) hl.1 rfl
      have e2 : r.fn = fn ∧ r.assign = assign ∧ r.body = body ∧ r.params = ps ∧ r.tmps = a.tmps := by rw [← hr]; exact ⟨rfl, rfl, rfl, rfl, rfl⟩
      obtain ⟨e3, e4, e5, e6, e7⟩ := e2
      rw [e3, e4, e5, e6, e7] at hyr
      refine ⟨fn, _, assign, body, hyr, roundIn_of_wpIn hfn (hassign _ x W _ ⟨_, run_beginRound hl.1 hstate, ?_⟩)⟩
      refine wpIn_mono (hbody _ pre x _ hyb) ?_
      intro e a3 W3 hp
      cases e with
      | normal =>
        obtain ⟨hk, hi3⟩ := hp
        have hl3 := hb.keep hk
        have hend := run_endRound (P := P) none hl3.1
        have e8 : ({ { r with state := .busy } with state := if (none : Option Code).isNone then .ready else .done, pending := none } : Loop) = r := by rw [← hr]; rfl
        rw [e8] at hend
        exact ⟨_, _, hend, rfl, hI.putObj _ hi3 (by omega) hl3.1 rfl, hl3.turn hne r⟩
      | ret => exact hp.elim
      | exit id => exact hp.elim
      | goto t => exact hp.elim
      | panic ch => exact hp.elim
      | outgrown => exact hp.elim
    · rintro e W2 ⟨⟨v, rfl⟩, xs, hS, hi, hl⟩
      have hend := run_endLoop (P := P) hl.1 (by rw [hstate]; simp)
      rw [hpend] at hend
      exact ⟨none, _, hend, hdone _ xs _ (Nat.le_refl _) hS (hI.putObj _ hi (by omega) hl.1 rfl) ((World.putObj_heap_other (fun e => hne e.symm)).trans hl.2)⟩
end Go.Proofs.Ytlefjlclhmapaaa
