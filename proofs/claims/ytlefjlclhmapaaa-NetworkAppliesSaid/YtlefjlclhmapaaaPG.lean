/-
  Two arenas, one of them the specification's, beside blocks that stay: whatever reads in them reads on.
-/
import Derived.Test.YtlefjlclhmapaaaPair
import Derived.Test.YtlefjlclhmapaaaWk
namespace Go.Proofs.Ytlefjlclhmapaaa
open Go.RowKit
set_option linter.unusedVariables false
set_option maxRecDepth 100000
/-- Two arenas, made behind w0, which lie apart, and apart from the blocks in G. -/
def PG (w0 w : World) (G : Nat → Prop) (p r : Nat) (C : List (BitVec 64)) (E : List Ev) (C' : List (BitVec 64)) (E' : List Ev) : Prop :=
  ∃ F R, Ar w F p C E ∧ Rf w R r C' E' ∧ Off Nob w0 w ∧ (∀ k, F k → w0.heap.size ≤ k) ∧ (∀ k, R k → w0.heap.size ≤ k) ∧ (∀ k, F k → ¬ R k) ∧ ∀ k, G k → k < w.heap.size ∧ ¬ F k ∧ ¬ R k
/-- What stays. -/
def Not_ (G : Nat → Prop) : Nat → Prop := fun k => ¬ G k
theorem Off.keepG {G : Nat → Prop} {w w' : World} (o : Off (Not_ G) w w') {k : Nat} (hk : k < w.heap.size) (hg : G k) : w'.heap[k]? = w.heap[k]? := o.block k hk (fun hn => hn hg)
theorem Blk.keepG {G : Nat → Prop} {w w' : World} {b : Nat} {t : TypeId} {cs : Array Value} (h : Blk w b t cs) (o : Off (Not_ G) w w') (hg : G b) : Blk w' b t cs := h.to (o.keepG h.lt hg)
theorem Rd.keepG {G : Nat → Prop} {w w' : World} {sz n : Nat} {v : Value} {xs : List Value} (h : Rd w G sz v n xs) (o : Off (Not_ G) w w') : Rd w' G sz v n xs := h.keep o (fun k hk hn => hn hk)
section
variable {w0 w w' : World} {G : Nat → Prop} {p r : Nat} {C C' C2 : List (BitVec 64)} {E E' E2 : List Ev} {b : Nat} {t : TypeId} {cs : Array Value}
theorem PG.half (h : PG w0 w G p r C E C' E') : Half w0 w p r C E C' E' := by
  obtain ⟨F, R, ha, hr, ho, hf, hg, hd, _⟩ := h
  exact ⟨F, R, ha, hr, ho, hf, hg, hd⟩
theorem PG.pair (h : PG w0 w G p r C E C' E') (hb : Blk w b t cs) (hg : G b) : Pair w0 w b t cs p r C E C' E' := by
  obtain ⟨F, R, ha, hr, ho, hf, hg2, hd, hG⟩ := h
  obtain ⟨_, h1, h2⟩ := hG b hg
  exact ⟨F, R, ha, hr, ho, hf, hg2, hd, hb, h1, h2⟩
theorem Pair.pg (h : Pair w0 w b t cs p r C E C' E') : PG w0 w (fun k => k = b) p r C E C' E' := by
  obtain ⟨F, R, ha, hr, ho, hf, hg, hd, hb, n1, n2⟩ := h
  exact ⟨F, R, ha, hr, ho, hf, hg, hd, fun k hk => by rw [hk]; exact ⟨hb.lt, n1, n2⟩⟩
theorem Pair.blk (h : Pair w0 w b t cs p r C E C' E') : Blk w b t cs := by
  obtain ⟨F, R, ha, hr, ho, hf, hg, hd, hb, n1, n2⟩ := h
  exact hb
theorem Pair.old (h : Pair w0 w b t cs p r C E C' E') : Off Nob w0 w := h.half.old
theorem PG.off (h : PG w0 w G p r C E C' E') (o : Off Nob w w') : PG w0 w' G p r C E C' E' := by
  obtain ⟨F, R, ha, hr, ho, hf, hg, hd, hG⟩ := h
  exact ⟨F, R, ha.keep o (fun _ _ hn => hn), hr.keep o (fun _ _ hn => hn), ho.also o, hf, hg, hd, fun k hk => ⟨Nat.lt_of_lt_of_le (hG k hk).1 o.size, (hG k hk).2⟩⟩
/-- New blocks stay, too. -/
theorem PG.more (h : PG w0 w G p r C E C' E') (o : Off Nob w w') {H : Nat → Prop} (hH : ∀ k, H k → G k ∨ (w.heap.size ≤ k ∧ k < w'.heap.size)) : PG w0 w' H p r C E C' E' := by
  obtain ⟨F, R, ha, hr, ho, hf, hg, hd, hG⟩ := h
  refine ⟨F, R, ha.keep o (fun _ _ hn => hn), hr.keep o (fun _ _ hn => hn), ho.also o, hf, hg, hd, fun k hk => ?_⟩
  rcases hH k hk with h1 | ⟨h1, h2⟩
  · exact ⟨Nat.lt_of_lt_of_le (hG k h1).1 o.size, (hG k h1).2⟩
  · exact ⟨h2, fun h => by have := ha.lt k h; omega, fun h => by have := hr.lt k h; omega⟩
theorem PG.first (h : PG w0 w G p r C E C' E') {P : Program} {f : FuncId} {xs : Array Value} {e0 : Ending}
    (hc : ∀ w F, Ar w F p C E → Calls P f xs w fun e w' => e = e0 ∧ ArTo w F p C2 E2 w') : Calls P f xs w fun e w' => e = e0 ∧ PG w0 w' G p r C2 E2 C' E' ∧ Off (Not_ G) w w' := by
  obtain ⟨F, R, ha, hr, ho, hf, hg, hd, hG⟩ := h
  refine (hc w F ha).mono fun e w' ⟨he, a3, o3⟩ => ⟨he, ?_, o3.mono fun k hk hf hG2 => (hG k hG2).2.1 hf⟩
  have hd3 : ∀ k, R k → ¬ Grow F w w' k := Grow.apart (fun k hk hn => hd k hn hk) hr.lt
  exact ⟨_, _, a3, hr.keep o3 (fun k hk hn => hd k hn hk), ho.own o3 hf, Grow.from_ hf ho.size, hg, fun k hk hn => hd3 k hn hk, fun k hk => ⟨Nat.lt_of_lt_of_le (hG k hk).1 o3.size, fun h => h.elim (hG k hk).2.1 (fun h => by have := (hG k hk).1; omega), (hG k hk).2.2⟩⟩
theorem PG.second (h : PG w0 w G p r C E C' E') {P : Program} {f : FuncId} {xs : Array Value} {e0 : Ending}
    (hc : ∀ w F, Rf w F r C' E' → Calls P f xs w fun e w' => e = e0 ∧ RfTo w F r C2 E2 w') : Calls P f xs w fun e w' => e = e0 ∧ PG w0 w' G p r C E C2 E2 ∧ Off (Not_ G) w w' := by
  obtain ⟨F, R, ha, hr, ho, hf, hg, hd, hG⟩ := h
  refine (hc w R hr).mono fun e w' ⟨he, a3, o3⟩ => ⟨he, ?_, o3.mono fun k hk hf hG2 => (hG k hG2).2.2 hf⟩
  exact ⟨F, _, ha.keep o3 hd, a3, ho.own o3 hg, hf, Grow.from_ hg ho.size, Grow.apart hd ha.lt, fun k hk => ⟨Nat.lt_of_lt_of_le (hG k hk).1 o3.size, (hG k hk).2.1, fun h => h.elim (hG k hk).2.2 (fun h => by have := (hG k hk).1; omega)⟩⟩
/-- The first call returns a block of its own. -/
theorem PG.firstRow (h : PG w0 w G p r C E C' E') {P : Program} {f : FuncId} {xs : Array Value} {ret : Nat → Ending} {t : TypeId} {cs : Array Value}
    (hc : ∀ w F, Ar w F p C E → Calls P f xs w fun e w' => ∃ g, e = ret g ∧ Wk w F w' [(g, t, cs)] p C2 E2) : Calls P f xs w fun e w' => ∃ g, e = ret g ∧ PG w0 w' (fun k => G k ∨ k = g) p r C2 E2 C' E' ∧ Blk w' g t cs ∧ Off (Not_ G) w w' := by
  obtain ⟨F, R, ha, hr, ho, hf, hg, hd, hG⟩ := h
  refine (hc w F ha).mono fun e w' ⟨g, he, F1, a1, a2, a3, a4, a5, a6⟩ => ?_
  obtain ⟨b1, b2, b3⟩ := a5 _ (List.mem_singleton.2 rfl)
  refine ⟨g, he, ⟨F1, R, a1, hr.keep a3 (fun k hk hn => hd k hn hk), ho.own a3 hf, fun k hk => ?_, hg, fun k hk hn => ?_, fun k hk => ?_⟩, b1, a3.mono fun k hk hf hG2 => (hG k hG2).2.1 hf⟩
  · rcases a2 k hk with h1 | h1
    · exact hf k h1
    · exact Nat.le_trans ho.size h1
  · rcases a2 k hk with h1 | h1
    · exact hd k h1 hn
    · have := hr.lt k hn; omega
  · rcases hk with hk | hk
    · obtain ⟨c1, c2, c3⟩ := hG k hk
      refine ⟨Nat.lt_of_lt_of_le c1 a3.size, fun h => ?_, c3⟩
      rcases a2 k h with h1 | h1
      · exact c2 h1
      · omega
    · rw [hk]
      exact ⟨b1.lt, b2, fun h => by have := hr.lt _ h; have : w.heap.size ≤ g := b3; omega⟩
/-- The second call returns a list that lies apart. -/
theorem PG.secondList (h : PG w0 w G p r C E C' E') {P : Program} {f : FuncId} {xs : Array Value} {ret : Value → Ending} {sz n : Nat} {ys : List Value}
    (hc : ∀ w F, Rf w F r C' E' → Calls P f xs w fun e w' => ∃ v F1, e = ret v ∧ Rf w' F1 r C2 E2 ∧ (∀ j, F1 j → Grow F w w' j) ∧ Off F w w' ∧ Rd w' (fun k => w.heap.size ≤ k ∧ ¬ F1 k) sz v n ys) :
    Calls P f xs w fun e w' => ∃ v H, e = ret v ∧ PG w0 w' (fun k => G k ∨ H k) p r C E C2 E2 ∧ Rd w' H sz v n ys ∧ Off (Not_ G) w w' := by
  obtain ⟨F, R, ha, hr, ho, hf, hg, hd, hG⟩ := h
  refine (hc w R hr).mono fun e w' ⟨v, F1, he, a1, a2, a3, a4⟩ => ?_
  refine ⟨v, fun k => w.heap.size ≤ k ∧ k < w'.heap.size ∧ ¬ F1 k, he, ⟨F, F1, ha.keep a3 hd, a1, ho.own a3 hg, hf, fun k hk => ?_, fun k hk hn => ?_, fun k hk => ?_⟩, ?_, a3.mono fun k hk hf hG2 => (hG k hG2).2.2 hf⟩
  · rcases a2 k hk with h1 | h1
    · exact hg k h1
    · exact Nat.le_trans ho.size h1.1
  · rcases a2 k hn with h1 | h1
    · exact hd k hk h1
    · have := ha.lt k hk; omega
  · rcases hk with hk | hk
    · obtain ⟨c1, c2, c3⟩ := hG k hk
      refine ⟨Nat.lt_of_lt_of_le c1 a3.size, c2, fun h => ?_⟩
      rcases a2 k h with h1 | h1
      · exact c3 h1
      · omega
    · exact ⟨hk.2.1, fun h => by have := ha.lt _ h; omega, hk.2.2⟩
  · obtain ⟨A, c, rfl, hm, hl, hx⟩ := a4
    refine ⟨A, c, rfl, hm, hl, fun hn => ?_⟩
    obtain ⟨b, o, rfl, hf1, hb, hy⟩ := hx hn
    exact ⟨b, o, rfl, ⟨hf1.1, hb, hf1.2⟩, hb, hy⟩
end
/-- Two arenas, beside a block and a list. -/
def PR (w0 w : World) (b : Nat) (t : TypeId) (cs : Array Value) (sz : Nat) (v : Value) (n : Nat) (xs : List Value) (p r : Nat) (C : List (BitVec 64)) (E : List Ev) (C' : List (BitVec 64)) (E' : List Ev) : Prop :=
  ∃ G, PG w0 w G p r C E C' E' ∧ Blk w b t cs ∧ G b ∧ Rd w G sz v n xs
section
variable {w0 w w' : World} {p r : Nat} {C C' C2 : List (BitVec 64)} {E E' E2 : List Ev} {b : Nat} {t : TypeId} {cs : Array Value} {sz n : Nat} {v : Value} {xs : List Value}
theorem PR.off (h : PR w0 w b t cs sz v n xs p r C E C' E') (o : Off Nob w w') : PR w0 w' b t cs sz v n xs p r C E C' E' := by
  obtain ⟨G, h1, h2, h3, h4⟩ := h
  exact ⟨G, h1.off o, h2.to (o.block _ h2.lt (fun h => h)), h3, h4.keep o (fun _ _ h => h)⟩
theorem PR.blk (h : PR w0 w b t cs sz v n xs p r C E C' E') : Blk w b t cs := by obtain ⟨G, h1, h2, h3, h4⟩ := h; exact h2
theorem PR.rd (h : PR w0 w b t cs sz v n xs p r C E C' E') : ∃ G, Rd w G sz v n xs := by obtain ⟨G, h1, h2, h3, h4⟩ := h; exact ⟨G, h4⟩
theorem PR.half (h : PR w0 w b t cs sz v n xs p r C E C' E') : Half w0 w p r C E C' E' := by obtain ⟨G, h1, h2, h3, h4⟩ := h; exact h1.half
theorem PR.pair (h : PR w0 w b t cs sz v n xs p r C E C' E') : Pair w0 w b t cs p r C E C' E' := by obtain ⟨G, h1, h2, h3, h4⟩ := h; exact h1.pair h2 h3
theorem PR.first (h : PR w0 w b t cs sz v n xs p r C E C' E') {P : Program} {f : FuncId} {ys : Array Value} {e0 : Ending}
    (hc : ∀ w F G, Ar w F p C E → Rd w G sz v n xs → (∀ k, G k → ¬ F k) → Calls P f ys w fun e w' => e = e0 ∧ ArTo w F p C2 E2 w') : Calls P f ys w fun e w' => e = e0 ∧ PR w0 w' b t cs sz v n xs p r C2 E2 C' E' := by
  obtain ⟨G, h1, h2, h3, h4⟩ := h
  obtain ⟨F, R, ha, hr, ho, hf, hg, hd, hG⟩ := h1
  refine (hc w F G ha h4 (fun k hk => (hG k hk).2.1)).mono fun e w' ⟨he, a3, o3⟩ => ⟨he, G, ?_, ?_⟩
  · have hd3 : ∀ k, R k → ¬ Grow F w w' k := Grow.apart (fun k hk hn => hd k hn hk) hr.lt
    exact ⟨_, _, a3, hr.keep o3 (fun k hk hn => hd k hn hk), ho.own o3 hf, Grow.from_ hf ho.size, hg, fun k hk hn => hd3 k hn hk, fun k hk => ⟨Nat.lt_of_lt_of_le (hG k hk).1 o3.size, fun h => h.elim (hG k hk).2.1 (fun h => by have := (hG k hk).1; omega), (hG k hk).2.2⟩⟩
  · exact ⟨h2.to (o3.block _ h2.lt (hG b h3).2.1), h3, h4.keep o3 (fun k hk => (hG k hk).2.1)⟩
theorem PR.second (h : PR w0 w b t cs sz v n xs p r C E C' E') {P : Program} {f : FuncId} {ys : Array Value} {e0 : Ending}
    (hc : ∀ w F G, Rf w F r C' E' → Rd w G sz v n xs → (∀ k, G k → ¬ F k) → Calls P f ys w fun e w' => e = e0 ∧ RfTo w F r C2 E2 w') : Calls P f ys w fun e w' => e = e0 ∧ PR w0 w' b t cs sz v n xs p r C E C2 E2 := by
  obtain ⟨G, h1, h2, h3, h4⟩ := h
  obtain ⟨F, R, ha, hr, ho, hf, hg, hd, hG⟩ := h1
  refine (hc w R G hr h4 (fun k hk => (hG k hk).2.2)).mono fun e w' ⟨he, a3, o3⟩ => ⟨he, G, ?_, ?_⟩
  · exact ⟨F, _, ha.keep o3 hd, a3, ho.own o3 hg, hf, Grow.from_ hg ho.size, Grow.apart hd ha.lt, fun k hk => ⟨Nat.lt_of_lt_of_le (hG k hk).1 o3.size, (hG k hk).2.1, fun h => h.elim (hG k hk).2.2 (fun h => by have := (hG k hk).1; omega)⟩⟩
  · exact ⟨h2.to (o3.block _ h2.lt (hG b h3).2.2), h3, h4.keep o3 (fun k hk => (hG k hk).2.2)⟩
/-- A list made new beside a block. -/
theorem Pair.pr (h : Pair w0 w b t cs p r C E C' E') (o : Off Nob w w') (hr : Rd w' (fun k => w.heap.size ≤ k ∧ k < w'.heap.size) sz v n xs) : PR w0 w' b t cs sz v n xs p r C E C' E' :=
  ⟨fun k => k = b ∨ (w.heap.size ≤ k ∧ k < w'.heap.size), h.pg.more o (fun k hk => hk), h.blk.to (o.block _ h.blk.lt (fun h => h)), .inl rfl, hr.mono (fun k hk => .inr hk)⟩
end
end Go.Proofs.Ytlefjlclhmapaaa
