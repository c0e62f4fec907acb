/-
  Two arenas side by side, one of them the specification's.
-/
import Derived.Test.YtlefjlclhmapaaaMake
import Derived.Test.YtlefjlclhmapaaaSame
namespace Go.Proofs.Ytlefjlclhmapaaa
open Go.RowKit
set_option maxRecDepth 100000
/-- Two arenas, the second one the specification's, made behind w0, which lie apart. -/
def Half (w0 w : World) (p r : Nat) (C : List (BitVec 64)) (E : List Ev) (C' : List (BitVec 64)) (E' : List Ev) : Prop :=
  ∃ F R, Ar w F p C E ∧ Rf w R r C' E' ∧ Off Nob w0 w ∧ (∀ k, F k → w0.heap.size ≤ k) ∧ (∀ k, R k → w0.heap.size ≤ k) ∧ ∀ k, F k → ¬ R k
/-- Both have the same cells and steps. -/
def Both (w0 w : World) (p r : Nat) (C : List (BitVec 64)) (E : List Ev) : Prop := Half w0 w p r C E C E
section
variable {w0 w w' : World} {p r : Nat} {C C' : List (BitVec 64)} {E E' : List Ev}
theorem Half.ar (h : Half w0 w p r C E C' E') : ∃ F, Ar w F p C E ∧ ∀ C2 E2 w', ArTo w F p C2 E2 w' → Half w0 w' p r C2 E2 C' E' := by
  obtain ⟨F, R, ha, hr, ho, hf, hg, hd⟩ := h
  refine ⟨F, ha, fun C2 E2 w' h3 => ?_⟩
  obtain ⟨a3, o3⟩ := h3
  have hd3 : ∀ k, R k → ¬ Grow F w w' k := Grow.apart (fun k hk hn => hd k hn hk) hr.lt
  exact ⟨_, _, a3, hr.keep o3 (fun k hk hn => hd k hn hk), ho.own o3 hf, Grow.from_ hf ho.size, hg, fun k hk hn => hd3 k hn hk⟩
theorem Half.rf (h : Half w0 w p r C E C' E') : ∃ R, Rf w R r C' E' ∧ ∀ C2 E2 w', RfTo w R r C2 E2 w' → Half w0 w' p r C E C2 E2 := by
  obtain ⟨F, R, ha, hr, ho, hf, hg, hd⟩ := h
  refine ⟨R, hr, fun C2 E2 w' h3 => ?_⟩
  obtain ⟨r4, o4⟩ := h3
  exact ⟨F, _, ha.keep o4 hd, r4, ho.own o4 hg, hf, Grow.from_ hg ho.size, Grow.apart hd ha.lt⟩
theorem Half.off (h : Half w0 w p r C E C' E') (o : Off Nob w w') : Half w0 w' p r C E C' E' := by
  obtain ⟨F, R, ha, hr, ho, hf, hg, hd⟩ := h
  exact ⟨F, R, ha.keep o (fun _ _ hn => hn), hr.keep o (fun _ _ hn => hn), ho.also o, hf, hg, hd⟩
theorem Half.old (h : Half w0 w p r C E C' E') : Off Nob w0 w := by
  obtain ⟨F, R, ha, hr, ho, hf, hg, hd⟩ := h
  exact ho
theorem Both.off (h : Both w0 w p r C E) (o : Off Nob w w') : Both w0 w' p r C E := Half.off h o
theorem Both.old (h : Both w0 w p r C E) : Off Nob w0 w := Half.old h
theorem Made.both {e : Ending} (h : Made w C e w') : ∃ p r, e = .returned (.tuple #[.pointer (some ⟨p, 0, none⟩), .pointer (some ⟨r, 0, none⟩)]) ∧ Both w w' p r (pad C) (stores C.length) := by
  obtain ⟨p, r, F, R, he, h1, h2, h3, h4, h5, h6⟩ := h
  exact ⟨p, r, he, F, R, h1, h2, h3, h4, h5, h6⟩
theorem Both.same (h : Both w0 w p r C E) : Calls Try.prog 33 #[.pointer (some ⟨p, 0, none⟩), .pointer (some ⟨r, 0, none⟩)] w (BoolNew true w) := by
  obtain ⟨F, R, ha, hr, _⟩ := h
  exact same_ok ha hr
/-- A call of the first, then one of the second. -/
theorem Both.first (h : Both w0 w p r C E) {P : Program} {f : FuncId} {xs : Array Value} {Q : List (BitVec 64) → List Ev → Ending → Prop}
    (hc : ∀ F, Ar w F p C E → Calls P f xs w fun e w' => ∃ C2 E2, Q C2 E2 e ∧ ArTo w F p C2 E2 w') : Calls P f xs w fun e w' => ∃ C2 E2, Q C2 E2 e ∧ Half w0 w' p r C2 E2 C E := by
  obtain ⟨F, ha, hk⟩ := Half.ar h
  exact (hc F ha).mono fun e w' ⟨C2, E2, h1, h2⟩ => ⟨C2, E2, h1, hk _ _ _ h2⟩
end
end Go.Proofs.Ytlefjlclhmapaaa
