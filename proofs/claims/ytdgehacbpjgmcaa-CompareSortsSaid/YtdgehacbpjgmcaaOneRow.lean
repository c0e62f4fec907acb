/-
  One arena beside blocks: a call that returns a new row.
-/
import Derived.Test.YtdgehacbpjgmcaaWk
import Derived.Test.YtdgehacbpjgmcaaMake
import Derived.Test.YtdgehacbpjgmcaaTwin
namespace Go.Proofs.Ytdgehacbpjgmcaa
open Go.RowKit
set_option linter.unusedVariables false
section
variable {w0 w : World} {bs : Bks} {p : Nat} {C C' : List (BitVec 64)} {E E' : List Ev}
theorem One.row {P : Program} {f : FuncId} {xs : Array Value} {t : TypeId} {cs : Array Value} {ret : Nat → Ending} (h : One w0 w bs p C E)
    (hc : ∀ F, Ar w F p C E → Calls P f xs w fun e w' => ∃ g, e = ret g ∧ Wk w F w' [(g, t, cs)] p C' E') : Calls P f xs w fun e w' => ∃ g, e = ret g ∧ One w0 w' ((g, t, cs) :: bs) p C' E' := by
  obtain ⟨F, ha, ho, hf, hb⟩ := h
  refine (hc F ha).mono fun e w' ⟨g, he, F1, a1, a2, a3, a4, a5, a6⟩ => ⟨g, he, F1, a1, ho.own a3 hf, fun k hk => ?_, fun x hx => ?_⟩
  · rcases a2 k hk with h1 | h1
    · exact hf k h1
    · exact Nat.le_trans ho.size h1
  · rcases List.mem_cons.1 hx with rfl | hx
    · obtain ⟨b1, b2, _⟩ := a5 _ (List.mem_singleton.2 rfl)
      exact ⟨b1, b2⟩
    · obtain ⟨b1, b2⟩ := hb x hx
      refine ⟨b1.to (a3.block _ b1.lt b2), fun hk => ?_⟩
      rcases a2 _ hk with h1 | h1
      · exact b2 h1
      · exact absurd b1.lt (by omega)
theorem One.offR (h : One w0 w bs p C E) {w' : World} (o : Off Nob w w') : One w0 w' bs p C E := by
  obtain ⟨F, ha, ho, hf, hb⟩ := h
  exact ⟨F, ha.keep o (fun _ _ hn => hn), ho.also o, hf, fun x hx => ⟨(hb x hx).1.to (o.block _ (hb x hx).1.lt (fun h => h)), (hb x hx).2⟩⟩
theorem One.oldR (h : One w0 w bs p C E) : Off Nob w0 w := by obtain ⟨F, ha, ho, hf, hb⟩ := h; exact ho
theorem One.callF (h : One w0 w bs p C E) {P : Program} {f : FuncId} {xs : Array Value} {e0 : Ending} {C2 : List (BitVec 64)} {E2 : List Ev}
    (hc : ∀ F, Ar w F p C E → (∀ k, F k → w0.heap.size ≤ k) → Off Nob w0 w → Calls P f xs w fun e w' => e = e0 ∧ ArTo w F p C2 E2 w') : Calls P f xs w fun e w' => e = e0 ∧ One w0 w' bs p C2 E2 := by
  obtain ⟨F, ha, ho, hf, hb⟩ := h
  refine (hc F ha hf ho).mono fun e w' ⟨he, a3, o3⟩ => ⟨he, _, a3, ho.own o3 hf, Grow.from_ hf ho.size, fun x hx => ?_⟩
  obtain ⟨g1, g2⟩ := hb x hx
  exact ⟨g1.to (o3.block _ g1.lt g2), fun h => h.elim g2 (fun h => by have := g1.lt; omega)⟩
theorem Have.one (h : Have w0 w p C E) : One w0 w [] p C E := by
  obtain ⟨F, h1, h2, h3⟩ := h
  exact ⟨F, h1, h2, h3, fun x hx => by cases hx⟩
end
end Go.Proofs.Ytdgehacbpjgmcaa
