/-
  An arena beside a block, a list of hits that grows, and blocks that stay.
-/
import Derived.Test.YtonkhgmfeakbcaaSlHit
import Derived.Test.YtonkhgmfeakbcaaOneRow
namespace Go.Proofs.Ytonkhgmfeakbcaa
open Go.RowKit
set_option linter.unusedVariables false
def BX (w0 w : World) (b : Nat) (t : TypeId) (cs : Array Value) (p : Nat) (C : List (BitVec 64)) (E : List Ev) (v : Value) (H : List Hi) (G : Nat → Prop) : Prop :=
  ∃ F, Ar w F p C E ∧ Off Nob w0 w ∧ (∀ k, F k → w0.heap.size ≤ k) ∧ (Blk w b t cs ∧ ¬ F b ∧ w0.heap.size ≤ b) ∧ w.ownsRow w0.heap.size 50 2 v H.length (hiC H) ∧ (∀ g, v.ownBlock = some g → ¬ F g ∧ g ≠ b) ∧ ∀ g, G g → g < w.heap.size ∧ ¬ F g ∧ g ≠ b ∧ v.ownBlock ≠ some g
section
variable {w0 w w' : World} {b p : Nat} {t : TypeId} {cs : Array Value} {C C2 : List (BitVec 64)} {E E2 : List Ev} {v v' : Value} {H : List Hi} {G : Nat → Prop}
theorem BX.old (h : BX w0 w b t cs p C E v H G) : Off Nob w0 w := by obtain ⟨F, h1, h2, _⟩ := h; exact h2
theorem BX.ar (h : BX w0 w b t cs p C E v H G) : ∃ F, Ar w F p C E := by obtain ⟨F, h1, _⟩ := h; exact ⟨F, h1⟩
theorem BX.blk (h : BX w0 w b t cs p C E v H G) : Blk w b t cs := by obtain ⟨F, h1, h2, h3, h4, _⟩ := h; exact h4.1
theorem BX.own (h : BX w0 w b t cs p C E v H G) : w.ownsRow w0.heap.size 50 2 v H.length (hiC H) := by obtain ⟨F, h1, h2, h3, h4, h5, _⟩ := h; exact h5
theorem BX.form (h : BX w0 w b t cs p C E v H G) : (v = .slice none 0 0 ∧ H = []) ∨ ∃ g c, v = .slice (some ⟨g, 0, none⟩) H.length c ∧ H.length ≤ c ∧ g < w.heap.size ∧ ∀ j u, (hiC H)[j]? = some u → w.cell? ⟨g, j, none⟩ = some u := by
  have ho := h.own
  rcases ho.2 with ⟨rfl, h0⟩ | ⟨g, c, cur, rfl, h1, h2, h3, h4, h5, h6⟩
  · exact .inl ⟨rfl, List.eq_nil_of_length_eq_zero h0⟩
  · refine .inr ⟨g, c, rfl, h3, (ho.lt g rfl).2, fun j u hu => ?_⟩
    have := ho.cells (g := g) rfl j u hu
    rwa [add_addr, Nat.zero_add] at this
theorem BX.off (h : BX w0 w b t cs p C E v H G) (o : Off Nob w w') : BX w0 w' b t cs p C E v H G := by
  obtain ⟨F, h1, h2, h3, ⟨h4, h5, h6⟩, h7, h8, h9⟩ := h
  exact ⟨F, h1.keep o (fun _ _ hn => hn), h2.also o, h3, ⟨h4.to (o.block _ h4.lt (fun h => h)), h5, h6⟩, own_to h7 (fun g hg => o.block g (h7.lt g hg).2 (fun h => h)), h8, fun g hg => ⟨Nat.lt_of_lt_of_le (h9 g hg).1 o.size, (h9 g hg).2⟩⟩
theorem BX.less (h : BX w0 w b t cs p C E v H G) : BX w0 w b t cs p C E v H Nob := by
  obtain ⟨F, h1, h2, h3, h4, h7, h8, h9⟩ := h
  exact ⟨F, h1, h2, h3, h4, h7, h8, fun g hg => hg.elim⟩
theorem BX.start {L : List (BitVec 64)} (h : One w0 w [(b, t, cs)] p L E) (hb : w0.heap.size ≤ b) : BX w0 w b t cs p L E (.slice none 0 0) [] Nob := by
  obtain ⟨F, h1, h2, h3, h4⟩ := h
  obtain ⟨h5, h6⟩ := h4 _ (List.mem_cons_self)
  exact ⟨F, h1, h2, h3, ⟨h5, h6, hb⟩, World.ownsRow_nil _ _ _ _, fun g hg => by simp [Value.ownBlock] at hg, fun g hg => hg.elim⟩
/-- A new block. -/
theorem BX.fresh (h : BX w0 w b t cs p C E v H Nob) (hg : w.grownBy w' none) (hs : w.heap.size < w'.heap.size) : BX w0 w' b t cs p C E v H (fun k => k = w.heap.size) := by
  have o : Off Nob w w' := Off.grown (Off.refl _ _) hg (fun k hk => by cases hk)
  obtain ⟨F, h1, h2, h3, ⟨h4, h5, h6⟩, h7, h8, h9⟩ := h.off o
  obtain ⟨F0, k1, k2, k3, ⟨k4, k5, k6⟩, k7, k8, k9⟩ := h
  have o2 := o
  refine ⟨F0, k1.keep o (fun _ _ hn => hn), h2, k3, ⟨h4, k5, h6⟩, h7, k8, fun g hg => ?_⟩
  subst hg
  refine ⟨hs, fun hf => by have := k1.lt _ hf; omega, fun e => by have := k4.lt; omega, fun e => by have := (k7.lt _ e).2; omega⟩
/-- A store into one of the blocks that stay. -/
theorem BX.put (h : BX w0 w b t cs p C E v H G) {g : Nat} (hg : G g) (h0 : w0.heap.size ≤ g) (i : Nat) (u : Value) : BX w0 (w.setCell ⟨g, i, none⟩ u) b t cs p C E v H G := by
  obtain ⟨F, h1, h2, h3, ⟨h4, h5, h6⟩, h7, h8, h9⟩ := h
  obtain ⟨g1, g2, g3, g4⟩ := h9 g hg
  have off : Off (fun k => k = g) w (w.setCell ⟨g, i, none⟩ u) := Off.put (F := fun k => k = g) (p := ⟨g, i, none⟩) (Off.refl _ _) (Or.inl (Eq.refl g)) u
  exact ⟨F, h1.keep off (fun k hk hn => g2 (by have e : k = g := hn; rw [← e]; exact hk)), h2.own off (fun k hk => by rw [hk]; exact h0), h3, ⟨h4.to (off.block _ h4.lt (fun e => g3 (Eq.symm e))), h5, h6⟩, own_to h7 (fun q hq => off.block q (h7.lt q hq).2 (fun e => g4 (by rw [hq, e]))), h8, fun q hq => ⟨Nat.lt_of_lt_of_le (h9 q hq).1 off.size, (h9 q hq).2⟩⟩
/-- The list grows. -/
theorem BX.more {W W2 : World} {x : Hi} (h : BX w0 w b t cs p C E v H G) (o : Off Nob w W) (h2 : W2.ownsRow w0.heap.size 50 2 v' (H.length + 1) (hiC H ++ [.int .i64 x.1, .int .i64 x.2])) (hg : W.grownBy W2 v.ownBlock) (hat : v'.ownBlock = v.ownBlock ∨ v'.ownBlock = some W.heap.size) : BX w0 W2 b t cs p C E v' (H ++ [x]) G ∧ ∀ k, G k → W2.heap[k]? = w.heap[k]? := by
  obtain ⟨F, k1, k2, k3, ⟨k4, k5, k6⟩, k7, k8, k9⟩ := h.off o
  have off : Off (fun k => v.ownBlock = some k) W W2 := Off.grown (Off.refl _ _) hg (fun k hk => .inl hk)
  have hn : ∀ g, v'.ownBlock = some g → v.ownBlock = some g ∨ g = W.heap.size := fun g hq => by
    rcases hat with e | e
    · exact .inl (by rw [← e]; exact hq)
    · rw [e] at hq; injection hq with hq; exact .inr hq.symm
  refine ⟨⟨F, k1.keep off (fun k hk hv => (k8 k hv).1 hk), k2.own off (fun k hk => (k7.lt k hk).1), k3, ⟨k4.to (off.block _ k4.lt (fun e => (k8 b e).2 rfl)), k5, k6⟩, by rw [List.length_append, hiC_snoc]; exact h2, fun g hq => ?_, fun g hq => ?_⟩, fun k hk => ?_⟩
  · rcases hn g hq with e | e
    · exact k8 g e
    · exact ⟨fun hf => by have := k1.lt _ hf; omega, fun e2 => by have := k4.lt; omega⟩
  · obtain ⟨g1, g2, g3, g4⟩ := k9 g hq
    refine ⟨Nat.lt_of_lt_of_le g1 off.size, g2, g3, fun e => ?_⟩
    rcases hn g e with e2 | e2
    · exact g4 e2
    · omega
  · obtain ⟨g1, g2, g3, g4⟩ := k9 k hk
    obtain ⟨F0, j1, j2, j3, j4, j7, j8, j9⟩ := h
    rw [off.block k g1 (fun e => g4 e)]
    exact o.block k (j9 k hk).1 (fun h => h)
theorem BX.callF (h : BX w0 w b t cs p C E v H G) {P : Program} {f : FuncId} {xs : Array Value} {e0 : Ending}
    (hc : ∀ F, Ar w F p C E → (∀ g, G g → ¬ F g) → Calls P f xs w fun e w' => e = e0 ∧ ArTo w F p C2 E2 w') : Calls P f xs w fun e w' => e = e0 ∧ BX w0 w' b t cs p C2 E2 v H G ∧ ∀ k, G k → w'.heap[k]? = w.heap[k]? := by
  obtain ⟨F, h1, h2, h3, ⟨h4, h5, h6⟩, h7, h8, h9⟩ := h
  have up : ∀ {w' : World} {k : Nat}, k < w.heap.size → ¬ F k → ¬ Grow F w w' k := fun hk hf h => h.elim hf (fun h => by omega)
  refine (hc F h1 (fun g hg => (h9 g hg).2.1)).mono fun e w' ⟨he, a3, o3⟩ => ⟨he, ⟨_, a3, h2.own o3 h3, Grow.from_ h3 h2.size, ⟨h4.to (o3.block _ h4.lt h5), up h4.lt h5, h6⟩, own_to h7 (fun g hg => o3.block g (h7.lt g hg).2 (h8 g hg).1), fun g hg => ⟨up (h7.lt g hg).2 (h8 g hg).1, (h8 g hg).2⟩, fun g hg => ?_⟩, fun k hk => ?_⟩
  · obtain ⟨g1, g2, g3, g4⟩ := h9 g hg
    exact ⟨Nat.lt_of_lt_of_le g1 o3.size, up g1 g2, g3, g4⟩
  · exact o3.block k (h9 k hk).1 (h9 k hk).2.1
theorem BX.row {P : Program} {f : FuncId} {xs : Array Value} {t2 : TypeId} {cs2 : Array Value} {ret : Nat → Ending} (h : BX w0 w b t cs p C E v H Nob)
    (hc : ∀ F, Ar w F p C E → Calls P f xs w fun e w' => ∃ g, e = ret g ∧ Wk w F w' [(g, t2, cs2)] p C2 E2) : Calls P f xs w fun e w' => ∃ g, e = ret g ∧ BX w0 w' b t cs p C2 E2 v H Nob ∧ Blk w' g t2 cs2 := by
  obtain ⟨F, h1, h2, h3, ⟨h4, h5, h6⟩, h7, h8, h9⟩ := h
  refine (hc F h1).mono fun e w' ⟨g, he, F1, a1, a2, a3, a4, a5, a6⟩ => ⟨g, he, ⟨F1, a1, h2.own a3 h3, fun k hk => ?_, ⟨h4.to (a3.block _ h4.lt h5), fun hk => ?_, h6⟩, own_to h7 (fun g hg => a3.block g (h7.lt g hg).2 (h8 g hg).1), fun g hg => ⟨fun hk => ?_, (h8 g hg).2⟩, fun g hg => hg.elim⟩, (a5 _ (List.mem_singleton.2 rfl)).1⟩
  · rcases a2 k hk with h | h
    · exact h3 k h
    · exact Nat.le_trans h2.size h
  · rcases a2 _ hk with h | h
    · exact h5 h
    · have := h4.lt; omega
  · rcases a2 _ hk with h | h
    · exact (h8 g hg).1 h
    · have := (h7.lt g hg).2; omega
end
end Go.Proofs.Ytonkhgmfeakbcaa
