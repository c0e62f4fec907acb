/-
  Two arenas of the program side by side, beside blocks of the call's own.
-/
import Derived.Test.YtkflicifngohcaaGreatDoorJ8
import Derived.Test.YtkflicifngohcaaGreatDoorJ2
namespace Go.Proofs.YtkflicifngohcaaGreatDoor
open Go.RowKit
set_option linter.unusedVariables false
set_option maxRecDepth 100000
/-- Blocks, with what they hold. -/
abbrev Bks := List (Nat × TypeId × Array Value)
def One (w0 w : World) (bs : Bks) (p : Nat) (C : List (BitVec 64)) (E : List Ev) : Prop :=
  ∃ F, Ar w F p C E ∧ Off Nob w0 w ∧ (∀ k, F k → w0.heap.size ≤ k) ∧ ∀ x ∈ bs, Blk w x.1 x.2.1 x.2.2 ∧ ¬ F x.1
def Twin (w0 w : World) (bs : Bks) (p q : Nat) (C : List (BitVec 64)) (E : List Ev) (C' : List (BitVec 64)) (E' : List Ev) : Prop :=
  ∃ F R, Ar w F p C E ∧ Ar w R q C' E' ∧ Off Nob w0 w ∧ (∀ k, F k → w0.heap.size ≤ k) ∧ (∀ k, R k → w0.heap.size ≤ k) ∧ (∀ k, F k → ¬ R k) ∧ ∀ x ∈ bs, Blk w x.1 x.2.1 x.2.2 ∧ ¬ F x.1 ∧ ¬ R x.1
section
variable {w0 w w' : World} {bs : Bks} {p q : Nat} {C C' : List (BitVec 64)} {E E' : List Ev}
theorem Made.one {e : Ending} (h : Made w C e w') (o0 : Off Nob w0 w) (hbs : ∀ x ∈ bs, Blk w x.1 x.2.1 x.2.2) :
    ∃ p r, e = .returned (.tuple #[.pointer (some ⟨p, 0, none⟩), .pointer (some ⟨r, 0, none⟩)]) ∧ One w0 w' bs p (pad C) (stores C.length) := by
  obtain ⟨p, r, F, R, he, h1, h2, h3, h4, h5, h6⟩ := h
  refine ⟨p, r, he, F, h1, o0.also h3, fun k hk => Nat.le_trans o0.size (h4 k hk), fun x hx => ?_⟩
  have hb := hbs x hx
  exact ⟨hb.to (h3.block _ hb.lt (fun h => h)), fun hf => by have := h4 _ hf; have := hb.lt; omega⟩
theorem One.off (h : One w0 w bs p C E) (o : Off Nob w w') : One w0 w' bs p C E := by
  obtain ⟨F, ha, ho, hf, hb⟩ := h
  exact ⟨F, ha.keep o (fun _ _ hn => hn), ho.also o, hf, fun x hx => ⟨(hb x hx).1.to (o.block _ (hb x hx).1.lt (fun h => h)), (hb x hx).2⟩⟩
theorem One.old (h : One w0 w bs p C E) : Off Nob w0 w := by obtain ⟨F, ha, ho, hf, hb⟩ := h; exact ho
theorem One.two {e : Ending} (h : One w0 w bs p C E) (k : Made w C' e w') :
    ∃ q r, e = .returned (.tuple #[.pointer (some ⟨q, 0, none⟩), .pointer (some ⟨r, 0, none⟩)]) ∧ Twin w0 w' bs p q C E (pad C') (stores C'.length) := by
  obtain ⟨F, ha, ho, hf, hb⟩ := h
  obtain ⟨q, r, R, R2, he, h1, h2, h3, h4, h5, h6⟩ := k
  refine ⟨q, r, he, F, R, ha.keep h3 (fun _ _ hn => hn), h1, ho.also h3, hf, fun k hk => Nat.le_trans ho.size (h4 k hk), fun k hk hr => by have := ha.lt k hk; have := h4 k hr; omega, fun x hx => ?_⟩
  obtain ⟨g1, g2⟩ := hb x hx
  exact ⟨g1.to (h3.block _ g1.lt (fun h => h)), g2, fun hr => by have := h4 _ hr; have := g1.lt; omega⟩
theorem One.push (h : One w0 w bs p C E) (t : TypeId) (cs : Array Value) : One w0 (w.alloc (.cells cs t)) ((w.heap.size, t, cs) :: bs) p C E := by
  obtain ⟨F, ha, ho, hf, hb⟩ := h
  refine ⟨F, ha.box _, ho.alloc _, hf, fun x hx => ?_⟩
  rcases List.mem_cons.1 hx with rfl | hx
  · exact ⟨Blk.new _ _ _, fun hk => by have := ha.lt _ hk; simp at this⟩
  · exact ⟨(hb x hx).1.alloc _, (hb x hx).2⟩
theorem One.blk (h : One w0 w bs p C E) {b : Nat} {t : TypeId} {cs : Array Value} (hm : (b, t, cs) ∈ bs) : Blk w b t cs := by
  obtain ⟨F, ha, ho, hf, hb⟩ := h
  exact (hb _ hm).1
theorem One.call (h : One w0 w bs p C E) {P : Program} {f : FuncId} {xs : Array Value} {e0 : Ending} {C2 : List (BitVec 64)} {E2 : List Ev}
    (hc : ∀ w F, Ar w F p C E → Calls P f xs w fun e w' => e = e0 ∧ ArTo w F p C2 E2 w') : Calls P f xs w fun e w' => e = e0 ∧ One w0 w' bs p C2 E2 := by
  obtain ⟨F, ha, ho, hf, hb⟩ := h
  refine (hc w F ha).mono fun e w' ⟨he, a3, o3⟩ => ⟨he, _, a3, ho.own o3 hf, Grow.from_ hf ho.size, fun x hx => ?_⟩
  obtain ⟨g1, g2⟩ := hb x hx
  exact ⟨g1.to (o3.block _ g1.lt g2), fun h => h.elim g2 (fun h => by have := g1.lt; omega)⟩
theorem One.ar (h : One w0 w bs p C E) : ∃ F, Ar w F p C E := by obtain ⟨F, ha, _⟩ := h; exact ⟨F, ha⟩
theorem Twin.off (h : Twin w0 w bs p q C E C' E') (o : Off Nob w w') : Twin w0 w' bs p q C E C' E' := by
  obtain ⟨F, R, ha, hr, ho, hf, hg, hd, hb⟩ := h
  exact ⟨F, R, ha.keep o (fun _ _ hn => hn), hr.keep o (fun _ _ hn => hn), ho.also o, hf, hg, hd, fun x hx => ⟨(hb x hx).1.to (o.block _ (hb x hx).1.lt (fun h => h)), (hb x hx).2⟩⟩
theorem Twin.old (h : Twin w0 w bs p q C E C' E') : Off Nob w0 w := by obtain ⟨F, R, ha, hr, ho, hf, hg, hd, hb⟩ := h; exact ho
theorem Twin.blk (h : Twin w0 w bs p q C E C' E') {b : Nat} {t : TypeId} {cs : Array Value} (hm : (b, t, cs) ∈ bs) : Blk w b t cs := by
  obtain ⟨F, R, ha, hr, ho, hf, hg, hd, hb⟩ := h
  exact (hb _ hm).1
theorem Twin.push (h : Twin w0 w bs p q C E C' E') (t : TypeId) (cs : Array Value) : Twin w0 (w.alloc (.cells cs t)) ((w.heap.size, t, cs) :: bs) p q C E C' E' := by
  obtain ⟨F, R, ha, hr, ho, hf, hg, hd, hb⟩ := h
  refine ⟨F, R, ha.box _, hr.box _, ho.alloc _, hf, hg, hd, fun x hx => ?_⟩
  rcases List.mem_cons.1 hx with rfl | hx
  · exact ⟨Blk.new _ _ _, fun hk => by have := ha.lt _ hk; simp at this, fun hk => by have := hr.lt _ hk; simp at this⟩
  · exact ⟨(hb x hx).1.alloc _, (hb x hx).2⟩
theorem Twin.first (h : Twin w0 w bs p q C E C' E') {P : Program} {f : FuncId} {xs : Array Value} {e0 : Ending} {C2 : List (BitVec 64)} {E2 : List Ev}
    (hc : ∀ w F, Ar w F p C E → Calls P f xs w fun e w' => e = e0 ∧ ArTo w F p C2 E2 w') : Calls P f xs w fun e w' => e = e0 ∧ Twin w0 w' bs p q C2 E2 C' E' := by
  obtain ⟨F, R, ha, hr, ho, hf, hg, hd, hb⟩ := h
  refine (hc w F ha).mono fun e w' ⟨he, a3, o3⟩ => ⟨he, ?_⟩
  have hd3 : ∀ k, R k → ¬ Grow F w w' k := Grow.apart (fun k hk hn => hd k hn hk) hr.lt
  refine ⟨_, _, a3, hr.keep o3 (fun k hk hn => hd k hn hk), ho.own o3 hf, Grow.from_ hf ho.size, hg, fun k hk hn => hd3 k hn hk, fun x hx => ?_⟩
  obtain ⟨g1, g2, g3⟩ := hb x hx
  exact ⟨g1.to (o3.block _ g1.lt g2), fun h => h.elim g2 (fun h => by have := g1.lt; omega), g3⟩
theorem Twin.swap (h : Twin w0 w bs p q C E C' E') : Twin w0 w bs q p C' E' C E := by
  obtain ⟨F, R, ha, hr, ho, hf, hg, hd, hb⟩ := h
  exact ⟨R, F, hr, ha, ho, hg, hf, fun k hk hn => hd k hn hk, fun x hx => ⟨(hb x hx).1, (hb x hx).2.2, (hb x hx).2.1⟩⟩
theorem Twin.second (h : Twin w0 w bs p q C E C' E') {P : Program} {f : FuncId} {xs : Array Value} {e0 : Ending} {C2 : List (BitVec 64)} {E2 : List Ev}
    (hc : ∀ w F, Ar w F q C' E' → Calls P f xs w fun e w' => e = e0 ∧ ArTo w F q C2 E2 w') : Calls P f xs w fun e w' => e = e0 ∧ Twin w0 w' bs p q C E C2 E2 :=
  (h.swap.first hc).mono fun e w' ⟨h1, h2⟩ => ⟨h1, h2.swap⟩
theorem Twin.ar1 (h : Twin w0 w bs p q C E C' E') : ∃ F, Ar w F p C E := by obtain ⟨F, R, ha, _⟩ := h; exact ⟨F, ha⟩
theorem Twin.ar2 (h : Twin w0 w bs p q C E C' E') : ∃ F, Ar w F q C' E' := by obtain ⟨F, R, ha, hr, _⟩ := h; exact ⟨R, hr⟩
end
/-- Two arenas of n cells each, whatever they hold. -/
def TwinL (w0 w : World) (bs : Bks) (p q : Nat) (n : Nat) (E E' : List Ev) : Prop := ∃ C C', C.length = n ∧ C'.length = n ∧ Twin w0 w bs p q C E C' E'
section
variable {w0 w w' : World} {bs : Bks} {p q n : Nat} {E E' : List Ev}
theorem TwinL.off (h : TwinL w0 w bs p q n E E') (o : Off Nob w w') : TwinL w0 w' bs p q n E E' := by
  obtain ⟨C, C', h1, h2, h⟩ := h
  exact ⟨C, C', h1, h2, h.off o⟩
theorem TwinL.old (h : TwinL w0 w bs p q n E E') : Off Nob w0 w := by obtain ⟨C, C', h1, h2, h⟩ := h; exact h.old
theorem TwinL.blk (h : TwinL w0 w bs p q n E E') {b : Nat} {t : TypeId} {cs : Array Value} (hm : (b, t, cs) ∈ bs) : Blk w b t cs := by
  obtain ⟨C, C', h1, h2, h⟩ := h
  exact h.blk hm
theorem TwinL.first (h : TwinL w0 w bs p q n E E') {P : Program} {f : FuncId} {xs : Array Value} {Q : Ending → Prop} {E2 : List Ev}
    (hc : ∀ C w F, C.length = n → Ar w F p C E → Calls P f xs w fun e w' => Q e ∧ ∃ C2, C2.length = n ∧ ArTo w F p C2 E2 w') : Calls P f xs w fun e w' => Q e ∧ TwinL w0 w' bs p q n E2 E' := by
  obtain ⟨C, C', h1, h2, F, R, ha, hr, ho, hf, hg, hd, hb⟩ := h
  refine (hc C w F h1 ha).mono fun e w' ⟨he, C2, hl, a3, o3⟩ => ⟨he, C2, C', hl, h2, ?_⟩
  have hd3 : ∀ k, R k → ¬ Grow F w w' k := Grow.apart (fun k hk hn => hd k hn hk) hr.lt
  refine ⟨_, _, a3, hr.keep o3 (fun k hk hn => hd k hn hk), ho.own o3 hf, Grow.from_ hf ho.size, hg, fun k hk hn => hd3 k hn hk, fun x hx => ?_⟩
  obtain ⟨g1, g2, g3⟩ := hb x hx
  exact ⟨g1.to (o3.block _ g1.lt g2), fun h => h.elim g2 (fun h => by have := g1.lt; omega), g3⟩
theorem TwinL.swap (h : TwinL w0 w bs p q n E E') : TwinL w0 w bs q p n E' E := by
  obtain ⟨C, C', h1, h2, h⟩ := h
  exact ⟨C', C, h2, h1, h.swap⟩
theorem TwinL.second (h : TwinL w0 w bs p q n E E') {P : Program} {f : FuncId} {xs : Array Value} {Q : Ending → Prop} {E2 : List Ev}
    (hc : ∀ C w F, C.length = n → Ar w F q C E' → Calls P f xs w fun e w' => Q e ∧ ∃ C2, C2.length = n ∧ ArTo w F q C2 E2 w') : Calls P f xs w fun e w' => Q e ∧ TwinL w0 w' bs p q n E E2 :=
  (h.swap.first hc).mono fun e w' ⟨h1, h2⟩ => ⟨h1, h2.swap⟩
theorem TwinL.ar1 (h : TwinL w0 w bs p q n E E') : ∃ C F, Ar w F p C E := by obtain ⟨C, C', h1, h2, F, R, ha, _⟩ := h; exact ⟨C, F, ha⟩
theorem TwinL.ar2 (h : TwinL w0 w bs p q n E E') : ∃ C F, Ar w F q C E' := by obtain ⟨C, C', h1, h2, F, R, ha, hr, _⟩ := h; exact ⟨C', R, hr⟩
end
section
variable {w0 w w' : World} {bs : Bks} {p q n : Nat} {E E' : List Ev}
theorem TwinL.push (h : TwinL w0 w bs p q n E E') (t : TypeId) (cs : Array Value) : TwinL w0 (w.alloc (.cells cs t)) ((w.heap.size, t, cs) :: bs) p q n E E' := by
  obtain ⟨C, C', h1, h2, h⟩ := h
  exact ⟨C, C', h1, h2, h.push t cs⟩
/-- A cell of a block of the call's own, written. -/
theorem TwinL.put {g : Nat} {t : TypeId} {cs : Array Value} (h : TwinL w0 w ((g, t, cs) :: bs) p q n E E') (hg : w0.heap.size ≤ g) (hn : ∀ x ∈ bs, x.1 ≠ g) (i : Nat) (u : Value) : TwinL w0 (w.setCell ⟨g, i, none⟩ u) ((g, t, cs.setIfInBounds i u) :: bs) p q n E E' := by
  obtain ⟨C, C', h1, h2, F, R, ha, hr, ho, hf, hgr, hd, hb⟩ := h
  obtain ⟨g1, g2, g3⟩ := hb _ (List.mem_cons_self ..)
  have off : Off (fun k => k = g) w (w.setCell ⟨g, i, none⟩ u) := Off.put (F := fun k => k = g) (p := ⟨g, i, none⟩) (Off.refl _ w) (Or.inl (Eq.refl g)) u
  have offN : Off Nob w0 (w.setCell ⟨g, i, none⟩ u) := ho.own off (fun k hk => by rw [hk]; exact hg)
  refine ⟨C, C', h1, h2, F, R, ha.keep off (fun k hk hn => g2 (by have e : k = g := hn; rw [e] at hk; exact hk)), hr.keep off (fun k hk hn => g3 (by have e : k = g := hn; rw [e] at hk; exact hk)), offN, hf, hgr, hd, fun x hx => ?_⟩
  rcases List.mem_cons.1 hx with rfl | hx2
  · exact ⟨g1.put i u, g2, g3⟩
  · obtain ⟨k1, k2, k3⟩ := hb x (List.mem_cons_of_mem _ hx2)
    exact ⟨k1.far (p := ⟨g, i, none⟩) (hn x hx2) u, k2, k3⟩
end
/-- Two arenas of n cells each, beside blocks that are all different. -/
def TwinD (w0 w : World) (bs : Bks) (p q : Nat) (n : Nat) (E E' : List Ev) : Prop := TwinL w0 w bs p q n E E' ∧ (bs.map Prod.fst).Nodup
section
variable {w0 w w' : World} {bs : Bks} {p q n : Nat} {E E' : List Ev}
theorem TwinD.off (h : TwinD w0 w bs p q n E E') (o : Off Nob w w') : TwinD w0 w' bs p q n E E' := ⟨h.1.off o, h.2⟩
theorem TwinD.old (h : TwinD w0 w bs p q n E E') : Off Nob w0 w := h.1.old
theorem TwinD.blk (h : TwinD w0 w bs p q n E E') {b : Nat} {t : TypeId} {cs : Array Value} (hm : (b, t, cs) ∈ bs) : Blk w b t cs := h.1.blk hm
theorem TwinD.first (h : TwinD w0 w bs p q n E E') {P : Program} {f : FuncId} {xs : Array Value} {Q : Ending → Prop} {E2 : List Ev}
    (hc : ∀ C w F, C.length = n → Ar w F p C E → Calls P f xs w fun e w' => Q e ∧ ∃ C2, C2.length = n ∧ ArTo w F p C2 E2 w') : Calls P f xs w fun e w' => Q e ∧ TwinD w0 w' bs p q n E2 E' :=
  (h.1.first hc).mono fun e w' ⟨h1, h2⟩ => ⟨h1, h2, h.2⟩
theorem TwinD.second (h : TwinD w0 w bs p q n E E') {P : Program} {f : FuncId} {xs : Array Value} {Q : Ending → Prop} {E2 : List Ev}
    (hc : ∀ C w F, C.length = n → Ar w F q C E' → Calls P f xs w fun e w' => Q e ∧ ∃ C2, C2.length = n ∧ ArTo w F q C2 E2 w') : Calls P f xs w fun e w' => Q e ∧ TwinD w0 w' bs p q n E E2 :=
  (h.1.second hc).mono fun e w' ⟨h1, h2⟩ => ⟨h1, h2, h.2⟩
theorem TwinD.push (h : TwinD w0 w bs p q n E E') (t : TypeId) (cs : Array Value) : TwinD w0 (w.alloc (.cells cs t)) ((w.heap.size, t, cs) :: bs) p q n E E' := by
  refine ⟨h.1.push t cs, ?_⟩
  rw [List.map_cons, List.nodup_cons]
  refine ⟨fun hm => ?_, h.2⟩
  obtain ⟨x, hx, he⟩ := List.mem_map.1 hm
  have := (h.blk (b := x.1) (t := x.2.1) (cs := x.2.2) hx).lt
  simp at he
  omega
theorem TwinD.put {g : Nat} {t : TypeId} {cs : Array Value} (h : TwinD w0 w ((g, t, cs) :: bs) p q n E E') (hg : w0.heap.size ≤ g) (i : Nat) (u : Value) : TwinD w0 (w.setCell ⟨g, i, none⟩ u) ((g, t, cs.setIfInBounds i u) :: bs) p q n E E' := by
  have hn := h.2
  rw [List.map_cons, List.nodup_cons] at hn
  exact ⟨h.1.put hg (fun x hx he => hn.1 (List.mem_map.2 ⟨x, hx, he⟩)) i u, h.2⟩
end
/-- The greater of two numbers. -/
def mxN (a b : Nat) : Nat := if a ≤ b then b else a
theorem mxN_ge (a b : Nat) : a ≤ mxN a b ∧ b ≤ mxN a b ∧ (mxN a b = a ∨ mxN a b = b) := by unfold mxN; split <;> omega
theorem run_max_nat {P : Program} {w : World} (ts : Array TypeId) (t : TypeId) (a b : Nat) : (Builtin.max_ ts t #[.int .i64 (a : Int), .int .i64 (b : Int)]).run P w = .ok (.int .i64 (mxN a b : Int)) w := by
  rw [run_max_int2]
  congr 2
  unfold mxN
  split <;> split <;> omega
/-- A list, made longer by zeros. -/
def padTo (C : List (BitVec 64)) (n : Nat) : List (BitVec 64) := C ++ List.replicate (n - C.length) 0#64
theorem padTo_length (C : List (BitVec 64)) (n : Nat) (h : C.length ≤ n) : (padTo C n).length = n := by simp [padTo]; omega
theorem u64s_zeros (C : List (BitVec 64)) (m : Nat) : u64s C ++ List.replicate m (.int .u64 0) = u64s (C ++ List.replicate m 0#64) := by simp [u64s, n64]
theorem u64s_one' (C : List (BitVec 64)) : ∀ u ∈ u64s C, u.oneCell' = true := by
  intro u hu
  simp [u64s] at hu
  obtain ⟨x, _, rfl⟩ := hu
  rfl
theorem pad_length (C : List (BitVec 64)) : (pad C).length = max C.length 1 := by
  unfold pad
  split
  · rename_i h; subst h; rfl
  · rename_i h; have := List.length_pos_iff.2 h; omega
/-- The steps of two arenas are the same. -/
theorem sameEv {w : World} {E : List Ev} {v u : Value} {F G : Nat → Prop} (hv : Rd w F 2 v E.length (evs E)) (hu : Rd w G 2 u E.length (evs E)) :
    Calls Tryz.prog 35 #[v, u] w (BoolNew true w) := by
  have := sameEvents_any hv hu
  rwa [show sameEB E E = true by simp [sameEB]] at this
end Go.Proofs.YtkflicifngohcaaGreatDoor

/-
  A call that works over an arena that was there, with blocks of its own.
-/
namespace Go.Proofs.YtkflicifngohcaaGreatDoor
open Go.RowKit
set_option linter.unusedVariables false
set_option maxRecDepth 100000
/-- From w0 on, where the arena's blocks lay in F: the arena, and blocks of the call's own. -/
def Wk (w0 : World) (F : Nat → Prop) (w : World) (bs : Bks) (p : Nat) (C : List (BitVec 64)) (E : List Ev) : Prop :=
  ∃ F1, Ar w F1 p C E ∧ (∀ k, F1 k → F k ∨ w0.heap.size ≤ k) ∧ Off F w0 w ∧ (∀ k, F k → k < w0.heap.size) ∧ (∀ x ∈ bs, Blk w x.1 x.2.1 x.2.2 ∧ ¬ F1 x.1 ∧ w0.heap.size ≤ x.1) ∧ (bs.map Prod.fst).Nodup
section
variable {w0 w w' : World} {F : Nat → Prop} {bs : Bks} {p : Nat} {C C2 : List (BitVec 64)} {E E2 : List Ev}
theorem Wk.start (h : Ar w F p C E) : Wk w F w [] p C E := ⟨F, h, fun k hk => .inl hk, Off.refl _ _, h.lt, (fun x hx => (by cases hx)), List.nodup_nil⟩
theorem Wk.done (h : Wk w0 F w bs p C E) : ArTo w0 F p C E w := by
  obtain ⟨F1, ha, hf, ho, hl, hb, hn⟩ := h
  exact ⟨ha.mono (fun k hk => (hf k hk).elim (fun h => .inl h) (fun h => .inr ⟨h, ha.lt k hk⟩)) (Grow.lt hl ho.size), ho⟩
theorem Wk.ar (h : Wk w0 F w bs p C E) : ∃ F1, Ar w F1 p C E := by obtain ⟨F1, ha, _⟩ := h; exact ⟨F1, ha⟩
theorem Wk.n2 (h : Wk w0 F w bs p C E) : C.length ≤ 65536 := by obtain ⟨F1, ha, _⟩ := h; exact ha.n2
theorem Wk.blk (h : Wk w0 F w bs p C E) {b : Nat} {t : TypeId} {cs : Array Value} (hm : (b, t, cs) ∈ bs) : Blk w b t cs := by
  obtain ⟨F1, ha, hf, ho, hl, hb, hn⟩ := h
  exact (hb _ hm).1
theorem Wk.off (h : Wk w0 F w bs p C E) (o : Off Nob w w') : Wk w0 F w' bs p C E := by
  obtain ⟨F1, ha, hf, ho, hl, hb, hn⟩ := h
  exact ⟨F1, ha.keep o (fun _ _ hn => hn), hf, ho.also o.ofNob, hl, fun x hx => ⟨(hb x hx).1.to (o.block _ (hb x hx).1.lt (fun h => h)), (hb x hx).2⟩, hn⟩
theorem Wk.push (h : Wk w0 F w bs p C E) (t : TypeId) (cs : Array Value) : Wk w0 F (w.alloc (.cells cs t)) ((w.heap.size, t, cs) :: bs) p C E := by
  have hk := h
  obtain ⟨F1, ha, hf, ho, hl, hb, hn⟩ := h
  refine ⟨F1, ha.box _, hf, ho.alloc _, hl, fun x hx => ?_, ?_⟩
  · rcases List.mem_cons.1 hx with rfl | hx
    · exact ⟨Blk.new _ _ _, fun hk => by have := ha.lt _ hk; simp at this, ho.size⟩
    · exact ⟨(hb x hx).1.alloc _, (hb x hx).2⟩
  · rw [List.map_cons, List.nodup_cons]
    refine ⟨fun hm => ?_, hn⟩
    obtain ⟨x, hx, he⟩ := List.mem_map.1 hm
    have := (hb x hx).1.lt
    simp at he
    omega
theorem Wk.call (h : Wk w0 F w bs p C E) {P : Program} {f : FuncId} {xs : Array Value} {e0 : Ending}
    (hc : ∀ w F, Ar w F p C E → Calls P f xs w fun e w' => e = e0 ∧ ArTo w F p C2 E2 w') : Calls P f xs w fun e w' => e = e0 ∧ Wk w0 F w' bs p C2 E2 := by
  obtain ⟨F1, ha, hf, ho, hl, hb, hn⟩ := h
  refine (hc w F1 ha).mono fun e w' ⟨he, a3, o3⟩ => ⟨he, _, a3, fun k hk => ?_, ?_, hl, fun x hx => ?_, hn⟩
  · rcases hk with hk | hk
    · exact hf k hk
    · exact .inr (Nat.le_trans ho.size hk.1)
  · exact ⟨o3.os.trans ho.os, o3.tape.trans ho.tape, o3.output.trans ho.output, Nat.le_trans ho.size o3.size, fun i hi hn => (o3.block i (Nat.lt_of_lt_of_le hi ho.size) (fun hf1 => by rcases hf i hf1 with h | h; exact hn h; omega)).trans (ho.block i hi hn)⟩
  · obtain ⟨g1, g2, g3⟩ := hb x hx
    exact ⟨g1.to (o3.block _ g1.lt g2), fun h => h.elim g2 (fun h => by have := g1.lt; omega), g3⟩
/-- A cell of the first block, written. -/
theorem Wk.put {g : Nat} {t : TypeId} {cs : Array Value} (h : Wk w0 F w ((g, t, cs) :: bs) p C E) (i : Nat) (u : Value) : Wk w0 F (w.setCell ⟨g, i, none⟩ u) ((g, t, cs.setIfInBounds i u) :: bs) p C E := by
  obtain ⟨F1, ha, hf, ho, hl, hb, hn⟩ := h
  obtain ⟨g1, g2, g3⟩ := hb _ (List.mem_cons_self ..)
  have off : Off (fun k => k = g) w (w.setCell ⟨g, i, none⟩ u) := Off.put (F := fun k => k = g) (p := ⟨g, i, none⟩) (Off.refl _ w) (Or.inl (Eq.refl g)) u
  have hn2 := hn
  rw [List.map_cons, List.nodup_cons] at hn2
  refine ⟨F1, ha.keep off (fun k hk hn => g2 (by have e : k = g := hn; rw [e] at hk; exact hk)), hf, ?_, hl, fun x hx => ?_, hn⟩
  · exact ⟨rfl |>.trans ho.os, ho.tape, ho.output, by simpa using ho.size, fun k hk hnf => (off.block k (Nat.lt_of_lt_of_le hk ho.size) (fun e => by have e2 : k = g := e; have : w0.heap.size ≤ g := g3; omega)).trans (ho.block k hk hnf)⟩
  · rcases List.mem_cons.1 hx with rfl | hx2
    · exact ⟨g1.put i u, g2, g3⟩
    · obtain ⟨k1, k2, k3⟩ := hb x (List.mem_cons_of_mem _ hx2)
      exact ⟨k1.far (p := ⟨g, i, none⟩) (fun e => hn2.1 (List.mem_map.2 ⟨x, hx2, e⟩)) u, k2, k3⟩
theorem Wk.drop {a : Nat × TypeId × Array Value} (h : Wk w0 F w (a :: bs) p C E) : Wk w0 F w bs p C E := by
  obtain ⟨F1, ha, hf, ho, hl, hb, hn⟩ := h
  rw [List.map_cons, List.nodup_cons] at hn
  exact ⟨F1, ha, hf, ho, hl, fun x hx => hb x (List.mem_cons_of_mem _ hx), hn.2⟩
theorem Wk.sub {bs2 : Bks} (h : Wk w0 F w bs p C E) (hs : ∀ x ∈ bs2, x ∈ bs) (hn2 : (bs2.map Prod.fst).Nodup) : Wk w0 F w bs2 p C E := by
  obtain ⟨F1, ha, hf, ho, hl, hb, hn⟩ := h
  exact ⟨F1, ha, hf, ho, hl, fun x hx => hb x (hs x hx), hn2⟩
theorem Wk.nodup (h : Wk w0 F w bs p C E) : (bs.map Prod.fst).Nodup := by obtain ⟨F1, ha, hf, ho, hl, hb, hn⟩ := h; exact hn
end
end Go.Proofs.YtkflicifngohcaaGreatDoor
