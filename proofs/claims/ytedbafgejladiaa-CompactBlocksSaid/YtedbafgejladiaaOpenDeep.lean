/-
  Arguments that came in, opened: slices whose elements are slices, structs with slices inside.
-/
import Derived.Test.YtedbafgejladiaaOpen
namespace Go.Proofs.Ytedbafgejladiaa
open Go.ChangeShapes Go.WideShapes Go.ChangeAt Go.RowKit Go.Deep
set_option linter.unusedVariables false
section
variable {H : Type} {enc : TypeId × Value → H} {P : Program} {w : World} {b0 base : Nat} {spare : Nat → Bool} {held : Bool} {r : Reach} {t e : TypeId} {v : Value} {d : DataW H} {ps : List MemPlace}
/-- A slice among cells: what it reads, and that its elements are of their type. -/
theorem trod_slice {fuel : Nat} {cs : List Value} {x : DataW H × List MemPlace} (ht : P.underlying t = some (.slice e)) (c : Nat) (hce : P.cellsOf e = c) (hc : 0 < c) (hf : DataW.trod enc P w base spare held fuel t cs = some x) :
    ∃ v n xs, cs = [v] ∧ Rd w (Old w) c v n xs ∧ (∀ m k, v = .slice none m k → m = 0 ∧ k = 0) ∧ ∃ fu, ∀ i, i < n → ∃ y, DataW.trod enc P w base spare held fu e ((xs.drop (i * c)).take c) = some y := by
  rcases open_slice ht hf with ⟨hcs, _⟩ | ⟨a, len, cap, m, n, D, Pl, hcs, hb, hl, hm, hmm, _, hx⟩
  · exact ⟨_, 0, [], hcs, Rd.nil _ _ _, (fun m k h => by injection h with _ h1 h2; exact ⟨h1.symm, h2.symm⟩), 0, fun i hi => absurd hi (Nat.not_lt_zero _)⟩
  · obtain ⟨vv, hvv⟩ : ∃ vv, Value.slice (some a) len cap = vv := ⟨_, rfl⟩
    rw [hvv] at hcs
    suffices hgoal : ∃ xs, Rd w (Old w) c vv len xs ∧ (∀ m k, vv = .slice none m k → m = 0 ∧ k = 0) ∧ ∃ fu, ∀ i, i < len → ∃ y, DataW.trod enc P w base spare held fu e ((xs.drop (i * c)).take c) = some y by
      obtain ⟨xs, h1, h2, h3⟩ := hgoal
      exact ⟨vv, len, xs, hcs, h1, h2, h3⟩
    subst hvv
    have hml : len ≤ m := by rw [hmm]; split <;> omega
    have key : ∀ i, i < len → ∃ cs', cs'.length = c ∧ (∀ j, j < c → w.cell? ((a.add (i * c)).add j) = cs'[j]?) ∧ ∃ y, DataW.trod enc P w base spare held n e cs' = some y := by
      intro i hi
      obtain ⟨cs', h1, h2⟩ := hx i (by omega)
      rw [hce] at h1
      obtain ⟨_, hcl, hcc⟩ := World.cells?_some h1
      exact ⟨cs', hcl, hcc, _, h2⟩
    rcases Nat.eq_zero_or_pos len with h0 | h0
    · subst h0
      exact ⟨[], ⟨_, _, rfl, Nat.zero_le _, by simp, fun h => absurd h (by omega)⟩, (fun m k h => by injection h with h0 _ _; cases h0), 0, fun i hi => absurd hi (Nat.not_lt_zero _)⟩
    · obtain ⟨b, o, spot⟩ := a
      obtain ⟨cs0, l0, c0, _⟩ := key 0 h0
      have u0 := c0 0 hc
      rw [List.getElem?_eq_getElem (by omega)] at u0
      have hsp : spot = none := by
        have := World.cell?_spot u0
        simpa [Addr.add] using this
      subst hsp
      have hblk : b < w.heap.size := by
        have := World.block_lt_of_cell? _ _ u0
        rw [add_addr, add_addr] at this
        exact this
      have hcell : ∀ i j, i < len → j < c → ∃ u, w.cell? ⟨b, o + (i * c + j), none⟩ = some u := by
        intro i j hi hj
        obtain ⟨cs', l1, c1, _⟩ := key i hi
        have := c1 j hj
        rw [add_addr, add_addr, List.getElem?_eq_getElem (by omega)] at this
        exact ⟨_, by rw [← this]; congr 2; omega⟩
      refine ⟨(List.range (len * c)).map fun j => (w.cell? ⟨b, o + j, none⟩).getD undef, ⟨_, _, rfl, by omega, by simp, fun _ => ⟨b, o, rfl, hblk, hblk, ?_⟩⟩, (fun m k h => by injection h with h0 _ _; cases h0), n, ?_⟩
      · intro j u hu
        rw [List.getElem?_map] at hu
        rcases Nat.lt_or_ge j (len * c) with hj | hj
        · rw [List.getElem?_range hj] at hu
          have hi : j / c < len := Nat.div_lt_of_lt_mul (by rw [Nat.mul_comm]; exact hj)
          obtain ⟨u', hu'⟩ := hcell (j / c) (j % c) hi (Nat.mod_lt _ hc)
          rw [show j / c * c + j % c = j by have := Nat.div_add_mod j c; rw [Nat.mul_comm] at this; omega] at hu'
          rw [hu']
          simpa [hu'] using hu
        · rw [List.getElem?_eq_none (by simpa using hj)] at hu
          cases hu
      · intro i hi
        obtain ⟨cs', l1, c1, y, hy⟩ := key i hi
        refine ⟨y, ?_⟩
        have : (List.drop (i * c) ((List.range (len * c)).map fun j => (w.cell? ⟨b, o + j, none⟩).getD undef)).take c = cs' := by
          apply List.ext_getElem?
          intro j
          have hic : i * c + c ≤ len * c := by rw [← Nat.succ_mul]; exact Nat.mul_le_mul_right _ hi
          by_cases hj : j < c
          · rw [List.getElem?_take_of_lt hj, List.getElem?_drop, List.getElem?_map, List.getElem?_range (by omega), ← c1 j hj, add_addr, add_addr]
            obtain ⟨u, hu⟩ := hcell i j hi hj
            rw [Nat.add_assoc, hu]
            simp [hu]
          · rw [List.getElem?_eq_none (by simp; omega), List.getElem?_eq_none (by omega)]
        rw [this]
        exact hy
/-- A slice of slices of bools. -/
theorem opened_bss {e2 : TypeId} (ht : P.underlying t = some (.slice e)) (he : P.underlying e = some (.slice e2)) (hc1 : P.cellsOf e = 1) (he2 : P.underlying e2 = some .bool) (hc2 : P.cellsOf e2 = 1) (hval : Value.okWide P w r b0 t v) (hd : DataW.Trod enc P w base spare held t v d ps) :
    ∃ n xs, Rd w (Old w) 1 v n xs ∧ ∀ i, i < n → ∃ (u : Value) (m : Nat) (X : List Bool), xs[i]? = some u ∧ Rd w (Old w) 1 u m (boolsV X) := by
  obtain ⟨fuel, hf⟩ := hd
  obtain ⟨a, len, cap, rfl⟩ := okWide_slice ht hval
  obtain ⟨v, n, xs, hcs, hr, _, fu, hx⟩ := trod_slice ht 1 hc1 (by decide) hf
  have hv : v = .slice a len cap := by simpa [Value.cells] using hcs.symm
  subst hv
  refine ⟨n, xs, hr, fun i hi => ?_⟩
  obtain ⟨y, hy⟩ := hx i hi
  obtain ⟨u, m, ys, hu, hru, _, fu2, hx2⟩ := trod_slice he 1 hc2 (by decide) hy
  have hxl : xs.length = n * 1 := by obtain ⟨_, _, _, _, hl, _⟩ := hr; exact hl
  have hyl : ys.length = m * 1 := by obtain ⟨_, _, _, _, hl, _⟩ := hru; exact hl
  obtain ⟨zs, rfl⟩ := all_bools ys fun j hj => by
    obtain ⟨y2, hy2⟩ := hx2 j (by omega)
    obtain ⟨q, hq, hok⟩ := kind_trod 1 e2 0 none (by unfold kindAt; rw [he2]; rfl) fu2 _ _ hy2
    rw [List.getElem?_take_of_lt (by decide), List.getElem?_drop] at hq
    exact ⟨q, by rw [← hq]; congr 1; omega, hok⟩
  refine ⟨u, m, zs, ?_, hru⟩
  have := congrArg (fun l => l[0]?) hu
  simp only [List.getElem?_cons_zero] at this
  rw [List.getElem?_take_of_lt (by decide), List.getElem?_drop] at this
  rw [← this]
  congr 1
  omega
end
end Go.Proofs.Ytedbafgejladiaa
