/-
  Arguments that came in, opened: slices whose elements are slices, structs with slices inside.
-/
import Derived.Test.YtonkhgmfeakbcaaOpen
namespace Go.Proofs.Ytonkhgmfeakbcaa
open Go.ChangeShapes Go.WideShapes Go.ChangeAt Go.RowKit Go.Deep
set_option linter.unusedVariables false
section
variable {H : Type} {enc : TypeId × Value → H} {P : Program} {w : World} {b0 base : Nat} {spare : Nat → Bool} {held : Bool} {r : Reach} {t e : TypeId} {v : Value} {d : DataW H} {ps : List MemPlace}
/-- A slice among cells: what it reads, and that its elements are of their type. -/
theorem trod_slice {fuel : Nat} {cs : List Value} {x : DataW H × List MemPlace} (ht : P.underlying t = some (.slice e)) (c : Nat) (hce : P.cellsOf e = c) (hc : 0 < c) (hf : DataW.trod enc P w base spare held fuel t cs = some x) :
    ∃ v n xs, cs = [v] ∧ Rd w (Old w) c v n xs ∧ (∀ m k, v = .slice none m k → m = 0 ∧ k = 0) ∧ ∃ fu, ∀ i, i < n → ∃ y, DataW.trod enc P w base spare held fu e ((xs.drop (i * c)).take c) = some y := by
  rcases open_slice ht hf with ⟨hcs, _⟩ | ⟨a, len, cap, m, n, D, Pl, hcs, hb, hl, hm, hmm, _, hx⟩
  · exact ⟨_, 0, [], hcs, Rd.nil _ _ _, (fun m k h => by injection h with _ h1 h2; exact ⟨h1.symm, h2.symm⟩), 0, fun i hi => absurd hi (Nat.not_lt_zero _)⟩
  · obtain ⟨vv, hvv⟩ : ∃ vv, Value.slice (some a) len cap = vv := ⟨_, rfl⟩
    rw [hvv] at hcs
    suffices hgoal : ∃ xs, Rd w (Old w) c vv len xs ∧ (∀ m k, vv = .slice none m k → m = 0 ∧ k = 0) ∧ ∃ fu, ∀ i, i < len → ∃ y, DataW.trod enc P w base spare held fu e ((xs.drop (i * c)).take c) = some y by
      obtain ⟨xs, h1, h2, h3⟩ := hgoal
      exact ⟨vv, len, xs, hcs, h1, h2, h3⟩
    subst hvv
    have hml : len ≤ m := by rw [hmm]; split <;> omega
    have key : ∀ i, i < len → ∃ cs', cs'.length = c ∧ (∀ j, j < c → w.cell? ((a.add (i * c)).add j) = cs'[j]?) ∧ ∃ y, DataW.trod enc P w base spare held n e cs' = some y := by
      intro i hi
      obtain ⟨cs', h1, h2⟩ := hx i (by omega)
      rw [hce] at h1
      obtain ⟨_, hcl, hcc⟩ := World.cells?_some h1
      exact ⟨cs', hcl, hcc, _, h2⟩
    rcases Nat.eq_zero_or_pos len with h0 | h0
    · subst h0
      exact ⟨[], ⟨_, _, rfl, Nat.zero_le _, by simp, fun h => absurd h (by omega)⟩, (fun m k h => by injection h with h0 _ _; cases h0), 0, fun i hi => absurd hi (Nat.not_lt_zero _)⟩
    · obtain ⟨b, o, spot⟩ := a
      obtain ⟨cs0, l0, c0, _⟩ := key 0 h0
      have u0 := c0 0 hc
      rw [List.getElem?_eq_getElem (by omega)] at u0
      have hsp : spot = none := by
        have := World.cell?_spot u0
        simpa [Addr.add] using this
      subst hsp
      have hblk : b < w.heap.size := by
        have := World.block_lt_of_cell? _ _ u0
        rw [add_addr, add_addr] at this
        exact this
      have hcell : ∀ i j, i < len → j < c → ∃ u, w.cell? ⟨b, o + (i * c + j), none⟩ = some u := by
        intro i j hi hj
        obtain ⟨cs', l1, c1, _⟩ := key i hi
        have := c1 j hj
        rw [add_addr, add_addr, List.getElem?_eq_getElem (by omega)] at this
        exact ⟨_, by rw [← this]; congr 2; omega⟩
      refine ⟨(List.range (len * c)).map fun j => (w.cell? ⟨b, o + j, none⟩).getD undef, ⟨_, _, rfl, by omega, by simp, fun _ => ⟨b, o, rfl, hblk, hblk, ?_⟩⟩, (fun m k h => by injection h with h0 _ _; cases h0), n, ?_⟩
      · intro j u hu
        rw [List.getElem?_map] at hu
        rcases Nat.lt_or_ge j (len * c) with hj | hj
        · rw [List.getElem?_range hj] at hu
          have hi : j / c < len := Nat.div_lt_of_lt_mul (by rw [Nat.mul_comm]; exact hj)
          obtain ⟨u', hu'⟩ := hcell (j / c) (j % c) hi (Nat.mod_lt _ hc)
          rw [show j / c * c + j % c = j by have := Nat.div_add_mod j c; rw [Nat.mul_comm] at this; omega] at hu'
          rw [hu']
          simpa [hu'] using hu
        · rw [List.getElem?_eq_none (by simpa using hj)] at hu
          cases hu
      · intro i hi
        obtain ⟨cs', l1, c1, y, hy⟩ := key i hi
        refine ⟨y, ?_⟩
        have : (List.drop (i * c) ((List.range (len * c)).map fun j => (w.cell? ⟨b, o + j, none⟩).getD undef)).take c = cs' := by
          apply List.ext_getElem?
          intro j
          have hic : i * c + c ≤ len * c := by rw [← Nat.succ_mul]; exact Nat.mul_le_mul_right _ hi
          by_cases hj : j < c
          · rw [List.getElem?_take_of_lt hj, List.getElem?_drop, List.getElem?_map, List.getElem?_range (by omega), ← c1 j hj, add_addr, add_addr]
            obtain ⟨u, hu⟩ := hcell i j hi hj
            rw [Nat.add_assoc, hu]
            simp [hu]
          · rw [List.getElem?_eq_none (by simp; omega), List.getElem?_eq_none (by omega)]
        rw [this]
        exact hy
/-- A field of a struct: what its cells are. -/
theorem trod_at {fs : Array Field} {fuel : Nat} {cs : List Value} {x : DataW H × List MemPlace} (ht : P.underlying t = some (.struct fs)) (hf : DataW.trod enc P w base spare held fuel t cs = some x) (i off k : Nat) (ty : TypeId) (hy : (fs[i]?).map (fun y => (y.offset, y.type)) = some (off, ty)) (hk : P.cellsOf ty = k) :
    ∃ fu z, DataW.trod enc P w base spare held fu ty ((cs.drop off).take k) = some z := by
  obtain ⟨xs, n, _, _, hl, hlen, hel⟩ := DataW.trod_struct ht hf
  cases e : fs[i]? with
  | none => rw [e] at hy; cases hy
  | some y =>
    rw [e] at hy
    simp at hy
    obtain ⟨rfl, rfl⟩ := hy
    have h1 := hel i y e
    subst hk
    have hil : i < fs.size := by rw [Array.getElem?_eq_some_iff] at e; exact e.1
    rw [List.getElem?_eq_getElem (by rw [hlen]; exact hil)] at h1
    exact ⟨n, _, h1⟩
/-- A slice of ints, of bools, among cells. -/
theorem trod_ints {k : IntKind} {fuel : Nat} {cs : List Value} {x : DataW H × List MemPlace} (ht : P.underlying t = some (.slice e)) (he : P.underlying e = some (.int k)) (hce : P.cellsOf e = 1) (hf : DataW.trod enc P w base spare held fuel t cs = some x) :
    ∃ v n, ∃ zs : List Int, cs = [v] ∧ Rd w (Old w) 1 v n (zs.map (Value.int k)) ∧ ∀ z ∈ zs, (Lit.int k z).wf = true := by
  obtain ⟨v, n, xs, hcs, hr, _, fu, hx⟩ := trod_slice ht 1 hce (by decide) hf
  have hl : xs.length = n * 1 := by obtain ⟨_, _, _, _, hl, _⟩ := hr; exact hl
  obtain ⟨zs, rfl, hz⟩ := all_ints (k := k) xs fun j hj => by
    obtain ⟨y, hy⟩ := hx j (by omega)
    obtain ⟨q, hq, hok⟩ := kind_trod 1 e 0 (some k) (by unfold kindAt; rw [he]; rfl) fu _ _ hy
    rw [List.getElem?_take_of_lt (by decide), List.getElem?_drop] at hq
    exact ⟨q, by rw [← hq]; congr 1; omega, hok⟩
  exact ⟨v, n, zs, hcs, hr, hz⟩
theorem trod_bools {fuel : Nat} {cs : List Value} {x : DataW H × List MemPlace} (ht : P.underlying t = some (.slice e)) (he : P.underlying e = some .bool) (hce : P.cellsOf e = 1) (hf : DataW.trod enc P w base spare held fuel t cs = some x) :
    ∃ v n, ∃ zs : List Bool, cs = [v] ∧ Rd w (Old w) 1 v n (boolsV zs) := by
  obtain ⟨v, n, xs, hcs, hr, _, fu, hx⟩ := trod_slice ht 1 hce (by decide) hf
  have hl : xs.length = n * 1 := by obtain ⟨_, _, _, _, hl, _⟩ := hr; exact hl
  obtain ⟨zs, rfl⟩ := all_bools xs fun j hj => by
    obtain ⟨y, hy⟩ := hx j (by omega)
    obtain ⟨q, hq, hok⟩ := kind_trod 1 e 0 none (by unfold kindAt; rw [he]; rfl) fu _ _ hy
    rw [List.getElem?_take_of_lt (by decide), List.getElem?_drop] at hq
    exact ⟨q, by rw [← hq]; congr 1; omega, hok⟩
  exact ⟨v, n, zs, hcs, hr⟩
/-- A struct of four cells: an int, a slice of ints of a kind, a slice of bools, an int of a kind. -/
theorem opened_block {fs : Array Field} {t0 t1 t2 t3 e1 e2 : TypeId} {k1 k3 : IntKind} (ht : P.underlying t = some (.struct fs)) (hc : P.cellsOf t = 4)
    (y0 : (fs[0]?).map (fun y => (y.offset, y.type)) = some (0, t0)) (y1 : (fs[1]?).map (fun y => (y.offset, y.type)) = some (1, t1)) (y2 : (fs[2]?).map (fun y => (y.offset, y.type)) = some (2, t2)) (y3 : (fs[3]?).map (fun y => (y.offset, y.type)) = some (3, t3))
    (c0 : P.cellsOf t0 = 1) (c1 : P.cellsOf t1 = 1) (c2 : P.cellsOf t2 = 1) (c3 : P.cellsOf t3 = 1) (u0 : P.underlying t0 = some (.int .i64)) (u1 : P.underlying t1 = some (.slice e1)) (u2 : P.underlying t2 = some (.slice e2)) (u3 : P.underlying t3 = some (.int k3))
    (ue1 : P.underlying e1 = some (.int k1)) (ue2 : P.underlying e2 = some .bool) (ce1 : P.cellsOf e1 = 1) (ce2 : P.cellsOf e2 = 1) (hval : Value.okWide P w r b0 t v) (hd : DataW.Trod enc P w base spare held t v d ps) :
    ∃ (p : Int) (w1 w2 : Value) (n1 n2 : Nat) (zs : List Int) (R : List Bool) (l : Int), v = .agg #[.int .i64 p, w1, w2, .int k3 l] ∧ (-9223372036854775808 ≤ p ∧ p ≤ 9223372036854775807) ∧ Rd w (Old w) 1 w1 n1 (zs.map (Value.int k1)) ∧ (∀ z ∈ zs, (Lit.int k1 z).wf = true) ∧ Rd w (Old w) 1 w2 n2 (boolsV R) ∧ (Lit.int k3 l).wf = true := by
  obtain ⟨cs, rfl, hs⟩ : ∃ cs, v = .agg cs ∧ cs.size = P.cellsOf t := by
    unfold Value.okWide at hval
    rw [ht] at hval
    obtain ⟨cs, h1, h2, _⟩ := hval
    exact ⟨cs, h1, h2⟩
  obtain ⟨fuel, hf⟩ := hd
  rw [hc] at hs
  obtain ⟨ls, rfl⟩ : ∃ ls : List Value, cs = ls.toArray := ⟨cs.toList, by simp⟩
  match ls, hs with
  | [a, b, c, d], _ =>
    have hf2 : DataW.trod enc P w base spare held fuel t [a, b, c, d] = _ := hf
    obtain ⟨f0, x0, h0⟩ := trod_at ht hf2 0 0 1 t0 y0 c0
    obtain ⟨f1, x1, h1⟩ := trod_at ht hf2 1 1 1 t1 y1 c1
    obtain ⟨f2, x2, h2⟩ := trod_at ht hf2 2 2 1 t2 y2 c2
    obtain ⟨f3, x3, h3⟩ := trod_at ht hf2 3 3 1 t3 y3 c3
    simp only [List.drop_zero, List.drop_succ_cons, List.take_succ_cons, List.take_zero] at h0 h1 h2 h3
    obtain ⟨q0, e0, o0⟩ := kind_trod 1 t0 0 (some .i64) (by unfold kindAt; rw [u0]; rfl) f0 _ _ h0
    obtain ⟨q3, e3, o3⟩ := kind_trod 1 t3 0 (some k3) (by unfold kindAt; rw [u3]; rfl) f3 _ _ h3
    obtain ⟨v1, n1, zs, hv1, r1, z1⟩ := trod_ints u1 ue1 ce1 h1
    obtain ⟨v2, n2, R, hv2, r2⟩ := trod_bools u2 ue2 ce2 h2
    simp at e0 e3 hv1 hv2
    subst e0 e3 hv1 hv2
    obtain ⟨p, rfl, wp⟩ := o0
    obtain ⟨l, rfl, wl⟩ := o3
    have := bounds_i64 wp
    exact ⟨p, _, _, n1, n2, zs, R, l, rfl, ⟨by omega, by omega⟩, r1, z1, r2, wl⟩
/-- A slice of slices of bools. -/
theorem opened_bss {e2 : TypeId} (ht : P.underlying t = some (.slice e)) (he : P.underlying e = some (.slice e2)) (hc1 : P.cellsOf e = 1) (he2 : P.underlying e2 = some .bool) (hc2 : P.cellsOf e2 = 1) (hval : Value.okWide P w r b0 t v) (hd : DataW.Trod enc P w base spare held t v d ps) :
    ∃ n xs, Rd w (Old w) 1 v n xs ∧ ∀ i, i < n → ∃ (u : Value) (m : Nat) (X : List Bool), xs[i]? = some u ∧ Rd w (Old w) 1 u m (boolsV X) := by
  obtain ⟨fuel, hf⟩ := hd
  obtain ⟨a, len, cap, rfl⟩ := okWide_slice ht hval
  obtain ⟨v, n, xs, hcs, hr, _, fu, hx⟩ := trod_slice ht 1 hc1 (by decide) hf
  have hv : v = .slice a len cap := by simpa [Value.cells] using hcs.symm
  subst hv
  refine ⟨n, xs, hr, fun i hi => ?_⟩
  obtain ⟨y, hy⟩ := hx i hi
  obtain ⟨u, m, ys, hu, hru, _, fu2, hx2⟩ := trod_slice he 1 hc2 (by decide) hy
  have hxl : xs.length = n * 1 := by obtain ⟨_, _, _, _, hl, _⟩ := hr; exact hl
  have hyl : ys.length = m * 1 := by obtain ⟨_, _, _, _, hl, _⟩ := hru; exact hl
  obtain ⟨zs, rfl⟩ := all_bools ys fun j hj => by
    obtain ⟨y2, hy2⟩ := hx2 j (by omega)
    obtain ⟨q, hq, hok⟩ := kind_trod 1 e2 0 none (by unfold kindAt; rw [he2]; rfl) fu2 _ _ hy2
    rw [List.getElem?_take_of_lt (by decide), List.getElem?_drop] at hq
    exact ⟨q, by rw [← hq]; congr 1; omega, hok⟩
  refine ⟨u, m, zs, ?_, hru⟩
  have := congrArg (fun l => l[0]?) hu
  simp only [List.getElem?_cons_zero] at this
  rw [List.getElem?_take_of_lt (by decide), List.getElem?_drop] at this
  rw [← this]
  congr 1
  omega
end
end Go.Proofs.Ytonkhgmfeakbcaa
