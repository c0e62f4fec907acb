/-
  Arguments that came in, opened: numbers, bools, arrays and structs of them, slices of all these.
-/
import Derived.Test.YtkflicifngohcaaGreatDoorJ4
import Derived.ProofKit
import Derived.OpenShut
import Derived.ChangeOld
import Derived.Deep.Slices
namespace Go.Proofs.YtkflicifngohcaaGreatDoor
open Go.ChangeShapes Go.WideShapes Go.ChangeAt Go.RowKit Go.Deep
/-- All blocks that are there. -/
def Old (w : World) : Nat → Prop := fun k => k < w.heap.size
def boolsV (l : List Bool) : List Value := l.map Value.bool

/-- A value of a kind: an integer kind, or bool. -/
def okV : Option IntKind → Value → Prop
  | some k, v => ∃ n, v = .int k n ∧ (Lit.int k n).wf = true
  | none, v => ∃ b, v = .bool b
/-- The kind of a cell of a flat type. -/
def kindAt (P : Program) : Nat → TypeId → Nat → Option (Option IntKind)
  | 0, _, _ => none
  | f + 1, t, j => match P.underlying t with
    | some (.int k) => if j = 0 then some (some k) else none
    | some .bool => if j = 0 then some none else none
    | some (.array n e) => if j < n * P.cellsOf e then kindAt P f e (j % P.cellsOf e) else none
    | some (.struct fs) => match fs.toList.find? (fun x => decide (x.offset ≤ j) && decide (j < x.offset + P.cellsOf x.type)) with
      | some x => kindAt P f x.type (j - x.offset)
      | none => none
    | _ => none

section
variable {H : Type} {enc : TypeId × Value → H} {P : Program} {w : World} {b0 base : Nat} {spare : Nat → Bool} {held : Bool} {r : Reach} {t e : TypeId} {v : Value} {d : DataW H} {ps : List MemPlace}
theorem kind_trod : ∀ (f : Nat) (t : TypeId) (j : Nat) (κ : Option IntKind), kindAt P f t j = some κ → ∀ (fuel : Nat) (cs : List Value) (x : DataW H × List MemPlace), DataW.trod enc P w base spare held fuel t cs = some x → ∃ v, cs[j]? = some v ∧ okV κ v := by
  intro f
  induction f with
  | zero => intro t j κ h; simp [kindAt] at h
  | succ f ih =>
    intro t j κ h fuel cs x hx
    unfold kindAt at h
    split at h
    · rename_i k hk
      split at h
      · rename_i hj
        subst hj
        injection h with h
        subst h
        obtain ⟨n, rfl, _, wf⟩ := DataW.trod_int hk hx
        exact ⟨_, rfl, n, rfl, wf⟩
      · cases h
    · rename_i hk
      split at h
      · rename_i hj
        subst hj
        injection h with h
        subst h
        obtain ⟨n, rfl, _⟩ := DataW.trod_bool hk hx
        exact ⟨_, rfl, n, rfl⟩
      · cases h
    · rename_i n e hk
      split at h
      · rename_i hj
        obtain ⟨xs, m, _, _, _, hxl, hel⟩ := DataW.trod_array hk hx
        have hc : 0 < P.cellsOf e := by
          rcases Nat.eq_zero_or_pos (P.cellsOf e) with h0 | h0
          · rw [h0] at hj; omega
          · exact h0
        have hi : j / P.cellsOf e < n := Nat.div_lt_of_lt_mul (by rw [Nat.mul_comm]; exact hj)
        have h1 := hel _ hi
        rw [List.getElem?_eq_getElem (by omega)] at h1
        obtain ⟨v, hv, hok⟩ := ih _ _ _ h _ _ _ h1
        have hm : j % P.cellsOf e < P.cellsOf e := Nat.mod_lt _ hc
        rw [List.getElem?_take_of_lt hm, List.getElem?_drop] at hv
        refine ⟨v, ?_, hok⟩
        rw [← hv]
        congr 1
        have := Nat.div_add_mod j (P.cellsOf e)
        rw [Nat.mul_comm] at this
        omega
      · cases h
    · rename_i fs hk
      split at h
      · rename_i y hy
        obtain ⟨xs, m, _, _, _, hxl, hel⟩ := DataW.trod_struct hk hx
        have hp := List.find?_some hy
        simp only [Bool.and_eq_true, decide_eq_true_eq] at hp
        obtain ⟨i, hi, he⟩ := List.getElem_of_mem (List.mem_of_find?_eq_some hy)
        have hfi : fs[i]? = some y := by rw [← Array.getElem?_toList, List.getElem?_eq_getElem hi, he]
        have h1 := hel i y hfi
        rw [List.getElem?_eq_getElem (by rw [hxl]; simpa using hi)] at h1
        obtain ⟨v, hv, hok⟩ := ih _ _ _ h _ _ _ h1
        rw [List.getElem?_take_of_lt (by omega), List.getElem?_drop] at hv
        refine ⟨v, ?_, hok⟩
        rw [← hv]
        congr 1
        omega
      · cases h
    · cases h

theorem opened_u64 (ht : P.underlying t = some (.int .u64)) (hval : Value.okWide P w r b0 t v) (hd : DataW.Trod enc P w base spare held t v d ps) : ∃ x : BitVec 64, v = .int .u64 (n64 x) := by
  obtain ⟨a, rfl, _, _, wf⟩ := open_int ht hval hd
  have := bounds_u64 wf
  exact ⟨bv a, by rw [n64_bv ⟨by omega, by omega⟩]⟩
theorem opened_bool (ht : P.underlying t = some .bool) (hval : Value.okWide P w r b0 t v) (hd : DataW.Trod enc P w base spare held t v d ps) : ∃ x : Bool, v = .bool x := by
  obtain ⟨a, rfl, _, _⟩ := open_bool ht hval hd
  exact ⟨a, rfl⟩
theorem opened_int (ht : P.underlying t = some (.int .i64)) (hval : Value.okWide P w r b0 t v) (hd : DataW.Trod enc P w base spare held t v d ps) : ∃ x : Int, v = .int .i64 x ∧ (-9223372036854775808 ≤ x ∧ x ≤ 9223372036854775807) := by
  obtain ⟨a, rfl, _, _, wf⟩ := open_int ht hval hd
  have := bounds_i64 wf
  exact ⟨a, rfl, by omega, by omega⟩
theorem okV_u64 {v : Value} (h : okV (some .u64) v) : ∃ x : BitVec 64, v = .int .u64 (n64 x) := by
  obtain ⟨a, rfl, wf⟩ := h
  have := bounds_u64 wf
  exact ⟨bv a, by rw [n64_bv ⟨by omega, by omega⟩]⟩
theorem okV_i64 {v : Value} (h : okV (some .i64) v) : ∃ x : Int, v = .int .i64 x ∧ (-9223372036854775808 ≤ x ∧ x ≤ 9223372036854775807) := by
  obtain ⟨a, rfl, wf⟩ := h
  have := bounds_i64 wf
  exact ⟨a, rfl, by omega, by omega⟩
/-- A flat value: an array or a struct. -/
theorem opened_flat {fs : Array Field} {n : Nat} (ht : P.underlying t = some (.struct fs) ∨ P.underlying t = some (.array n e)) (hval : Value.okWide P w r b0 t v) (hd : DataW.Trod enc P w base spare held t v d ps) :
    ∃ cs : Array Value, v = .agg cs ∧ cs.size = P.cellsOf t ∧ ∀ f j κ, kindAt P f t j = some κ → ∃ u, cs[j]? = some u ∧ okV κ u := by
  obtain ⟨cs, rfl, hs⟩ : ∃ cs, v = .agg cs ∧ cs.size = P.cellsOf t := by
    unfold Value.okWide at hval
    rcases ht with ht | ht <;> rw [ht] at hval <;> obtain ⟨cs, h1, h2, _⟩ := hval <;> exact ⟨cs, h1, h2⟩
  obtain ⟨fuel, hf⟩ := hd
  refine ⟨cs, rfl, hs, fun f j κ hk => ?_⟩
  obtain ⟨u, hu, hok⟩ := kind_trod f t j κ hk fuel _ _ hf
  exact ⟨u, by simpa [Value.cells] using hu, hok⟩
theorem opened_ar2 (ht : P.underlying t = some (.array 2 e)) (hc : P.cellsOf t = 2) (h0 : kindAt P 3 t 0 = some (some .u64)) (h1 : kindAt P 3 t 1 = some (some .u64)) (hval : Value.okWide P w r b0 t v) (hd : DataW.Trod enc P w base spare held t v d ps) :
    ∃ x y : BitVec 64, v = .agg #[.int .u64 (n64 x), .int .u64 (n64 y)] := by
  obtain ⟨cs, rfl, hs, hk⟩ := opened_flat (fs := #[]) (.inr ht) hval hd
  obtain ⟨u0, e0, o0⟩ := hk _ _ _ h0
  obtain ⟨u1, e1, o1⟩ := hk _ _ _ h1
  obtain ⟨x, rfl⟩ := okV_u64 o0
  obtain ⟨y, rfl⟩ := okV_u64 o1
  refine ⟨x, y, ?_⟩
  congr 1
  apply Array.ext
  · rw [hs, hc]; rfl
  · intro i hi _
    rw [hs, hc] at hi
    match i, hi with
    | 0, _ => simpa [Array.getElem?_eq_some_iff] using (Array.getElem?_eq_some_iff.1 e0).2
    | 1, _ => simpa [Array.getElem?_eq_some_iff] using (Array.getElem?_eq_some_iff.1 e1).2

/-- A slice of flat values. -/
theorem opened_slice (ht : P.underlying t = some (.slice e)) (c : Nat) (hce : P.cellsOf e = c) (hc : 0 < c) (hval : Value.okWide P w r b0 t v) (hd : DataW.Trod enc P w base spare held t v d ps) :
    ∃ n xs, Rd w (Old w) c v n xs ∧ ∀ f j κ, j < n * c → kindAt P f e (j % c) = some κ → ∃ u, xs[j]? = some u ∧ okV κ u := by
  obtain ⟨a, len, cap, rfl⟩ := okWide_slice ht hval
  obtain ⟨fuel, hf⟩ := hd
  rcases open_slice ht hf with ⟨hcs, _⟩ | ⟨a, len, cap, m, n, D, Pl, hcs, hb, hl, hm, hmm, _, hx⟩
  · simp [Value.cells] at hcs
    obtain ⟨rfl, rfl, rfl⟩ := hcs
    exact ⟨0, [], Rd.nil _ _ _, fun f j κ hj _ => absurd hj (by omega)⟩
  · simp [Value.cells] at hcs
    obtain ⟨rfl, rfl, rfl⟩ := hcs
    have hml : len ≤ m := by rw [hmm]; split <;> omega
    have key : ∀ j, j < len * c → ∃ u, w.cell? ((a.add (j / c * c)).add (j % c)) = some u ∧ ∀ f κ, kindAt P f e (j % c) = some κ → okV κ u := by
      intro j hj
      have hi : j / c < len := Nat.div_lt_of_lt_mul (by rw [Nat.mul_comm]; exact hj)
      obtain ⟨cs', h1, h2⟩ := hx (j / c) (by omega)
      rw [hce] at h1
      obtain ⟨_, hcl, hcc⟩ := World.cells?_some h1
      have hmj : j % c < c := Nat.mod_lt _ hc
      refine ⟨cs'[j % c]'(by omega), by rw [hcc _ hmj, List.getElem?_eq_getElem (by omega)], fun f κ hk => ?_⟩
      obtain ⟨u, hu, hok⟩ := kind_trod f e _ κ hk n cs' _ h2
      rw [List.getElem?_eq_getElem (by omega)] at hu
      injection hu with hu
      rw [hu]
      exact hok
    rcases Nat.eq_zero_or_pos len with h0 | h0
    · subst h0
      exact ⟨0, [], ⟨_, _, rfl, Nat.zero_le _, by simp, fun h => absurd h (by omega)⟩, fun f j κ hj _ => absurd hj (by omega)⟩
    · have hpos : 0 < len * c := Nat.mul_pos h0 hc
      obtain ⟨b, o, spot⟩ := a
      obtain ⟨u0, hu0, _⟩ := key 0 hpos
      have hsp : spot = none := by
        have := World.cell?_spot hu0
        simpa [Addr.add] using this
      subst hsp
      have hcell : ∀ j, j < len * c → ∃ u, w.cell? ⟨b, o + j, none⟩ = some u ∧ ∀ f κ, kindAt P f e (j % c) = some κ → okV κ u := by
        intro j hj
        obtain ⟨u, hu, hok⟩ := key j hj
        rw [add_addr, add_addr] at hu
        have : o + j / c * c + j % c = o + j := by have := Nat.div_add_mod j c; rw [Nat.mul_comm] at this; omega
        rw [this] at hu
        exact ⟨u, hu, hok⟩
      refine ⟨len, (List.range (len * c)).map fun j => (w.cell? ⟨b, o + j, none⟩).getD undef, ⟨_, _, rfl, by omega, by simp, fun _ => ⟨b, o, rfl, ?_, ?_, ?_⟩⟩, ?_⟩
      · obtain ⟨u, hu, _⟩ := hcell 0 hpos
        exact World.block_lt_of_cell? _ _ hu
      · obtain ⟨u, hu, _⟩ := hcell 0 hpos
        exact World.block_lt_of_cell? _ _ hu
      · intro j u hu
        rw [List.getElem?_map] at hu
        rcases Nat.lt_or_ge j (len * c) with hj | hj
        · rw [List.getElem?_range hj] at hu
          obtain ⟨u', hu', _⟩ := hcell j hj
          rw [hu']
          simpa [hu'] using hu
        · rw [List.getElem?_eq_none (by simpa using hj)] at hu
          cases hu
      · intro f j κ hj hk
        obtain ⟨u, hu, hok⟩ := hcell j hj
        exact ⟨u, by rw [List.getElem?_map, List.getElem?_range hj]; simp [hu], hok f κ hk⟩
/-- Values, each of the kind, are a list of such numbers. -/
theorem all_ints {k : IntKind} : ∀ (xs : List Value), (∀ j, j < xs.length → ∃ u, xs[j]? = some u ∧ okV (some k) u) → ∃ zs : List Int, xs = zs.map (Value.int k) ∧ ∀ z ∈ zs, (Lit.int k z).wf = true
  | [], _ => ⟨[], rfl, fun _ h => by cases h⟩
  | x :: xs, h => by
    obtain ⟨u, hu, n, rfl, wf⟩ := h 0 (by simp)
    obtain ⟨zs, rfl, hz⟩ := all_ints xs fun j hj => h (j + 1) (by simpa using hj)
    simp at hu
    subst hu
    refine ⟨n :: zs, rfl, fun z hz2 => ?_⟩
    rcases List.mem_cons.1 hz2 with rfl | h2
    · exact wf
    · exact hz z h2
theorem all_bools : ∀ (xs : List Value), (∀ j, j < xs.length → ∃ u, xs[j]? = some u ∧ okV none u) → ∃ zs : List Bool, xs = boolsV zs
  | [], _ => ⟨[], rfl⟩
  | x :: xs, h => by
    obtain ⟨u, hu, n, rfl⟩ := h 0 (by simp)
    obtain ⟨zs, rfl⟩ := all_bools xs fun j hj => h (j + 1) (by simpa using hj)
    simp at hu
    subst hu
    exact ⟨n :: zs, rfl⟩
theorem u64s_of (zs : List Int) (h : ∀ z ∈ zs, (Lit.int .u64 z).wf = true) : zs.map (Value.int .u64) = u64s (zs.map bv) := by
  unfold u64s
  rw [List.map_map]
  apply List.map_congr_left
  intro z hz
  have := bounds_u64 (h z hz)
  simp only [Function.comp]
  rw [n64_bv ⟨by omega, by omega⟩]
theorem opened_ints {k : IntKind} (ht : P.underlying t = some (.slice e)) (he : P.underlying e = some (.int k)) (hce : P.cellsOf e = 1) (hval : Value.okWide P w r b0 t v) (hd : DataW.Trod enc P w base spare held t v d ps) :
    ∃ (n : Nat) (zs : List Int), Rd w (Old w) 1 v n (zs.map (Value.int k)) ∧ ∀ z ∈ zs, (Lit.int k z).wf = true := by
  obtain ⟨n, xs, hr, hk⟩ := opened_slice ht 1 hce (by decide) hval hd
  have hl : xs.length = n * 1 := by obtain ⟨_, _, _, _, hl, _⟩ := hr; exact hl
  obtain ⟨zs, rfl, hz⟩ := all_ints xs fun j hj => hk 1 j (some k) (by omega) (by unfold kindAt; rw [he, Nat.mod_one]; rfl)
  exact ⟨n, zs, hr, hz⟩
theorem opened_us (ht : P.underlying t = some (.slice e)) (he : P.underlying e = some (.int .u64)) (hce : P.cellsOf e = 1) (hval : Value.okWide P w r b0 t v) (hd : DataW.Trod enc P w base spare held t v d ps) :
    ∃ (n : Nat) (C : List (BitVec 64)), Rd w (Old w) 1 v n (u64s C) := by
  obtain ⟨n, zs, hr, hz⟩ := opened_ints ht he hce hval hd
  rw [u64s_of _ hz] at hr
  exact ⟨n, _, hr⟩
theorem opened_bs (ht : P.underlying t = some (.slice e)) (he : P.underlying e = some .bool) (hce : P.cellsOf e = 1) (hval : Value.okWide P w r b0 t v) (hd : DataW.Trod enc P w base spare held t v d ps) :
    ∃ (n : Nat) (l : List Bool), Rd w (Old w) 1 v n (boolsV l) := by
  obtain ⟨n, xs, hr, hk⟩ := opened_slice ht 1 hce (by decide) hval hd
  have hl : xs.length = n * 1 := by obtain ⟨_, _, _, _, hl, _⟩ := hr; exact hl
  obtain ⟨zs, rfl⟩ := all_bools xs fun j hj => hk 1 j none (by omega) (by unfold kindAt; rw [he, Nat.mod_one]; rfl)
  exact ⟨n, zs, hr⟩
/-- A flat value of n cells, written out. -/
theorem opened_cells {fs : Array Field} {n k : Nat} (ht : P.underlying t = some (.struct fs) ∨ P.underlying t = some (.array n e)) (hc : P.cellsOf t = k) (hval : Value.okWide P w r b0 t v) (hd : DataW.Trod enc P w base spare held t v d ps) :
    ∃ l : List Value, v = .agg l.toArray ∧ l.length = k ∧ ∀ f j κ, kindAt P f t j = some κ → ∃ u, l[j]? = some u ∧ okV κ u := by
  obtain ⟨cs, rfl, hs, hk⟩ := opened_flat ht hval hd
  exact ⟨cs.toList, by simp, by rw [Array.length_toList, hs, hc], fun f j κ h => by simpa using hk f j κ h⟩
/-- A number and three ints. -/
theorem opened_uiii {fs : Array Field} (ht : P.underlying t = some (.struct fs)) (hc : P.cellsOf t = 4) (h0 : kindAt P 3 t 0 = some (some .u64)) (h1 : kindAt P 3 t 1 = some (some .i64)) (h2 : kindAt P 3 t 2 = some (some .i64)) (h3 : kindAt P 3 t 3 = some (some .i64))
    (hval : Value.okWide P w r b0 t v) (hd : DataW.Trod enc P w base spare held t v d ps) :
    ∃ (m : BitVec 64) (x y n : Int), v = .agg #[.int .u64 (n64 m), .int .i64 x, .int .i64 y, .int .i64 n] := by
  obtain ⟨l, rfl, hl, hk⟩ := opened_cells (n := 0) (e := 0) (.inl ht) hc hval hd
  obtain ⟨u0, e0, o0⟩ := hk _ _ _ h0
  obtain ⟨u1, e1, o1⟩ := hk _ _ _ h1
  obtain ⟨u2, e2, o2⟩ := hk _ _ _ h2
  obtain ⟨u3, e3, o3⟩ := hk _ _ _ h3
  obtain ⟨m, rfl⟩ := okV_u64 o0
  obtain ⟨x, rfl, _⟩ := okV_i64 o1
  obtain ⟨y, rfl, _⟩ := okV_i64 o2
  obtain ⟨n, rfl, _⟩ := okV_i64 o3
  match l, hl with
  | [a, b, c, d], _ =>
    simp at e0 e1 e2 e3
    subst e0 e1 e2 e3
    exact ⟨m, x, y, n, rfl⟩
end
end Go.Proofs.YtkflicifngohcaaGreatDoor

/-
  Arguments that came in, opened: slices whose elements are slices, structs with slices inside.
-/
namespace Go.Proofs.YtkflicifngohcaaGreatDoor
open Go.ChangeShapes Go.WideShapes Go.ChangeAt Go.RowKit Go.Deep
set_option linter.unusedVariables false
section
variable {H : Type} {enc : TypeId × Value → H} {P : Program} {w : World} {b0 base : Nat} {spare : Nat → Bool} {held : Bool} {r : Reach} {t e : TypeId} {v : Value} {d : DataW H} {ps : List MemPlace}
/-- A slice among cells: what it reads, and that its elements are of their type. -/
theorem trod_slice {fuel : Nat} {cs : List Value} {x : DataW H × List MemPlace} (ht : P.underlying t = some (.slice e)) (c : Nat) (hce : P.cellsOf e = c) (hc : 0 < c) (hf : DataW.trod enc P w base spare held fuel t cs = some x) :
    ∃ v n xs, cs = [v] ∧ Rd w (Old w) c v n xs ∧ (∀ m k, v = .slice none m k → m = 0 ∧ k = 0) ∧ ∃ fu, ∀ i, i < n → ∃ y, DataW.trod enc P w base spare held fu e ((xs.drop (i * c)).take c) = some y := by
  rcases open_slice ht hf with ⟨hcs, _⟩ | ⟨a, len, cap, m, n, D, Pl, hcs, hb, hl, hm, hmm, _, hx⟩
  · exact ⟨_, 0, [], hcs, Rd.nil _ _ _, (fun m k h => by injection h with _ h1 h2; exact ⟨h1.symm, h2.symm⟩), 0, fun i hi => absurd hi (Nat.not_lt_zero _)⟩
  · obtain ⟨vv, hvv⟩ : ∃ vv, Value.slice (some a) len cap = vv := ⟨_, rfl⟩
    rw [hvv] at hcs
    suffices hgoal : ∃ xs, Rd w (Old w) c vv len xs ∧ (∀ m k, vv = .slice none m k → m = 0 ∧ k = 0) ∧ ∃ fu, ∀ i, i < len → ∃ y, DataW.trod enc P w base spare held fu e ((xs.drop (i * c)).take c) = some y by
      obtain ⟨xs, h1, h2, h3⟩ := hgoal
      exact ⟨vv, len, xs, hcs, h1, h2, h3⟩
    subst hvv
    have hml : len ≤ m := by rw [hmm]; split <;> omega
    have key : ∀ i, i < len → ∃ cs', cs'.length = c ∧ (∀ j, j < c → w.cell? ((a.add (i * c)).add j) = cs'[j]?) ∧ ∃ y, DataW.trod enc P w base spare held n e cs' = some y := by
      intro i hi
      obtain ⟨cs', h1, h2⟩ := hx i (by omega)
      rw [hce] at h1
      obtain ⟨_, hcl, hcc⟩ := World.cells?_some h1
      exact ⟨cs', hcl, hcc, _, h2⟩
    rcases Nat.eq_zero_or_pos len with h0 | h0
    · subst h0
      exact ⟨[], ⟨_, _, rfl, Nat.zero_le _, by simp, fun h => absurd h (by omega)⟩, (fun m k h => by injection h with h0 _ _; cases h0), 0, fun i hi => absurd hi (Nat.not_lt_zero _)⟩
    · obtain ⟨b, o, spot⟩ := a
      obtain ⟨cs0, l0, c0, _⟩ := key 0 h0
      have u0 := c0 0 hc
      rw [List.getElem?_eq_getElem (by omega)] at u0
      have hsp : spot = none := by
        have := World.cell?_spot u0
        simpa [Addr.add] using this
      subst hsp
      have hblk : b < w.heap.size := by
        have := World.block_lt_of_cell? _ _ u0
        rw [add_addr, add_addr] at this
        exact this
      have hcell : ∀ i j, i < len → j < c → ∃ u, w.cell? ⟨b, o + (i * c + j), none⟩ = some u := by
        intro i j hi hj
        obtain ⟨cs', l1, c1, _⟩ := key i hi
        have := c1 j hj
        rw [add_addr, add_addr, List.getElem?_eq_getElem (by omega)] at this
        exact ⟨_, by rw [← this]; congr 2; omega⟩
      refine ⟨(List.range (len * c)).map fun j => (w.cell? ⟨b, o + j, none⟩).getD undef, ⟨_, _, rfl, by omega, by simp, fun _ => ⟨b, o, rfl, hblk, hblk, ?_⟩⟩, (fun m k h => by injection h with h0 _ _; cases h0), n, ?_⟩
      · intro j u hu
        rw [List.getElem?_map] at hu
        rcases Nat.lt_or_ge j (len * c) with hj | hj
        · rw [List.getElem?_range hj] at hu
          have hi : j / c < len := Nat.div_lt_of_lt_mul (by rw [Nat.mul_comm]; exact hj)
          obtain ⟨u', hu'⟩ := hcell (j / c) (j % c) hi (Nat.mod_lt _ hc)
          rw [show j / c * c + j % c = j by have := Nat.div_add_mod j c; rw [Nat.mul_comm] at this; omega] at hu'
          rw [hu']
          simpa [hu'] using hu
        · rw [List.getElem?_eq_none (by simpa using hj)] at hu
          cases hu
      · intro i hi
        obtain ⟨cs', l1, c1, y, hy⟩ := key i hi
        refine ⟨y, ?_⟩
        have : (List.drop (i * c) ((List.range (len * c)).map fun j => (w.cell? ⟨b, o + j, none⟩).getD undef)).take c = cs' := by
          apply List.ext_getElem?
          intro j
          have hic : i * c + c ≤ len * c := by rw [← Nat.succ_mul]; exact Nat.mul_le_mul_right _ hi
          by_cases hj : j < c
          · rw [List.getElem?_take_of_lt hj, List.getElem?_drop, List.getElem?_map, List.getElem?_range (by omega), ← c1 j hj, add_addr, add_addr]
            obtain ⟨u, hu⟩ := hcell i j hi hj
            rw [Nat.add_assoc, hu]
            simp [hu]
          · rw [List.getElem?_eq_none (by simp; omega), List.getElem?_eq_none (by omega)]
        rw [this]
        exact hy
/-- A field of a struct: what its cells are. -/
theorem trod_at {fs : Array Field} {fuel : Nat} {cs : List Value} {x : DataW H × List MemPlace} (ht : P.underlying t = some (.struct fs)) (hf : DataW.trod enc P w base spare held fuel t cs = some x) (i off k : Nat) (ty : TypeId) (hy : (fs[i]?).map (fun y => (y.offset, y.type)) = some (off, ty)) (hk : P.cellsOf ty = k) :
    ∃ fu z, DataW.trod enc P w base spare held fu ty ((cs.drop off).take k) = some z := by
  obtain ⟨xs, n, _, _, hl, hlen, hel⟩ := DataW.trod_struct ht hf
  cases e : fs[i]? with
  | none => rw [e] at hy; cases hy
  | some y =>
    rw [e] at hy
    simp at hy
    obtain ⟨rfl, rfl⟩ := hy
    have h1 := hel i y e
    subst hk
    have hil : i < fs.size := by rw [Array.getElem?_eq_some_iff] at e; exact e.1
    rw [List.getElem?_eq_getElem (by rw [hlen]; exact hil)] at h1
    exact ⟨n, _, h1⟩
/-- A slice of ints, of bools, among cells. -/
theorem trod_ints {k : IntKind} {fuel : Nat} {cs : List Value} {x : DataW H × List MemPlace} (ht : P.underlying t = some (.slice e)) (he : P.underlying e = some (.int k)) (hce : P.cellsOf e = 1) (hf : DataW.trod enc P w base spare held fuel t cs = some x) :
    ∃ v n, ∃ zs : List Int, cs = [v] ∧ Rd w (Old w) 1 v n (zs.map (Value.int k)) ∧ ∀ z ∈ zs, (Lit.int k z).wf = true := by
  obtain ⟨v, n, xs, hcs, hr, _, fu, hx⟩ := trod_slice ht 1 hce (by decide) hf
  have hl : xs.length = n * 1 := by obtain ⟨_, _, _, _, hl, _⟩ := hr; exact hl
  obtain ⟨zs, rfl, hz⟩ := all_ints (k := k) xs fun j hj => by
    obtain ⟨y, hy⟩ := hx j (by omega)
    obtain ⟨q, hq, hok⟩ := kind_trod 1 e 0 (some k) (by unfold kindAt; rw [he]; rfl) fu _ _ hy
    rw [List.getElem?_take_of_lt (by decide), List.getElem?_drop] at hq
    exact ⟨q, by rw [← hq]; congr 1; omega, hok⟩
  exact ⟨v, n, zs, hcs, hr, hz⟩
theorem trod_bools {fuel : Nat} {cs : List Value} {x : DataW H × List MemPlace} (ht : P.underlying t = some (.slice e)) (he : P.underlying e = some .bool) (hce : P.cellsOf e = 1) (hf : DataW.trod enc P w base spare held fuel t cs = some x) :
    ∃ v n, ∃ zs : List Bool, cs = [v] ∧ Rd w (Old w) 1 v n (boolsV zs) := by
  obtain ⟨v, n, xs, hcs, hr, _, fu, hx⟩ := trod_slice ht 1 hce (by decide) hf
  have hl : xs.length = n * 1 := by obtain ⟨_, _, _, _, hl, _⟩ := hr; exact hl
  obtain ⟨zs, rfl⟩ := all_bools xs fun j hj => by
    obtain ⟨y, hy⟩ := hx j (by omega)
    obtain ⟨q, hq, hok⟩ := kind_trod 1 e 0 none (by unfold kindAt; rw [he]; rfl) fu _ _ hy
    rw [List.getElem?_take_of_lt (by decide), List.getElem?_drop] at hq
    exact ⟨q, by rw [← hq]; congr 1; omega, hok⟩
  exact ⟨v, n, zs, hcs, hr⟩
/-- A struct of four cells: an int, a slice of ints of a kind, a slice of bools, an int of a kind. -/
theorem opened_block {fs : Array Field} {t0 t1 t2 t3 e1 e2 : TypeId} {k1 k3 : IntKind} (ht : P.underlying t = some (.struct fs)) (hc : P.cellsOf t = 4)
    (y0 : (fs[0]?).map (fun y => (y.offset, y.type)) = some (0, t0)) (y1 : (fs[1]?).map (fun y => (y.offset, y.type)) = some (1, t1)) (y2 : (fs[2]?).map (fun y => (y.offset, y.type)) = some (2, t2)) (y3 : (fs[3]?).map (fun y => (y.offset, y.type)) = some (3, t3))
    (c0 : P.cellsOf t0 = 1) (c1 : P.cellsOf t1 = 1) (c2 : P.cellsOf t2 = 1) (c3 : P.cellsOf t3 = 1) (u0 : P.underlying t0 = some (.int .i64)) (u1 : P.underlying t1 = some (.slice e1)) (u2 : P.underlying t2 = some (.slice e2)) (u3 : P.underlying t3 = some (.int k3))
    (ue1 : P.underlying e1 = some (.int k1)) (ue2 : P.underlying e2 = some .bool) (ce1 : P.cellsOf e1 = 1) (ce2 : P.cellsOf e2 = 1) (hval : Value.okWide P w r b0 t v) (hd : DataW.Trod enc P w base spare held t v d ps) :
    ∃ (p : Int) (w1 w2 : Value) (n1 n2 : Nat) (zs : List Int) (R : List Bool) (l : Int), v = .agg #[.int .i64 p, w1, w2, .int k3 l] ∧ (-9223372036854775808 ≤ p ∧ p ≤ 9223372036854775807) ∧ Rd w (Old w) 1 w1 n1 (zs.map (Value.int k1)) ∧ (∀ z ∈ zs, (Lit.int k1 z).wf = true) ∧ Rd w (Old w) 1 w2 n2 (boolsV R) ∧ (Lit.int k3 l).wf = true := by
  obtain ⟨cs, rfl, hs⟩ : ∃ cs, v = .agg cs ∧ cs.size = P.cellsOf t := by
    unfold Value.okWide at hval
    rw [ht] at hval
    obtain ⟨cs, h1, h2, _⟩ := hval
    exact ⟨cs, h1, h2⟩
  obtain ⟨fuel, hf⟩ := hd
  rw [hc] at hs
  obtain ⟨ls, rfl⟩ : ∃ ls : List Value, cs = ls.toArray := ⟨cs.toList, by simp⟩
  match ls, hs with
  | [a, b, c, d], _ =>
    have hf2 : DataW.trod enc P w base spare held fuel t [a, b, c, d] = _ := hf
    obtain ⟨f0, x0, h0⟩ := trod_at ht hf2 0 0 1 t0 y0 c0
    obtain ⟨f1, x1, h1⟩ := trod_at ht hf2 1 1 1 t1 y1 c1
    obtain ⟨f2, x2, h2⟩ := trod_at ht hf2 2 2 1 t2 y2 c2
    obtain ⟨f3, x3, h3⟩ := trod_at ht hf2 3 3 1 t3 y3 c3
    simp only [List.drop_zero, List.drop_succ_cons, List.take_succ_cons, List.take_zero] at h0 h1 h2 h3
    obtain ⟨q0, e0, o0⟩ := kind_trod 1 t0 0 (some .i64) (by unfold kindAt; rw [u0]; rfl) f0 _ _ h0
    obtain ⟨q3, e3, o3⟩ := kind_trod 1 t3 0 (some k3) (by unfold kindAt; rw [u3]; rfl) f3 _ _ h3
    obtain ⟨v1, n1, zs, hv1, r1, z1⟩ := trod_ints u1 ue1 ce1 h1
    obtain ⟨v2, n2, R, hv2, r2⟩ := trod_bools u2 ue2 ce2 h2
    simp at e0 e3 hv1 hv2
    subst e0 e3 hv1 hv2
    obtain ⟨p, rfl, wp⟩ := o0
    obtain ⟨l, rfl, wl⟩ := o3
    have := bounds_i64 wp
    exact ⟨p, _, _, n1, n2, zs, R, l, rfl, ⟨by omega, by omega⟩, r1, z1, r2, wl⟩
/-- A slice of slices of bools. -/
theorem opened_bss {e2 : TypeId} (ht : P.underlying t = some (.slice e)) (he : P.underlying e = some (.slice e2)) (hc1 : P.cellsOf e = 1) (he2 : P.underlying e2 = some .bool) (hc2 : P.cellsOf e2 = 1) (hval : Value.okWide P w r b0 t v) (hd : DataW.Trod enc P w base spare held t v d ps) :
    ∃ n xs, Rd w (Old w) 1 v n xs ∧ ∀ i, i < n → ∃ (u : Value) (m : Nat) (X : List Bool), xs[i]? = some u ∧ Rd w (Old w) 1 u m (boolsV X) := by
  obtain ⟨fuel, hf⟩ := hd
  obtain ⟨a, len, cap, rfl⟩ := okWide_slice ht hval
  obtain ⟨v, n, xs, hcs, hr, _, fu, hx⟩ := trod_slice ht 1 hc1 (by decide) hf
  have hv : v = .slice a len cap := by simpa [Value.cells] using hcs.symm
  subst hv
  refine ⟨n, xs, hr, fun i hi => ?_⟩
  obtain ⟨y, hy⟩ := hx i hi
  obtain ⟨u, m, ys, hu, hru, _, fu2, hx2⟩ := trod_slice he 1 hc2 (by decide) hy
  have hxl : xs.length = n * 1 := by obtain ⟨_, _, _, _, hl, _⟩ := hr; exact hl
  have hyl : ys.length = m * 1 := by obtain ⟨_, _, _, _, hl, _⟩ := hru; exact hl
  obtain ⟨zs, rfl⟩ := all_bools ys fun j hj => by
    obtain ⟨y2, hy2⟩ := hx2 j (by omega)
    obtain ⟨q, hq, hok⟩ := kind_trod 1 e2 0 none (by unfold kindAt; rw [he2]; rfl) fu2 _ _ hy2
    rw [List.getElem?_take_of_lt (by decide), List.getElem?_drop] at hq
    exact ⟨q, by rw [← hq]; congr 1; omega, hok⟩
  refine ⟨u, m, zs, ?_, hru⟩
  have := congrArg (fun l => l[0]?) hu
  simp only [List.getElem?_cons_zero] at this
  rw [List.getElem?_take_of_lt (by decide), List.getElem?_drop] at this
  rw [← this]
  congr 1
  omega
end
end Go.Proofs.YtkflicifngohcaaGreatDoor

/-
  A set that came in, opened: five fields, four of them slices.
-/
namespace Go.Proofs.YtkflicifngohcaaGreatDoor
open Go.ChangeShapes Go.WideShapes Go.ChangeAt Go.RowKit Go.Deep
set_option linter.unusedVariables false
section
variable {H : Type} {enc : TypeId × Value → H} {P : Program} {w : World} {b0 base : Nat} {spare : Nat → Bool} {held : Bool} {r : Reach} {t : TypeId} {v : Value} {d : DataW H} {ps : List MemPlace}
theorem sliced {fuel : Nat} {e : TypeId} {a : Value} {x : DataW H × List MemPlace} (ht : P.underlying t = some (.slice e)) (h : DataW.trod enc P w base spare held fuel t [a] = some x) : ∃ A n c, a = .slice A n c := by
  rcases DataW.trod_slice ht h with ⟨hc, _⟩ | ⟨b, len, cap, el, rs, m, _, hc, _⟩
  · exact ⟨none, 0, 0, by simpa using hc⟩
  · exact ⟨some b, len, cap, by simpa using hc⟩
theorem opened_set {fs : Array Field} {t0 t1 t2 t3 t4 e0 e2 e3 e4 : TypeId} (ht : P.underlying t = some (.struct fs)) (hc : P.cellsOf t = 5)
    (y0 : (fs[0]?).map (fun y => (y.offset, y.type)) = some (0, t0)) (y1 : (fs[1]?).map (fun y => (y.offset, y.type)) = some (1, t1)) (y2 : (fs[2]?).map (fun y => (y.offset, y.type)) = some (2, t2)) (y3 : (fs[3]?).map (fun y => (y.offset, y.type)) = some (3, t3)) (y4 : (fs[4]?).map (fun y => (y.offset, y.type)) = some (4, t4))
    (c0 : P.cellsOf t0 = 1) (c1 : P.cellsOf t1 = 1) (c2 : P.cellsOf t2 = 1) (c3 : P.cellsOf t3 = 1) (c4 : P.cellsOf t4 = 1)
    (u0 : P.underlying t0 = some (.slice e0)) (u1 : P.underlying t1 = some (.int .i64)) (u2 : P.underlying t2 = some (.slice e2)) (u3 : P.underlying t3 = some (.slice e3)) (u4 : P.underlying t4 = some (.slice e4))
    (hval : Value.okWide P w r b0 t v) (hd : DataW.Trod enc P w base spare held t v d ps) :
    ∃ (A0 A1 A2 A3 : Option Addr) (n0 n1 n2 n3 k0 k1 k2 k3 : Nat) (wd : Int), v = .agg #[.slice A0 n0 k0, .int .i64 wd, .slice A1 n1 k1, .slice A2 n2 k2, .slice A3 n3 k3] := by
  obtain ⟨cs, rfl, hs⟩ : ∃ cs, v = .agg cs ∧ cs.size = P.cellsOf t := by
    unfold Value.okWide at hval
    rw [ht] at hval
    obtain ⟨cs, h1, h2, _⟩ := hval
    exact ⟨cs, h1, h2⟩
  obtain ⟨fuel, hf⟩ := hd
  rw [hc] at hs
  obtain ⟨ls, rfl⟩ : ∃ ls : List Value, cs = ls.toArray := ⟨cs.toList, by simp⟩
  match ls, hs with
  | [a, b, c, d, e], _ =>
    have hf2 : DataW.trod enc P w base spare held fuel t [a, b, c, d, e] = _ := hf
    obtain ⟨f0, x0, h0⟩ := trod_at ht hf2 0 0 1 t0 y0 c0
    obtain ⟨f1, x1, h1⟩ := trod_at ht hf2 1 1 1 t1 y1 c1
    obtain ⟨f2, x2, h2⟩ := trod_at ht hf2 2 2 1 t2 y2 c2
    obtain ⟨f3, x3, h3⟩ := trod_at ht hf2 3 3 1 t3 y3 c3
    obtain ⟨f4, x4, h4⟩ := trod_at ht hf2 4 4 1 t4 y4 c4
    simp only [List.drop_zero, List.drop_succ_cons, List.take_succ_cons, List.take_zero] at h0 h1 h2 h3 h4
    obtain ⟨A0, n0, k0, rfl⟩ := sliced u0 h0
    obtain ⟨q1, e1, o1⟩ := kind_trod 1 t1 0 (some .i64) (by unfold kindAt; rw [u1]; rfl) f1 _ _ h1
    simp at e1
    subst e1
    obtain ⟨wd, rfl, _⟩ := o1
    obtain ⟨A1, n1, k1, rfl⟩ := sliced u2 h2
    obtain ⟨A2, n2, k2, rfl⟩ := sliced u3 h3
    obtain ⟨A3, n3, k3, rfl⟩ := sliced u4 h4
    exact ⟨A0, A1, A2, A3, n0, n1, n2, n3, k0, k1, k2, k3, wd, rfl⟩
end
end Go.Proofs.YtkflicifngohcaaGreatDoor

/-
  A number of a smaller kind that came in.
-/
namespace Go.Proofs.YtkflicifngohcaaGreatDoor
open Go.ChangeShapes Go.WideShapes Go.ChangeAt Go.RowKit Go.Deep
section
variable {H : Type} {enc : TypeId × Value → H} {P : Program} {w : World} {b0 base : Nat} {spare : Nat → Bool} {held : Bool} {r : Reach} {t : TypeId} {v : Value} {d : DataW H} {ps : List MemPlace}
theorem opened_u8 (ht : P.underlying t = some (.int .u8)) (hval : Value.okWide P w r b0 t v) (hd : DataW.Trod enc P w base spare held t v d ps) : ∃ x : Int, v = .int .u8 x ∧ (0 ≤ x ∧ x < 256) := by
  obtain ⟨a, rfl, _, _, wf⟩ := open_int ht hval hd
  have := bounds_u8 wf
  exact ⟨a, rfl, by omega, by omega⟩
theorem opened_u16 (ht : P.underlying t = some (.int .u16)) (hval : Value.okWide P w r b0 t v) (hd : DataW.Trod enc P w base spare held t v d ps) : ∃ x : Int, v = .int .u16 x ∧ (0 ≤ x ∧ x < 65536) := by
  obtain ⟨a, rfl, _, _, wf⟩ := open_int ht hval hd
  have := bounds_u16 wf
  exact ⟨a, rfl, by omega, by omega⟩
theorem opened_u32 (ht : P.underlying t = some (.int .u32)) (hval : Value.okWide P w r b0 t v) (hd : DataW.Trod enc P w base spare held t v d ps) : ∃ x : Int, v = .int .u32 x ∧ (0 ≤ x ∧ x < 4294967296) := by
  obtain ⟨a, rfl, _, _, wf⟩ := open_int ht hval hd
  have := bounds_u32 wf
  exact ⟨a, rfl, by omega, by omega⟩
end
end Go.Proofs.YtkflicifngohcaaGreatDoor
