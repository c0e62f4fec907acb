/-
 Arguments that came in, opened: numbers, bools, arrays and structs of them, slices of all these.
-/
import Derived.Test.YtlgjaefcfnndhaaGreatDoorP10
import Derived.ProofKit
import Derived.OpenShut
import Derived.ChangeOld
import Derived.Deep.Slices
set_option linter.unusedVariables false
set_option linter.unusedSimpArgs false
set_option maxHeartbeats 16000000
namespace Go.Proofs.YtlgjaefcfnndhaaGreatDoor
section
open Go.ChangeShapes Go.WideShapes Go.ChangeAt Go.RowKit Go.Deep
def Old (w : World) : Nat → Prop := fun k => k < w.heap.size
def qgd (l : List Bool) : List Value := l.map Value.bool
def okV : Option IntKind → Value → Prop
 | some k, v => ∃ n, v = .int k n ∧ (Lit.int k n).wf = true
 | none, v => ∃ b, v = .bool b
def qb1 (P : Program) : Nat → TypeId → Nat → Option (Option IntKind)
 | 0, _, _ => none
 | f + 1, t, j => match P.underlying t with
  | some (.int k) => if j = 0 then some (some k) else none
  | some .bool => if j = 0 then some none else none
  | some (.array n e) => if j < n * P.cellsOf e then qb1 P f e (j % P.cellsOf e) else none
  | some (.struct fs) => match fs.toList.find? (fun x => decide (x.offset ≤ j) && decide (j < x.offset + P.cellsOf x.type)) with
   | some x => qb1 P f x.type (j - x.offset)
   | none => none
  | _ => none
section
variable {H : Type} {enc : TypeId × Value → H} {P : Program} {w : World} {b0 base : Nat} {spare : Nat → Bool} {held : Bool} {r : Reach} {t e : TypeId} {v : Value} {d : DataW H} {ps : List MemPlace}
theorem qcb : ∀ (f : Nat) (t : TypeId) (j : Nat) (κ : Option IntKind), qb1 P f t j = some κ → ∀ (fuel : Nat) (cs : List Value) (x : DataW H × List MemPlace), DataW.trod enc P w base spare held fuel t cs = some x → ∃ v, cs[j]? = some v ∧ okV κ v := by
 intro f
 induction f with
 | zero => intro t j κ h; simp [qb1] at h
 | succ f ih =>
  intro t j κ h fuel cs x hx
  unfold qb1 at h
  split at h
  ·rename_i k hk
   split at h
   ·rename_i hj
    subst hj
    injection h with h
    subst h
    obtain ⟨n, rfl, _, wf⟩ := DataW.trod_int hk hx
    exact ⟨_, rfl, n, rfl, wf⟩
   ·cases h
  ·rename_i hk
   split at h
   ·rename_i hj
    subst hj
    injection h with h
    subst h
    obtain ⟨n, rfl, _⟩ := DataW.trod_bool hk hx
    exact ⟨_, rfl, n, rfl⟩
   ·cases h
  ·rename_i n e hk
   split at h
   ·rename_i hj
    obtain ⟨xs, m, _, _, _, hxl, hel⟩ := DataW.trod_array hk hx
    have hc : 0 < P.cellsOf e := by
     rcases Nat.eq_zero_or_pos (P.cellsOf e) with h0 | h0
     ·rw [h0] at hj; omega
     ·exact h0
    have hi : j / P.cellsOf e < n := Nat.div_lt_of_lt_mul (by rw [Nat.mul_comm]; exact hj)
    have h1 := hel _ hi
    rw [gEe (by omega)] at h1
    obtain ⟨v, hv, hok⟩ := ih _ _ _ h _ _ _ h1
    have hm : j % P.cellsOf e < P.cellsOf e := Nat.mod_lt _ hc
    rw [List.getElem?_take_of_lt hm, List.getElem?_drop] at hv
    refine ⟨v, ?_, hok⟩
    rw [← hv]
    congr 1
    have := Nat.div_add_mod j (P.cellsOf e)
    rw [Nat.mul_comm] at this
    omega
   ·cases h
  ·rename_i fs hk
   split at h
   ·rename_i y hy
    obtain ⟨xs, m, _, _, _, hxl, hel⟩ := DataW.trod_struct hk hx
    have hp := List.find?_some hy
    simp only [Bool.and_eq_true, decide_eq_true_eq] at hp
    obtain ⟨i, hi, he⟩ := List.getElem_of_mem (List.mem_of_find?_eq_some hy)
    have hfi : fs[i]? = some y := by rw [← Array.getElem?_toList, gEe hi, he]
    have h1 := hel i y hfi
    rw [gEe (by rw [hxl]; simpa using hi)] at h1
    obtain ⟨v, hv, hok⟩ := ih _ _ _ h _ _ _ h1
    rw [List.getElem?_take_of_lt (by omega), List.getElem?_drop] at hv
    refine ⟨v, ?_, hok⟩
    rw [← hv]
    congr 1
    omega
   ·cases h
  ·cases h
theorem qq1 {v : Value} (h : okV (some .i64) v) : ∃ x : Int, v = .int .i64 x ∧ (-9223372036854775808 ≤ x ∧ x ≤ 9223372036854775807) := by
 obtain ⟨a, rfl, wf⟩ := h
 have := bounds_i64 wf
 exact ⟨a, rfl, by omega, by omega⟩
theorem qoj (ht : P.underlying t = some (.slice e)) (c : Nat) (hce : P.cellsOf e = c) (hc : 0 < c) (hval : Value.okWide P w r b0 t v) (hd : DataW.Trod enc P w base spare held t v d ps) :
  ∃ n xs, Rd w (Old w) c v n xs ∧ ∀ f j κ, j < n * c → qb1 P f e (j % c) = some κ → ∃ u, xs[j]? = some u ∧ okV κ u := by
 obtain ⟨a, len, cap, rfl⟩ := okWide_slice ht hval
 obtain ⟨fuel, hf⟩ := hd
 rcases open_slice ht hf with ⟨hcs, _⟩ | ⟨a, len, cap, m, n, D, Pl, hcs, hb, hl, hm, hmm, _, hx⟩
 ·simp [Value.cells] at hcs
  obtain ⟨rfl, rfl, rfl⟩ := hcs
  exact ⟨0, [], Rd.nil _ _ _, fun f j κ hj _ => absurd hj (by omega)⟩
 ·simp [Value.cells] at hcs
  obtain ⟨rfl, rfl, rfl⟩ := hcs
  have hml : len ≤ m := by rw [hmm]; split <;> omega
  have key : ∀ j, j < len * c → ∃ u, w.cell? ((a.add (j / c * c)).add (j % c)) = some u ∧ ∀ f κ, qb1 P f e (j % c) = some κ → okV κ u := by
   intro j hj
   have hi : j / c < len := Nat.div_lt_of_lt_mul (by rw [Nat.mul_comm]; exact hj)
   obtain ⟨cs', h1, h2⟩ := hx (j / c) (by omega)
   rw [hce] at h1
   obtain ⟨_, hcl, hcc⟩ := World.cells?_some h1
   have hmj : j % c < c := Nat.mod_lt _ hc
   refine ⟨cs'[j % c]'(by omega), by rw [hcc _ hmj, gEe (by omega)], fun f κ hk => ?_⟩
   obtain ⟨u, hu, hok⟩ := qcb f e _ κ hk n cs' _ h2
   rw [gEe (by omega)] at hu
   injection hu with hu
   rw [hu]
   exact hok
  rcases Nat.eq_zero_or_pos len with h0 | h0
  ·subst h0
   exact ⟨0, [], ⟨_, _, rfl, Nat.zero_le _, by simp, fun h => absurd h (by omega)⟩, fun f j κ hj _ => absurd hj (by omega)⟩
  ·have hpos : 0 < len * c := Nat.mul_pos h0 hc
   obtain ⟨b, o, spot⟩ := a
   obtain ⟨u0, hu0, _⟩ := key 0 hpos
   have hsp : spot = none := by
    have := World.cell?_spot hu0
    simpa [Addr.add] using this
   subst hsp
   have hcell : ∀ j, j < len * c → ∃ u, w.cell? ⟨b, o + j, none⟩ = some u ∧ ∀ f κ, qb1 P f e (j % c) = some κ → okV κ u := by
    intro j hj
    obtain ⟨u, hu, hok⟩ := key j hj
    rw [qam, qam] at hu
    have : o + j / c * c + j % c = o + j := by have := Nat.div_add_mod j c; rw [Nat.mul_comm] at this; omega
    rw [this] at hu
    exact ⟨u, hu, hok⟩
   refine ⟨len, (List.range (len * c)).map fun j => (w.cell? ⟨b, o + j, none⟩).getD undef, ⟨_, _, rfl, by omega, by simp, fun _ => ⟨b, o, rfl, ?_, ?_, ?_⟩⟩, ?_⟩
   ·obtain ⟨u, hu, _⟩ := hcell 0 hpos
    exact World.block_lt_of_cell? _ _ hu
   ·obtain ⟨u, hu, _⟩ := hcell 0 hpos
    exact World.block_lt_of_cell? _ _ hu
   ·intro j u hu
    rw [List.getElem?_map] at hu
    rcases Nat.lt_or_ge j (len * c) with hj | hj
    ·rw [List.getElem?_range hj] at hu
     obtain ⟨u', hu', _⟩ := hcell j hj
     rw [hu']
     simpa [hu'] using hu
    ·rw [List.getElem?_eq_none (by simpa using hj)] at hu
     cases hu
   ·intro f j κ hj hk
    obtain ⟨u, hu, hok⟩ := hcell j hj
    exact ⟨u, by rw [List.getElem?_map, List.getElem?_range hj]; simp [hu], hok f κ hk⟩
theorem qjl {k : IntKind} : ∀ (xs : List Value), (∀ j, j < xs.length → ∃ u, xs[j]? = some u ∧ okV (some k) u) → ∃ zs : List Int, xs = zs.map (Value.int k) ∧ ∀ z ∈ zs, (Lit.int k z).wf = true
 | [], _ => ⟨[], rfl, fun _ h => by cases h⟩
 | x :: xs, h => by
  obtain ⟨u, hu, n, rfl, wf⟩ := h 0 (by simp)
  obtain ⟨zs, rfl, hz⟩ := qjl xs fun j hj => h (j + 1) (by simpa using hj)
  simp at hu
  subst hu
  refine ⟨n :: zs, rfl, fun z hz2 => ?_⟩
  rcases List.mem_cons.1 hz2 with rfl | h2
  ·exact wf
  ·exact hz z h2
theorem qp7 {k : IntKind} (ht : P.underlying t = some (.slice e)) (he : P.underlying e = some (.int k)) (hce : P.cellsOf e = 1) (hval : Value.okWide P w r b0 t v) (hd : DataW.Trod enc P w base spare held t v d ps) :
  ∃ (n : Nat) (zs : List Int), Rd w (Old w) 1 v n (zs.map (Value.int k)) ∧ ∀ z ∈ zs, (Lit.int k z).wf = true := by
 obtain ⟨n, xs, hr, hk⟩ := qoj ht 1 hce (by decide) hval hd
 have hl : xs.length = n * 1 := by obtain ⟨_, _, _, _, hl, _⟩ := hr; exact hl
 obtain ⟨zs, rfl, hz⟩ := qjl xs fun j hj => hk 1 j (some k) (by omega) (by unfold qb1; rw [he, Nat.mod_one]; rfl)
 exact ⟨n, zs, hr, hz⟩
end
end
section
open Go.ChangeShapes Go.WideShapes Go.ChangeAt Go.RowKit Go.Deep
section
variable {H : Type} {enc : TypeId × Value → H} {P : Program} {w : World} {b0 base : Nat} {spare : Nat → Bool} {held : Bool} {r : Reach} {t e : TypeId} {v : Value} {d : DataW H} {ps : List MemPlace}
theorem trod_slice {fuel : Nat} {cs : List Value} {x : DataW H × List MemPlace} (ht : P.underlying t = some (.slice e)) (c : Nat) (hce : P.cellsOf e = c) (hc : 0 < c) (hf : DataW.trod enc P w base spare held fuel t cs = some x) :
  ∃ v n xs, cs = [v] ∧ Rd w (Old w) c v n xs ∧ (∀ m k, v = .slice none m k → m = 0 ∧ k = 0) ∧ ∃ fu, ∀ i, i < n → ∃ y, DataW.trod enc P w base spare held fu e ((xs.drop (i * c)).take c) = some y := by
 rcases open_slice ht hf with ⟨hcs, _⟩ | ⟨a, len, cap, m, n, D, Pl, hcs, hb, hl, hm, hmm, _, hx⟩
 ·exact ⟨_, 0, [], hcs, Rd.nil _ _ _, (fun m k h => by injection h with _ h1 h2; exact ⟨h1.symm, h2.symm⟩), 0, fun i hi => absurd hi (Nat.not_lt_zero _)⟩
 ·obtain ⟨vv, hvv⟩ : ∃ vv, Value.slice (some a) len cap = vv := ⟨_, rfl⟩
  rw [hvv] at hcs
  suffices hgoal : ∃ xs, Rd w (Old w) c vv len xs ∧ (∀ m k, vv = .slice none m k → m = 0 ∧ k = 0) ∧ ∃ fu, ∀ i, i < len → ∃ y, DataW.trod enc P w base spare held fu e ((xs.drop (i * c)).take c) = some y by
   obtain ⟨xs, h1, h2, h3⟩ := hgoal
   exact ⟨vv, len, xs, hcs, h1, h2, h3⟩
  subst hvv
  have hml : len ≤ m := by rw [hmm]; split <;> omega
  have key : ∀ i, i < len → ∃ cs', cs'.length = c ∧ (∀ j, j < c → w.cell? ((a.add (i * c)).add j) = cs'[j]?) ∧ ∃ y, DataW.trod enc P w base spare held n e cs' = some y := by
   intro i hi
   obtain ⟨cs', h1, h2⟩ := hx i (by omega)
   rw [hce] at h1
   obtain ⟨_, hcl, hcc⟩ := World.cells?_some h1
   exact ⟨cs', hcl, hcc, _, h2⟩
  rcases Nat.eq_zero_or_pos len with h0 | h0
  ·subst h0
   exact ⟨[], ⟨_, _, rfl, Nat.zero_le _, by simp, fun h => absurd h (by omega)⟩, (fun m k h => by injection h with h0 _ _; cases h0), 0, fun i hi => absurd hi (Nat.not_lt_zero _)⟩
  ·obtain ⟨b, o, spot⟩ := a
   obtain ⟨cs0, l0, c0, _⟩ := key 0 h0
   have u0 := c0 0 hc
   rw [gEe (by omega)] at u0
   have hsp : spot = none := by
    have := World.cell?_spot u0
    simpa [Addr.add] using this
   subst hsp
   have hblk : b < w.heap.size := by
    have := World.block_lt_of_cell? _ _ u0
    rw [qam, qam] at this
    exact this
   have hcell : ∀ i j, i < len → j < c → ∃ u, w.cell? ⟨b, o + (i * c + j), none⟩ = some u := by
    intro i j hi hj
    obtain ⟨cs', l1, c1, _⟩ := key i hi
    have := c1 j hj
    rw [qam, qam, gEe (by omega)] at this
    exact ⟨_, by rw [← this]; congr 2; omega⟩
   refine ⟨(List.range (len * c)).map fun j => (w.cell? ⟨b, o + j, none⟩).getD undef, ⟨_, _, rfl, by omega, by simp, fun _ => ⟨b, o, rfl, hblk, hblk, ?_⟩⟩, (fun m k h => by injection h with h0 _ _; cases h0), n, ?_⟩
   ·intro j u hu
    rw [List.getElem?_map] at hu
    rcases Nat.lt_or_ge j (len * c) with hj | hj
    ·rw [List.getElem?_range hj] at hu
     have hi : j / c < len := Nat.div_lt_of_lt_mul (by rw [Nat.mul_comm]; exact hj)
     obtain ⟨u', hu'⟩ := hcell (j / c) (j % c) hi (Nat.mod_lt _ hc)
     rw [show j / c * c + j % c = j by have := Nat.div_add_mod j c; rw [Nat.mul_comm] at this; omega] at hu'
     rw [hu']
     simpa [hu'] using hu
    ·rw [List.getElem?_eq_none (by simpa using hj)] at hu
     cases hu
   ·intro i hi
    obtain ⟨cs', l1, c1, y, hy⟩ := key i hi
    refine ⟨y, ?_⟩
    have : (List.drop (i * c) ((List.range (len * c)).map fun j => (w.cell? ⟨b, o + j, none⟩).getD undef)).take c = cs' := by
     apply List.ext_getElem?
     intro j
     have hic : i * c + c ≤ len * c := by rw [← Nat.succ_mul]; exact Nat.mul_le_mul_right _ hi
     by_cases hj : j < c
     ·rw [List.getElem?_take_of_lt hj, List.getElem?_drop, List.getElem?_map, List.getElem?_range (by omega), ← c1 j hj, qam, qam]
      obtain ⟨u, hu⟩ := hcell i j hi hj
      rw [Nat.add_assoc, hu]
      simp [hu]
     ·rw [List.getElem?_eq_none (by simp; omega), List.getElem?_eq_none (by omega)]
    rw [this]
    exact hy
theorem qvj {k : IntKind} {fuel : Nat} {cs : List Value} {x : DataW H × List MemPlace} (ht : P.underlying t = some (.slice e)) (he : P.underlying e = some (.int k)) (hce : P.cellsOf e = 1) (hf : DataW.trod enc P w base spare held fuel t cs = some x) :
  ∃ v n, ∃ zs : List Int, cs = [v] ∧ Rd w (Old w) 1 v n (zs.map (Value.int k)) ∧ ∀ z ∈ zs, (Lit.int k z).wf = true := by
 obtain ⟨v, n, xs, hcs, hr, _, fu, hx⟩ := trod_slice ht 1 hce (by decide) hf
 have hl : xs.length = n * 1 := by obtain ⟨_, _, _, _, hl, _⟩ := hr; exact hl
 obtain ⟨zs, rfl, hz⟩ := qjl (k := k) xs fun j hj => by
  obtain ⟨y, hy⟩ := hx j (by omega)
  obtain ⟨q, hq, hok⟩ := qcb 1 e 0 (some k) (by unfold qb1; rw [he]; rfl) fu _ _ hy
  rw [List.getElem?_take_of_lt (by decide), List.getElem?_drop] at hq
  exact ⟨q, by rw [← hq]; congr 1; omega, hok⟩
 exact ⟨v, n, zs, hcs, hr, hz⟩
end
end
section
open Go.ChangeShapes Go.WideShapes Go.ChangeAt Go.RowKit Go.Deep
section
variable {H : Type} {enc : TypeId × Value → H} {P : Program} {w : World} {b0 base : Nat} {spare : Nat → Bool} {held : Bool} {r : Reach} {t : TypeId} {v : Value} {d : DataW H} {ps : List MemPlace}
end
end
end Go.Proofs.YtlgjaefcfnndhaaGreatDoor
