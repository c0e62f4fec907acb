/-
 tables.plan at the set of the example.
-/
import Derived.Test.YtlgjaefcfnndhaaGreatDoorK32
import Derived.Test.YtlgjaefcfnndhaaGreatDoorK30
import Derived.Test.YtlgjaefcfnndhaaGreatDoorK22
import Derived.Test.YtlgjaefcfnndhaaGreatDoorK34
import Derived.WalkMore
import Derived.Laws.Bits64b
import Derived.Test.YtlgjaefcfnndhaaGreatDoorK31
import Derived.Test.YtlgjaefcfnndhaaGreatDoorK23
import Derived.Deep.RegionHeld3
set_option linter.unusedVariables false
set_option linter.unusedSimpArgs false
namespace Go.Proofs.YtlgjaefcfnndhaaGreatDoor
open Go.RowKit Go.Maps
set_option maxRecDepth 100000
theorem Tryz.infoPl : (Tryz.prog.info? 62).map (·.size) = some 2 := by kernel_rfl
theorem tz_keep {w W : World} (h : TzT w) (o : Off Nob w W) : TzT W := ⟨fun j hj => (o.cell_old h.2 _).trans (h.1 j hj), Nat.lt_of_lt_of_le h.2 o.size⟩
end Go.Proofs.YtlgjaefcfnndhaaGreatDoor

namespace Go.Proofs.YtlgjaefcfnndhaaGreatDoor
open Go.RowKit
set_option maxRecDepth 100000
end Go.Proofs.YtlgjaefcfnndhaaGreatDoor

namespace Go.Proofs.YtlgjaefcfnndhaaGreatDoor
open Go.RowKit
set_option maxRecDepth 100000
theorem own_keepN {w W : World} {base n size : Nat} {t : TypeId} {v : Value} {L : List Value} (h : w.ownsRow base t size v n L) (o : Off Nob w W) : W.ownsRow base t size v n L := own_to h (fun g hg => o.block g (h.lt g hg).2 (fun h => h))
theorem topOf_prs2 {F : List Nat} {W n i : Nat} (hF : F.length = n * W) (hi : i ≤ n) : topOf (prs F W i) ≤ 64 * W := topOf_le (fun x hx => by
 obtain ⟨h1, h2⟩ := mem_prs (p := x.1) (s := x.2).1 hx
 have := (mem_onesN.1 h2).1
 rwa [finL_len hF (by omega)] at this)
theorem getD_of {L : List Nat} {q : Nat} (h : q < L.length) : L.getD q 0 ∈ L := by
 rw [List.getD_eq_getElem?_getD, List.getElem?_eq_getElem h]
 exact List.getElem_mem h
structure Qst (w1 : World) (pb W : Nat) (v : Value) (acc : List Ln) (wr : World) : Prop where
 off : Off Nob w1 wr
 blk : Blk wr pb 62 #[.int .i64 W, v]
 own : wr.ownsRow (pb + 1) 43 3 v acc.length (lnV acc)
 lo : w1.heap.size ≤ pb
section
variable {w1 wr W' : World} {pb W : Nat} {v : Value} {acc : List Ln}
theorem Qst.form (h : Qst w1 pb W v acc wr) : ∃ A c, v = .slice A acc.length c := by
 rcases h.own.2 with ⟨rfl, h0⟩ | ⟨g, cap, cur, rfl, _⟩
 ·exact ⟨none, 0, by rw [h0]⟩
 ·exact ⟨_, cap, rfl⟩
theorem Qst.go (h : Qst w1 pb W v acc wr) (o : Off Nob wr W') : Qst w1 pb W v acc W' :=
 ⟨h.off.also o, h.blk.to (o.block _ h.blk.lt id), own_keepN h.own o, h.lo⟩
theorem Qst.rd (h : Qst w1 pb W v acc wr) : Rd wr (fun _ => True) 3 v acc.length (lnV acc) := Rd.own h.own (fun _ _ => trivial)
theorem Qst.gone (h : Qst w1 pb W v acc wr) (hg : wr.grownBy W' v.ownBlock) : Off Nob w1 W' ∧ Blk W' pb 62 #[.int .i64 W, v] := by
 have o : Off (fun k => v.ownBlock = some k) wr W' := Off.grown (Off.refl _ _) hg (fun k hk => .inl hk)
 refine ⟨h.off.trans (o.mono fun k hk e => .inr ⟨?_, hk⟩), h.blk.to (o.block _ h.blk.lt (fun e => ?_))⟩
 ·have := (h.own.lt k e).1
  have := h.lo
  omega
 ·have := (h.own.lt _ e).1
  omega
theorem Qst.grow {v' : Value} {acc' : List Ln} (h : Qst w1 pb W v acc wr) (hg : wr.grownBy W' v.ownBlock) (hl : W'.ownsRow (pb + 1) 43 3 v' acc'.length (lnV acc')) : Qst w1 pb W v' acc' (W'.setCell ⟨pb, 1, none⟩ v') := by
 obtain ⟨o1, b1⟩ := h.gone hg
 have o2 := off_cell W' ⟨pb, 1, none⟩ v'
 exact ⟨o1.trans (o2.mono fun k hk e => .inr ⟨by have := h.lo; simp at e; omega, hk⟩), b1.put 1 v', own_to hl (fun g hg => o2.block g (hl.lt g hg).2 (by have := (hl.lt g hg).1; simp; omega)), h.lo⟩
end
theorem head_in {ss : List Nat} {k top : Nat} (h : k + 1 < ss.length) : (ss.drop (k + 1)).headD top = ss.getD (k + 1) 0 := by
 rw [List.drop_eq_getElem_cons h, List.getD_eq_getElem?_getD, List.getElem?_eq_getElem h]
 rfl
theorem head_out {ss : List Nat} {k top : Nat} (h : ¬ k + 1 < ss.length) : (ss.drop (k + 1)).headD top = top := by
 rw [List.drop_eq_nil_of_le (by omega)]
 rfl
end Go.Proofs.YtlgjaefcfnndhaaGreatDoor

namespace Go.Proofs.YtlgjaefcfnndhaaGreatDoor
open Go.RowKit
set_option maxRecDepth 100000
def AscB (xs : List Int) : Bool := (List.range (xs.length - 1)).all (fun j => decide (xs.getD j 0 < xs.getD (j + 1) 0))
def setErr (ids : List Int) (Wd : Int) (T S F : List Nat) : Int :=
 if ids.length = 0 then 6 else if 16 < ids.length then 3 else
 if ids.all (fun x => decide (1 ≤ x ∧ x ≤ 1000)) && decide (1 ≤ Wd ∧ Wd ≤ 4) then
  if AscB ids && decide (T.length = 256 * Wd.toNat ∧ S.length = Wd.toNat ∧ F.length = ids.length * Wd.toNat) && (planR F S T Wd.toNat ids.length).isSome then 0 else 6
 else 7
theorem setErr_ok {ids : List Int} {Wd : Int} {T S F : List Nat} (h : setErr ids Wd T S F = 0) : 1 ≤ ids.length ∧ ids.length ≤ 16 ∧ (∀ x ∈ ids, 1 ≤ x ∧ x ≤ 1000) ∧ (∃ W : Nat, Wd = (W : Int) ∧ 1 ≤ W ∧ W ≤ 4 ∧ T.length = 256 * W ∧ S.length = W ∧ F.length = ids.length * W ∧ (planR F S T W ids.length).isSome = true) ∧ AscB ids = true := by
 unfold setErr at h
 split at h
 ·exact absurd h (by decide)
 ·split at h
  ·exact absurd h (by decide)
  ·split at h
   ·rename_i h3
    split at h
    ·rename_i h4
     simp only [Bool.and_eq_true, decide_eq_true_eq, List.all_eq_true] at h3 h4
     refine ⟨by omega, by omega, h3.1, ⟨Wd.toNat, by omega, by omega, by omega, h4.1.2.1, h4.1.2.2.1, h4.1.2.2.2, h4.2⟩, h4.1.1⟩
    ·exact absurd h (by decide)
   ·exact absurd h (by decide)
structure SetV (w : World) (VI VT VS VF : Value) (ids : List Int) (Wd : Int) (T S F : List Nat) : Prop where
 i : Rd w (fun _ => True) 1 VI ids.length (ids.map (Value.int .i64))
 t : Rd w (fun _ => True) 1 VT T.length (wordsV T)
 s : Rd w (fun _ => True) 1 VS S.length (wordsV S)
 f : Rd w (fun _ => True) 1 VF F.length (wordsV F)
 ct : CapOk VT
 cf : CapOk VF
 i64 : ∀ x ∈ ids, -9223372036854775808 ≤ x ∧ x ≤ 9223372036854775807
 w64 : -9223372036854775808 ≤ Wd ∧ Wd ≤ 9223372036854775807
 t64 : ∀ x ∈ T, x < 18446744073709551616
 s64 : ∀ x ∈ S, x < 18446744073709551616
 f64 : ∀ x ∈ F, x < 18446744073709551616
 il : ids.length ≤ 4096
 tl : T.length ≤ 4096
 sl : S.length ≤ 4096
 fl : F.length ≤ 4096
theorem SetV.keep {w w' : World} {VI VT VS VF : Value} {ids : List Int} {Wd : Int} {T S F : List Nat} (h : SetV w VI VT VS VF ids Wd T S F) (o : Off Nob w w') : SetV w' VI VT VS VF ids Wd T S F :=
 { h with i := h.i.keepT o, t := h.t.keepT o, s := h.s.keepT o, f := h.f.keepT o }
def RPl (ids : List Int) (Wd : Int) (T S F : List Nat) (w : World) (e : Ending) (w' : World) : Prop := ∃ (x : Int) (A : Option Addr) (k c : Nat), e = .returned (.tuple #[.agg #[.int .i64 x, .slice A k c], .int .i64 (setErr ids Wd T S F)]) ∧ (setErr ids Wd T S F = 0 → x = Wd ∧ ∃ l, planR F S T Wd.toNat ids.length = some l ∧ Rd w' (fun k => w.heap.size ≤ k) 3 (.slice A k c) l.length (lnV l)) ∧ Off Nob w w'
end Go.Proofs.YtlgjaefcfnndhaaGreatDoor

namespace Go.Proofs.YtlgjaefcfnndhaaGreatDoor
open Go.RowKit
set_option maxRecDepth 100000
theorem lnEnd_len : ∀ (l : List Ln) (n : Nat), (∀ x ∈ l, 1 ≤ x.2.2) → n + l.length ≤ lnEnd n l
 | [], n, _ => Nat.le_refl _
 | x :: l, n, h => by
  have h1 := h x (List.mem_cons_self ..)
  have h2 := lnEnd_len l (n + x.2.2) (fun y hy => h y (List.mem_cons_of_mem _ hy))
  simp only [lnEnd, List.length_cons]
  omega
theorem LnFacts.len {W : Nat} {l : List Ln} (h : LnFacts W l) : l.length ≤ 256 := by
 have := lnEnd_len l 0 (fun x hx => (h.all x hx).2.1)
 have := h.e256
 omega
theorem plan_low {F S T : List Nat} {W n : Nat} {l : List Ln} (h : planR F S T W n = some l) : lanesOk W l = true ∧ topOf (prs F W n) ≤ lnEnd 0 l ∧ ∀ b, b < 256 → ∀ i, i < 64 * W → topOf (prs F W n) ≤ i → bitAt (tabRow T W b) i = false := by
 unfold planR at h
 split at h
 ·cases h
 ·rename_i l' hl
  split at h
  ·rename_i hc
   cases h
   simp only [Bool.and_eq_true, decide_eq_true_eq, List.all_eq_true, List.mem_range] at hc
   obtain ⟨⟨⟨⟨h1, h2⟩, h3⟩, h4⟩, h5⟩ := hc
   refine ⟨h1, topOf_le (fun x hx => ?_), fun b hb i hi hti => ?_⟩
   ·obtain ⟨p, s⟩ := x
    obtain ⟨hs, hp⟩ := mem_prs.1 hx
    rw [← h4 s hs] at hp
    have hbit := (mem_onesN.1 hp).2
    rw [ofN_bit (fun j hj => ?_)] at hbit
    ·obtain ⟨y, hy, he, _⟩ := mem_endsN.1 (of_decide_eq_true hbit)
     have := (LnFacts.of h1).all y hy
     show p < _
     unfold lnLast at he
     omega
    ·obtain ⟨y, hy, he, _⟩ := mem_endsN.1 hj
     have := (LnFacts.of h1).all y hy
     have := (LnFacts.of h1).e64
     unfold lnLast at he
     omega
   ·rw [← tab_same] at h5
    unfold tabOk at h5
    have h6 := List.all_eq_true.1 h5 i (List.mem_range.2 hi)
    rw [Bool.or_eq_true, decide_eq_true_eq, List.all_eq_true] at h6
    rcases h6 with h6 | h6
    ·omega
    ·have h7 := h6 b (List.mem_range.2 hb)
     rw [tabRow_bit hi]
     simpa using h7
  ·cases h
theorem getN_ofL {L : List Nat} {q : Nat} (h : q < L.length) : L.getD q 0 ∈ L := by
 rw [List.getD_eq_getElem?_getD, List.getElem?_eq_getElem h]
 exact List.getElem_mem h
theorem Tryz.infoSs : (Tryz.prog.info? 27).map (·.size) = some 2 := by kernel_rfl
theorem Rd.part {w : World} {F : Nat → Prop} {b o n c : Nat} {L : List Nat} (h : Rd w F 1 (.slice (some ⟨b, o, none⟩) n c) n (wordsV L)) (k m : Nat) (hk : k + m ≤ n) (c2 : Nat) : Rd w (fun _ => True) 1 (.slice (some ⟨b, o + k, none⟩) m c2) m (wordsV ((L.drop k).take m)) := by
 obtain ⟨A, c', he, hm, hl, hc⟩ := h
 cases he
 have hl2 : L.length = n := by unfold wordsV at hl; simpa using hl
 refine ⟨_, _, rfl, by omega, by unfold wordsV; simp; omega, fun hn => ?_⟩
 obtain ⟨b2, o2, he, _, hb, hx⟩ := hc (by omega)
 cases he
 refine ⟨b, o + k, rfl, trivial, hb, fun j u hu => ?_⟩
 rw [Nat.add_assoc]
 refine hx (k + j) u ?_
 unfold wordsV at hu ⊢
 rw [List.map_take, List.map_drop] at hu
 have hj : j < m := by
  have := (List.getElem?_eq_some_iff.1 hu).1
  rw [List.length_take] at this
  omega
 rwa [List.getElem?_take, if_pos hj, List.getElem?_drop] at hu
end Go.Proofs.YtlgjaefcfnndhaaGreatDoor
