/-
 The specification's arena: Since (from the first step on) and Events.
-/
import Derived.Test.YtkflicifngohcaaGreatDoorM5
import Derived.Laws.AppendOwnNone
import Derived.Test.YtkflicifngohcaaGreatDoorM4
set_option linter.unusedVariables false
set_option linter.unusedSimpArgs false
namespace Go.Proofs.YtkflicifngohcaaGreatDoor
open Go.RowKit
set_option maxRecDepth 100000
section
variable {w : World} {F : Nat → Prop} {r : Nat} {C : List (BitVec 64)} {E : List Ev}
set_option maxHeartbeats 400000 in
theorem rsince_some {cb g c : Nat} {rg : Value} (h : RfAt w F r C E cb (.slice (some ⟨g, 0, none⟩) E.length c) rg) (hg : g < w.heap.size) (_ : E.length ≤ c) :
  Calls Tryz.prog 104 #[.pointer (some ⟨r, 0, none⟩), .int .i64 0] w (NewE2 w E) := by
 obtain ⟨i0, hi, hz0, hz1, hz2⟩ := info_parts Tryz.infoEv
 have HN := hID (rnone_ok ⟨cb, _, rg, h⟩)
 have h2 := h.e2
 have HW := hID h.own
 have hlt := h.top.lt
 have c2 := h.top.cell 2
 simp only [List.getElem?_toArray, List.getElem?_cons_succ, List.getElem?_cons_zero] at c2
 clear h
 go_enter Tryz.func104, Tryz.ntmps104
 go_wp2_with fail
 refine HN.out.mono ?_
 rintro e w' ⟨rfl, rfl⟩
 have c2' : (w.alloc (.cells #[] 105)).cell? ⟨r, 2, none⟩ = some (.slice (some ⟨g, 0, none⟩) E.length c) := by rw [World.cell?_alloc_lt _ _ _ hlt]; exact c2
 go_wp2_with (at_builtin; refine wpList_append_own_at _ rfl _ _ 76 rfl w.heap.size 105 i0 (.agg #[.int .i32 0, .int .i32 0]) 2 8 Tryz.underlying76 hi hz0 hz1 hz2 rfl (by decide) (.slice (some ⟨w.heap.size, 0, none⟩) 0 0) 0 [] rfl ?c0 ⟨g, 0, none⟩ E.length c (evs E) rfl ?c6 ?c1 ?c2 ?c3 ?c4 ?c5 ?_)
 case c0 => exact World.ownsRow_made w #[] 0 (Nat.le_refl _) (Nat.zero_le _) rfl
 case c6 => exact length_evs E
 case c1 =>
  intro j u hu
  have := HW.out.cells (g := g) rfl j u hu
  rw [add_addr] at this ⊢
  rw [World.cell?_alloc_lt _ _ _ hg]
  exact this
 case c2 => exact evs_one E
 case c3 => unfold maxLen; omega
 case c4 => omega
 case c5 => simp
 intro v' w1 hown' hgrow hnil hat
 have HR : Hid (w1.ownsRow w.heap.size 105 2 v' E.length (evs E)) := hown'
 have HO : Hid (Off Nob w w1) := Off.grown (Off.alloc (Off.refl _ _) _) hgrow (fun k hk => by simp [Value.ownBlock] at hk; right; omega)
 clear hown' hgrow hnil hat
 go_wp2
 go_ret2
 exact ⟨_, rfl, HR.out, HO.out⟩
set_option maxHeartbeats 400000 in
theorem rsince_none {cb : Nat} {rg : Value} (h : RfAt w F r C [] cb (.slice none 0 0) rg) :
  Calls Tryz.prog 104 #[.pointer (some ⟨r, 0, none⟩), .int .i64 0] w (NewE2 w []) := by
 obtain ⟨i0, hi, hz0, hz1, hz2⟩ := info_parts Tryz.infoEv
 have HN := hID (rnone_ok ⟨cb, _, rg, h⟩)
 have hlt := h.top.lt
 have c2 := h.top.cell 2
 simp only [List.getElem?_toArray, List.getElem?_cons_succ, List.getElem?_cons_zero] at c2
 clear h
 go_enter Tryz.func104, Tryz.ntmps104
 go_wp2_with fail
 refine HN.out.mono ?_
 rintro e w' ⟨rfl, rfl⟩
 have c2' : (w.alloc (.cells #[] 105)).cell? ⟨r, 2, none⟩ = some (.slice none 0 0) := by rw [World.cell?_alloc_lt _ _ _ hlt]; exact c2
 have HR : Hid ((w.alloc (.cells #[] 105)).ownsRow w.heap.size 105 2 (.slice (some ⟨w.heap.size, 0, none⟩) 0 0) 0 []) := World.ownsRow_made w #[] 0 (Nat.le_refl _) (Nat.zero_le _) rfl
 go_wp2_with (at_builtin; refine wpList_append_own_none rfl _ _ 76 rfl w.heap.size 105 i0 2 Tryz.underlying76 hi (.slice (some ⟨w.heap.size, 0, none⟩) 0 0) 0 [] rfl HR.out rfl ?_)
 go_ret2
 exact ⟨_, rfl, HR.out, Off.alloc (Off.refl _ _) _⟩
theorem rsince_ok (h : Rf w F r C E) : Calls Tryz.prog 104 #[.pointer (some ⟨r, 0, none⟩), .int .i64 0] w (NewE2 w E) := by
 obtain ⟨cb, ev, rg, h⟩ := h
 rcases h.own.2 with ⟨rfl, h0⟩ | ⟨g, cap, cur, rfl, _, hg, hc, _⟩
 ·have : E = [] := List.eq_nil_of_length_eq_zero h0
  subst this
  exact rsince_none h
 ·exact rsince_some h (Array.getElem?_eq_some_iff.1 hg).1 hc
theorem revents_ok (h : Rf w F r C E) : Calls Tryz.prog 67 #[.pointer (some ⟨r, 0, none⟩)] w (NewE w E) := by
 have HF := hID (rsince_ok h)
 clear h
 go_enter Tryz.func67, Tryz.ntmps67
 go_wp2_with fail
 refine HF.out.mono ?_
 rintro e w1 ⟨v, rfl, h1, h2⟩
 have H1 := hID h1
 have H2 := hID h2
 clear h1 h2
 go_wp2
 go_ret
 exact ⟨_, rfl, H1.out, H2.out⟩
end
end Go.Proofs.YtkflicifngohcaaGreatDoor

namespace Go.Proofs.YtkflicifngohcaaGreatDoor
open Go.RowKit
set_option maxRecDepth 100000
set_option maxHeartbeats 1000000 in
theorem same_ok {w : World} {F R : Nat → Prop} {p r : Nat} {C : List (BitVec 64)} {E : List Ev} (h : Ar w F p C E) (k : Rf w R r C E) :
  Calls Tryz.prog 24 #[.pointer (some ⟨p, 0, none⟩), .pointer (some ⟨r, 0, none⟩)] w (BoolNew true w) := by
 have H := hID h
 have K := hID k
 clear h k
 go_enter Tryz.func24, Tryz.ntmps24
 go_wp2_with fail
 refine (cells_ok H.out).mono ?_
 rintro e w1 ⟨v1, rfl, h1, o1⟩
 have H1 := hID (H.out.keep o1 (fun _ _ h => h))
 have K1 := hID (K.out.keep o1 (fun _ _ h => h))
 have V1 := hID (NewU.rd h1)
 have O1 := hID o1
 clear h1 o1 H K
 go_wp2_with fail
 refine (rcells_ok K1.out).mono ?_
 rintro e w2 ⟨v2, rfl, h2, o2⟩
 have H2 := hID (H1.out.keep o2 (fun _ _ h => h))
 have K2 := hID (K1.out.keep o2 (fun _ _ h => h))
 have V2 := hID (V1.out.keep o2 (fun _ _ h => h))
 have U2 := hID (NewU.rd h2)
 have O2 := hID (O1.out.also o2)
 clear h2 o2 H1 K1 V1 O1
 go_wp2_with fail
 refine Calls.mono (R := BoolNew true w2) (by have := sameCells_any V2.out U2.out; rwa [show sameB C C = true by simp [sameB]] at this) ?_
 rintro e w3 ⟨rfl, o3⟩
 have H3 := hID (H2.out.keep o3 (fun _ _ h => h))
 have K3 := hID (K2.out.keep o3 (fun _ _ h => h))
 have O3 := hID (O2.out.also o3)
 clear o3 H2 K2 V2 U2 O2
 go_wp2_with fail
 refine (events_ok H3.out).mono ?_
 rintro e w4 ⟨v4, rfl, h4, o4⟩
 have K4 := hID (K3.out.keep o4 (fun _ _ h => h))
 have V4 := hID (NewE.rd h4)
 have O4 := hID (O3.out.also o4)
 clear h4 o4 H3 K3 O3
 go_wp2_with fail
 refine (revents_ok K4.out).mono ?_
 rintro e w5 ⟨v5, rfl, h5, o5⟩
 have V5 := hID (V4.out.keep o5 (fun _ _ h => h))
 have U5 := hID (NewE.rd h5)
 have O5 := hID (O4.out.also o5)
 clear h5 o5 K4 V4 O4
 go_wp2_with fail
 refine Calls.mono (R := BoolNew true w5) (by have := sameEvents_any V5.out U5.out; rwa [show sameEB E E = true by simp [sameEB]] at this) ?_
 rintro e w6 ⟨rfl, o6⟩
 have O6 := hID (O5.out.also o6)
 clear o6
 go_wp2
 go_ret
 exact ⟨rfl, O6.out⟩
end Go.Proofs.YtkflicifngohcaaGreatDoor

namespace Go.Proofs.YtkflicifngohcaaGreatDoor
open Go.RowKit
set_option maxRecDepth 100000
def Half (w0 w : World) (p r : Nat) (C : List (BitVec 64)) (E : List Ev) (C' : List (BitVec 64)) (E' : List Ev) : Prop :=
 ∃ F R, Ar w F p C E ∧ Rf w R r C' E' ∧ Off Nob w0 w ∧ (∀ k, F k → w0.heap.size ≤ k) ∧ (∀ k, R k → w0.heap.size ≤ k) ∧ ∀ k, F k → ¬ R k
def Both (w0 w : World) (p r : Nat) (C : List (BitVec 64)) (E : List Ev) : Prop := Half w0 w p r C E C E
section
variable {w0 w w' : World} {p r : Nat} {C C' : List (BitVec 64)} {E E' : List Ev}
theorem Half.ar (h : Half w0 w p r C E C' E') : ∃ F, Ar w F p C E ∧ ∀ C2 E2 w', ArTo w F p C2 E2 w' → Half w0 w' p r C2 E2 C' E' := by
 obtain ⟨F, R, ha, hr, ho, hf, hg, hd⟩ := h
 refine ⟨F, ha, fun C2 E2 w' h3 => ?_⟩
 obtain ⟨a3, o3⟩ := h3
 have hd3 : ∀ k, R k → ¬ Grow F w w' k := Grow.apart (fun k hk hn => hd k hn hk) hr.lt
 exact ⟨_, _, a3, hr.keep o3 (fun k hk hn => hd k hn hk), ho.own o3 hf, Grow.from_ hf ho.size, hg, fun k hk hn => hd3 k hn hk⟩
theorem Half.rf (h : Half w0 w p r C E C' E') : ∃ R, Rf w R r C' E' ∧ ∀ C2 E2 w', RfTo w R r C2 E2 w' → Half w0 w' p r C E C2 E2 := by
 obtain ⟨F, R, ha, hr, ho, hf, hg, hd⟩ := h
 refine ⟨R, hr, fun C2 E2 w' h3 => ?_⟩
 obtain ⟨r4, o4⟩ := h3
 exact ⟨F, _, ha.keep o4 hd, r4, ho.own o4 hg, hf, Grow.from_ hg ho.size, Grow.apart hd ha.lt⟩
theorem Half.off (h : Half w0 w p r C E C' E') (o : Off Nob w w') : Half w0 w' p r C E C' E' := by
 obtain ⟨F, R, ha, hr, ho, hf, hg, hd⟩ := h
 exact ⟨F, R, ha.keep o (fun _ _ hn => hn), hr.keep o (fun _ _ hn => hn), ho.also o, hf, hg, hd⟩
theorem Half.old (h : Half w0 w p r C E C' E') : Off Nob w0 w := by
 obtain ⟨F, R, ha, hr, ho, hf, hg, hd⟩ := h
 exact ho
theorem Both.off (h : Both w0 w p r C E) (o : Off Nob w w') : Both w0 w' p r C E := Half.off h o
theorem Both.old (h : Both w0 w p r C E) : Off Nob w0 w := Half.old h
theorem Made.both {e : Ending} (h : Made w C e w') : ∃ p r, e = .returned (.tuple #[.pointer (some ⟨p, 0, none⟩), .pointer (some ⟨r, 0, none⟩)]) ∧ Both w w' p r (pad C) (stores C.length) := by
 obtain ⟨p, r, F, R, he, h1, h2, h3, h4, h5, h6⟩ := h
 exact ⟨p, r, he, F, R, h1, h2, h3, h4, h5, h6⟩
theorem Both.same (h : Both w0 w p r C E) : Calls Tryz.prog 24 #[.pointer (some ⟨p, 0, none⟩), .pointer (some ⟨r, 0, none⟩)] w (BoolNew true w) := by
 obtain ⟨F, R, ha, hr, _⟩ := h
 exact same_ok ha hr
theorem Both.first (h : Both w0 w p r C E) {P : Program} {f : FuncId} {xs : Array Value} {Q : List (BitVec 64) → List Ev → Ending → Prop}
  (hc : ∀ F, Ar w F p C E → Calls P f xs w fun e w' => ∃ C2 E2, Q C2 E2 e ∧ ArTo w F p C2 E2 w') : Calls P f xs w fun e w' => ∃ C2 E2, Q C2 E2 e ∧ Half w0 w' p r C2 E2 C E := by
 obtain ⟨F, ha, hk⟩ := Half.ar h
 exact (hc F ha).mono fun e w' ⟨C2, E2, h1, h2⟩ => ⟨C2, E2, h1, hk _ _ _ h2⟩
end
end Go.Proofs.YtkflicifngohcaaGreatDoor
