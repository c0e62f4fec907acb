/-
 Two arenas, one of them the specification's, beside a block of the call's own.
-/
import Derived.Test.YtkflicifngohcaaGreatDoorM6
import Derived.Deep.RegionHeld3
import Derived.Test.YtkflicifngohcaaGreatDoorM4
set_option linter.unusedVariables false
set_option linter.unusedSimpArgs false
namespace Go.Proofs.YtkflicifngohcaaGreatDoor
open Go.RowKit
set_option maxRecDepth 100000
theorem ArTo.off {w w' : World} {F : Nat → Prop} {p : Nat} {C : List (BitVec 64)} {E : List Ev} (h : Ar w F p C E) (o : Off Nob w w') : ArTo w F p C E w' :=
 ⟨(h.keep o (fun _ _ hn => hn)).mono (fun _ hk => .inl hk) (Grow.lt h.lt o.size), o.ofNob⟩
theorem RfTo.off {w w' : World} {F : Nat → Prop} {p : Nat} {C : List (BitVec 64)} {E : List Ev} (h : Rf w F p C E) (o : Off Nob w w') : RfTo w F p C E w' :=
 ⟨(h.keep o (fun _ _ hn => hn)).mono (fun _ hk => .inl hk) (Grow.lt h.lt o.size), o.ofNob⟩
theorem Rf.box {w : World} {F : Nat → Prop} {p : Nat} {C : List (BitVec 64)} {E : List Ev} (h : Rf w F p C E) (o : Obj) : Rf (w.alloc o) F p C E := h.keep (Off.alloc (Off.refl Nob w) o) (fun _ _ hn => hn)
theorem RfTo.box {w : World} {F : Nat → Prop} {p : Nat} {C C' : List (BitVec 64)} {E E' : List Ev} {o : Obj} {w' : World} (h : Rf w F p C E) (k : RfTo (w.alloc o) F p C' E' w') : RfTo w F p C' E' w' := by
 have ho : Off F w w' := (Off.alloc (Off.refl _ _) o).also k.2
 refine ⟨k.1.mono (fun i hi => ?_) (Grow.lt h.lt ho.size), ho⟩
 rcases hi with hi | hi
 ·exact .inl hi
 ·exact .inr ⟨by have := hi.1; simp at this; omega, hi.2⟩
def Pair (w0 w : World) (b : Nat) (t : TypeId) (cs : Array Value) (p r : Nat) (C : List (BitVec 64)) (E : List Ev) (C' : List (BitVec 64)) (E' : List Ev) : Prop :=
 ∃ F R, Ar w F p C E ∧ Rf w R r C' E' ∧ Off Nob w0 w ∧ (∀ k, F k → w0.heap.size ≤ k) ∧ (∀ k, R k → w0.heap.size ≤ k) ∧ (∀ k, F k → ¬ R k) ∧ Blk w b t cs ∧ ¬ F b ∧ ¬ R b
section
variable {w0 w w' : World} {b : Nat} {t : TypeId} {cs : Array Value} {p r : Nat} {C C' : List (BitVec 64)} {E E' : List Ev}
theorem Half.pair (h : Half w0 w p r C E C' E') (t : TypeId) (cs : Array Value) : Pair w0 (w.alloc (.cells cs t)) w.heap.size t cs p r C E C' E' := by
 obtain ⟨F, R, ha, hr, ho, hf, hg, hd⟩ := h
 exact ⟨F, R, ha.box _, hr.box _, ho.alloc _, hf, hg, hd, Blk.new _ _ _, fun h => by have := ha.lt _ h; omega, fun h => by have := hr.lt _ h; omega⟩
theorem Both.pair (h : Both w0 w p r C E) (t : TypeId) (cs : Array Value) : Pair w0 (w.alloc (.cells cs t)) w.heap.size t cs p r C E C E := Half.pair h t cs
theorem Pair.half (h : Pair w0 w b t cs p r C E C' E') : Half w0 w p r C E C' E' := by
 obtain ⟨F, R, ha, hr, ho, hf, hg, hd, _⟩ := h
 exact ⟨F, R, ha, hr, ho, hf, hg, hd⟩
theorem Pair.both (h : Pair w0 w b t cs p r C E C E) : Both w0 w p r C E := h.half
theorem Pair.off (h : Pair w0 w b t cs p r C E C' E') (o : Off Nob w w') : Pair w0 w' b t cs p r C E C' E' := by
 obtain ⟨F, R, ha, hr, ho, hf, hg, hd, hb, n1, n2⟩ := h
 exact ⟨F, R, ha.keep o (fun _ _ hn => hn), hr.keep o (fun _ _ hn => hn), ho.also o, hf, hg, hd, hb.to (o.block _ hb.lt (fun h => h)), n1, n2⟩
theorem Pair.cell (h : Pair w0 w b t cs p r C E C' E') (i : Nat) : w.cell? ⟨b, i, none⟩ = cs[i]? := by
 obtain ⟨F, R, ha, hr, ho, hf, hg, hd, hb, n1, n2⟩ := h
 exact hb.cell i
theorem Pair.first (h : Pair w0 w b t cs p r C E C' E') {P : Program} {f : FuncId} {xs : Array Value} {e0 : Ending} {C2 : List (BitVec 64)} {E2 : List Ev}
  (hc : ∀ w F, Ar w F p C E → Calls P f xs w fun e w' => e = e0 ∧ ArTo w F p C2 E2 w') : Calls P f xs w fun e w' => e = e0 ∧ Pair w0 w' b t cs p r C2 E2 C' E' := by
 obtain ⟨F, R, ha, hr, ho, hf, hg, hd, hb, n1, n2⟩ := h
 refine (hc w F ha).mono fun e w' ⟨he, a3, o3⟩ => ⟨he, ?_⟩
 have hd3 : ∀ k, R k → ¬ Grow F w w' k := Grow.apart (fun k hk hn => hd k hn hk) hr.lt
 exact ⟨_, _, a3, hr.keep o3 (fun k hk hn => hd k hn hk), ho.own o3 hf, Grow.from_ hf ho.size, hg, fun k hk hn => hd3 k hn hk, hb.to (o3.block _ hb.lt n1), fun h => h.elim n1 (fun h => by have := hb.lt; omega), n2⟩
theorem Pair.second (h : Pair w0 w b t cs p r C E C' E') {P : Program} {f : FuncId} {xs : Array Value} {e0 : Ending} {C2 : List (BitVec 64)} {E2 : List Ev}
  (hc : ∀ w F, Rf w F r C' E' → Calls P f xs w fun e w' => e = e0 ∧ RfTo w F r C2 E2 w') : Calls P f xs w fun e w' => e = e0 ∧ Pair w0 w' b t cs p r C E C2 E2 := by
 obtain ⟨F, R, ha, hr, ho, hf, hg, hd, hb, n1, n2⟩ := h
 refine (hc w R hr).mono fun e w' ⟨he, r4, o4⟩ => ⟨he, ?_⟩
 exact ⟨F, _, ha.keep o4 hd, r4, ho.own o4 hg, hf, Grow.from_ hg ho.size, Grow.apart hd ha.lt, hb.to (o4.block _ hb.lt n2), n1, fun h => h.elim n2 (fun h => by have := hb.lt; omega)⟩
end
theorem Rd.at_ {w : World} {F : Nat → Prop} {size n : Nat} {v : Value} {xs : List Value} (h : Rd w F size v n xs) (hn : 0 < n) : ∃ b o c, v = .slice (some ⟨b, o, none⟩) n c ∧ b < w.heap.size ∧ ∀ j u, xs[j]? = some u → w.cell? ⟨b, o + j, none⟩ = some u := by
 obtain ⟨A, c, rfl, _, _, hc⟩ := h
 obtain ⟨b, o, rfl, _, hb, hx⟩ := hc hn
 exact ⟨b, o, c, rfl, hb, hx⟩
theorem Rd.form {w : World} {F : Nat → Prop} {size n : Nat} {v : Value} {xs : List Value} (h : Rd w F size v n xs) : ∃ A c, v = .slice A n c ∧ n ≤ maxLen ∧ (0 < n → ∃ b o, A = some ⟨b, o, none⟩ ∧ b < w.heap.size ∧ ∀ j u, xs[j]? = some u → w.cell? ⟨b, o + j, none⟩ = some u) := by
 obtain ⟨A, c, rfl, hm, _, hc⟩ := h
 refine ⟨A, c, rfl, hm, fun hn => ?_⟩
 obtain ⟨b, o, rfl, _, hb, hx⟩ := hc hn
 exact ⟨b, o, rfl, hb, hx⟩
theorem Off.cell_old {w w' : World} (o : Off Nob w w') {b : Nat} (hb : b < w.heap.size) (i : Nat) : w'.cell? ⟨b, i, none⟩ = w.cell? ⟨b, i, none⟩ := World.cell?_of_block (a := ⟨b, i, none⟩) (o.block b hb (fun h => h))
end Go.Proofs.YtkflicifngohcaaGreatDoor

namespace Go.Proofs.YtkflicifngohcaaGreatDoor
open Go.RowKit
set_option maxRecDepth 100000
section
variable {w : World} {F : Nat → Prop} {p : Nat} {C : List (BitVec 64)} {E : List Ev}
theorem step_out (h : Ar w F p C E) (k : Nat) (x : Int) (hx : x < 0 ∨ (C.length : Int) ≤ x) :
  Calls Tryz.prog 99 #[.pointer (some ⟨p, 0, none⟩), .int .i64 k, .int .i64 x] w fun e w' => e = .returned (.int .i64 7) ∧ w = w' := by
 have h2 := h.n2
 have HN := hID (none_ok h)
 obtain ⟨cb, pv, ps, rg, hpl, h⟩ := h
 have c2 := h.top.cell 2
 simp only [List.getElem?_toArray, List.getElem?_cons_succ, List.getElem?_cons_zero] at c2
 clear h hpl
 by_cases h0 : x < 0
 ·have d0 : decide (x < 0) = true := decide_eq_true h0
  go_enter Tryz.func99, Tryz.ntmps99
  go_wp2_with (go_at_call 56; refine HN.out.mono ?_; rintro e w' ⟨rfl, rfl⟩)
  go_ret
  exact ⟨rfl, rfl⟩
 ·have d0 : decide (x < 0) = false := decide_eq_false h0
  have h1 : (C.length : Int) ≤ x := by omega
  have d1 : decide ((C.length : Int) ≤ x) = true := decide_eq_true h1
  go_enter Tryz.func99, Tryz.ntmps99
  go_wp2_with (go_at_call 56; refine HN.out.mono ?_; rintro e w' ⟨rfl, rfl⟩)
  go_ret
  exact ⟨rfl, rfl⟩
theorem store_out (h : Ar w F p C E) (x : Int) (v : Int) (hx : x < 0 ∨ (C.length : Int) ≤ x) :
  Calls Tryz.prog 59 #[.pointer (some ⟨p, 0, none⟩), .int .i64 x, .int .u64 v] w fun e w' => e = .returned (.int .i64 7) ∧ w = w' := by
 have HS := hID (step_out h 2 x hx)
 clear h hx
 go_enter Tryz.func59, Tryz.ntmps59
 go_wp2_with fail
 refine HS.out.mono ?_
 rintro e w' ⟨rfl, rfl⟩
 go_wp2_with fail
 go_ret
 exact ⟨rfl, rfl⟩
theorem rstep_out (h : Rf w F p C E) (k : Nat) (x : Int) (hx : x < 0 ∨ (C.length : Int) ≤ x) :
  Calls Tryz.prog 100 #[.pointer (some ⟨p, 0, none⟩), .int .i64 k, .int .i64 x] w fun e w' => e = .returned (.int .i64 7) ∧ w = w' := by
 have h2 := h.n2
 have HN := hID (rnone_ok h)
 obtain ⟨cb, ev, rg, h⟩ := h
 have c0 := h.top.cell 0
 simp only [List.getElem?_toArray, List.getElem?_cons_zero] at c0
 clear h
 by_cases h0 : x < 0
 ·have d0 : decide (x < 0) = true := decide_eq_true h0
  go_enter Tryz.func100, Tryz.ntmps100
  go_wp2_with (go_at_call 103; refine HN.out.mono ?_; rintro e w' ⟨rfl, rfl⟩)
  go_ret
  exact ⟨rfl, rfl⟩
 ·have d0 : decide (x < 0) = false := decide_eq_false h0
  have h1 : (C.length : Int) ≤ x := by omega
  have d1 : decide ((C.length : Int) ≤ x) = true := decide_eq_true h1
  go_enter Tryz.func100, Tryz.ntmps100
  go_wp2_with (go_at_call 103; refine HN.out.mono ?_; rintro e w' ⟨rfl, rfl⟩)
  go_ret
  exact ⟨rfl, rfl⟩
theorem rstore_out (h : Rf w F p C E) (x : Int) (v : Int) (hx : x < 0 ∨ (C.length : Int) ≤ x) :
  Calls Tryz.prog 60 #[.pointer (some ⟨p, 0, none⟩), .int .i64 x, .int .u64 v] w fun e w' => e = .returned (.int .i64 7) ∧ w = w' := by
 have HS := hID (rstep_out h 2 x hx)
 clear h hx
 go_enter Tryz.func60, Tryz.ntmps60
 go_wp2_with fail
 refine HS.out.mono ?_
 rintro e w' ⟨rfl, rfl⟩
 go_wp2_with fail
 go_ret
 exact ⟨rfl, rfl⟩
end
theorem both_store {w0 w : World} {p r : Nat} {C : List (BitVec 64)} {E : List Ev} (h : Both w0 w p r C E) (he : E.length < 8388608) (x : Int) (v : BitVec 64) :
  ∃ C' E', C'.length = C.length ∧ E'.length ≤ E.length + 1 ∧ Calls Tryz.prog 59 #[.pointer (some ⟨p, 0, none⟩), .int .i64 x, .int .u64 (n64 v)] w fun e w' => (∃ c, e = .returned (.int .i64 c)) ∧ Half w0 w' p r C' E' C E ∧
   Calls Tryz.prog 60 #[.pointer (some ⟨r, 0, none⟩), .int .i64 x, .int .u64 (n64 v)] w' fun e w2 => (∃ c, e = .returned (.int .i64 c)) ∧ Both w0 w2 p r C' E' := by
 by_cases hx : x < 0 ∨ (C.length : Int) ≤ x
 ·refine ⟨C, E, rfl, Nat.le_succ _, ?_⟩
  obtain ⟨F, ha, _⟩ := h.ar
  refine (store_out ha x (n64 v) hx).mono ?_
  rintro e w' ⟨rfl, rfl⟩
  obtain ⟨R, hr, _⟩ := h.rf
  refine ⟨⟨7, rfl⟩, h, (rstore_out hr x (n64 v) hx).mono ?_⟩
  rintro e w' ⟨rfl, rfl⟩
  exact ⟨⟨7, rfl⟩, h⟩
 ·refine ⟨C.set x.toNat v, E ++ [(2, x.toNat)], by rw [List.length_set], by simp, ?_⟩
  obtain ⟨F, ha, go1⟩ := h.ar
  refine (store_ok ha x v (by omega) (by omega) he).mono ?_
  rintro e w' ⟨rfl, a⟩
  have h1 := go1 _ _ _ a
  obtain ⟨R, hr, go2⟩ := h1.rf
  refine ⟨⟨0, rfl⟩, h1, (rstore_ok hr x v (by omega) (by omega) he).mono ?_⟩
  rintro e w2 ⟨rfl, a2⟩
  exact ⟨⟨0, rfl⟩, go2 _ _ _ a2⟩
end Go.Proofs.YtkflicifngohcaaGreatDoor
