/-
  Two arenas, one of them the specification's, beside a block of the call's own.
-/
import Derived.Test.YtkflicifngohcaaGreatDoorJ7
import Derived.Deep.RegionHeld3
import Derived.Test.YtkflicifngohcaaGreatDoorJ5
namespace Go.Proofs.YtkflicifngohcaaGreatDoor
open Go.RowKit
set_option maxRecDepth 100000
theorem ArTo.off {w w' : World} {F : Nat → Prop} {p : Nat} {C : List (BitVec 64)} {E : List Ev} (h : Ar w F p C E) (o : Off Nob w w') : ArTo w F p C E w' :=
  ⟨(h.keep o (fun _ _ hn => hn)).mono (fun _ hk => .inl hk) (Grow.lt h.lt o.size), o.ofNob⟩
theorem RfTo.off {w w' : World} {F : Nat → Prop} {p : Nat} {C : List (BitVec 64)} {E : List Ev} (h : Rf w F p C E) (o : Off Nob w w') : RfTo w F p C E w' :=
  ⟨(h.keep o (fun _ _ hn => hn)).mono (fun _ hk => .inl hk) (Grow.lt h.lt o.size), o.ofNob⟩
theorem Rf.box {w : World} {F : Nat → Prop} {p : Nat} {C : List (BitVec 64)} {E : List Ev} (h : Rf w F p C E) (o : Obj) : Rf (w.alloc o) F p C E := h.keep (Off.alloc (Off.refl Nob w) o) (fun _ _ hn => hn)
theorem RfTo.box {w : World} {F : Nat → Prop} {p : Nat} {C C' : List (BitVec 64)} {E E' : List Ev} {o : Obj} {w' : World} (h : Rf w F p C E) (k : RfTo (w.alloc o) F p C' E' w') : RfTo w F p C' E' w' := by
  have ho : Off F w w' := (Off.alloc (Off.refl _ _) o).also k.2
  refine ⟨k.1.mono (fun i hi => ?_) (Grow.lt h.lt ho.size), ho⟩
  rcases hi with hi | hi
  · exact .inl hi
  · exact .inr ⟨by have := hi.1; simp at this; omega, hi.2⟩
def RErPost (w : World) (F : Nat → Prop) (p : Nat) (c : Int) (r : List (BitVec 64) × List Ev) (e : Ending) (w' : World) : Prop :=
  e = .returned (.int .i64 c) ∧ RfTo w F p r.1 r.2 w'
/-- Two arenas, made behind w0, and a block, which all lie apart. -/
def Pair (w0 w : World) (b : Nat) (t : TypeId) (cs : Array Value) (p r : Nat) (C : List (BitVec 64)) (E : List Ev) (C' : List (BitVec 64)) (E' : List Ev) : Prop :=
  ∃ F R, Ar w F p C E ∧ Rf w R r C' E' ∧ Off Nob w0 w ∧ (∀ k, F k → w0.heap.size ≤ k) ∧ (∀ k, R k → w0.heap.size ≤ k) ∧ (∀ k, F k → ¬ R k) ∧ Blk w b t cs ∧ ¬ F b ∧ ¬ R b
section
variable {w0 w w' : World} {b : Nat} {t : TypeId} {cs : Array Value} {p r : Nat} {C C' : List (BitVec 64)} {E E' : List Ev}
theorem Half.pair (h : Half w0 w p r C E C' E') (t : TypeId) (cs : Array Value) : Pair w0 (w.alloc (.cells cs t)) w.heap.size t cs p r C E C' E' := by
  obtain ⟨F, R, ha, hr, ho, hf, hg, hd⟩ := h
  exact ⟨F, R, ha.box _, hr.box _, ho.alloc _, hf, hg, hd, Blk.new _ _ _, fun h => by have := ha.lt _ h; omega, fun h => by have := hr.lt _ h; omega⟩
theorem Both.pair (h : Both w0 w p r C E) (t : TypeId) (cs : Array Value) : Pair w0 (w.alloc (.cells cs t)) w.heap.size t cs p r C E C E := Half.pair h t cs
theorem Pair.half (h : Pair w0 w b t cs p r C E C' E') : Half w0 w p r C E C' E' := by
  obtain ⟨F, R, ha, hr, ho, hf, hg, hd, _⟩ := h
  exact ⟨F, R, ha, hr, ho, hf, hg, hd⟩
theorem Pair.both (h : Pair w0 w b t cs p r C E C E) : Both w0 w p r C E := h.half
theorem Pair.off (h : Pair w0 w b t cs p r C E C' E') (o : Off Nob w w') : Pair w0 w' b t cs p r C E C' E' := by
  obtain ⟨F, R, ha, hr, ho, hf, hg, hd, hb, n1, n2⟩ := h
  exact ⟨F, R, ha.keep o (fun _ _ hn => hn), hr.keep o (fun _ _ hn => hn), ho.also o, hf, hg, hd, hb.to (o.block _ hb.lt (fun h => h)), n1, n2⟩
theorem Pair.cell (h : Pair w0 w b t cs p r C E C' E') (i : Nat) : w.cell? ⟨b, i, none⟩ = cs[i]? := by
  obtain ⟨F, R, ha, hr, ho, hf, hg, hd, hb, n1, n2⟩ := h
  exact hb.cell i
theorem Pair.first (h : Pair w0 w b t cs p r C E C' E') {P : Program} {f : FuncId} {xs : Array Value} {e0 : Ending} {C2 : List (BitVec 64)} {E2 : List Ev}
    (hc : ∀ w F, Ar w F p C E → Calls P f xs w fun e w' => e = e0 ∧ ArTo w F p C2 E2 w') : Calls P f xs w fun e w' => e = e0 ∧ Pair w0 w' b t cs p r C2 E2 C' E' := by
  obtain ⟨F, R, ha, hr, ho, hf, hg, hd, hb, n1, n2⟩ := h
  refine (hc w F ha).mono fun e w' ⟨he, a3, o3⟩ => ⟨he, ?_⟩
  have hd3 : ∀ k, R k → ¬ Grow F w w' k := Grow.apart (fun k hk hn => hd k hn hk) hr.lt
  exact ⟨_, _, a3, hr.keep o3 (fun k hk hn => hd k hn hk), ho.own o3 hf, Grow.from_ hf ho.size, hg, fun k hk hn => hd3 k hn hk, hb.to (o3.block _ hb.lt n1), fun h => h.elim n1 (fun h => by have := hb.lt; omega), n2⟩
theorem Pair.second (h : Pair w0 w b t cs p r C E C' E') {P : Program} {f : FuncId} {xs : Array Value} {e0 : Ending} {C2 : List (BitVec 64)} {E2 : List Ev}
    (hc : ∀ w F, Rf w F r C' E' → Calls P f xs w fun e w' => e = e0 ∧ RfTo w F r C2 E2 w') : Calls P f xs w fun e w' => e = e0 ∧ Pair w0 w' b t cs p r C E C2 E2 := by
  obtain ⟨F, R, ha, hr, ho, hf, hg, hd, hb, n1, n2⟩ := h
  refine (hc w R hr).mono fun e w' ⟨he, r4, o4⟩ => ⟨he, ?_⟩
  exact ⟨F, _, ha.keep o4 hd, r4, ho.own o4 hg, hf, Grow.from_ hg ho.size, Grow.apart hd ha.lt, hb.to (o4.block _ hb.lt n2), n1, fun h => h.elim n2 (fun h => by have := hb.lt; omega)⟩
end
/-- A block of the call's own. -/
def Solo (w0 w : World) (b : Nat) (t : TypeId) (cs : Array Value) : Prop := Off Nob w0 w ∧ Blk w b t cs
theorem Solo.new (w : World) (t : TypeId) (cs : Array Value) : Solo w (w.alloc (.cells cs t)) w.heap.size t cs := ⟨Off.alloc (Off.refl _ _) _, Blk.new _ _ _⟩
theorem Solo.off {w0 w w' : World} {b : Nat} {t : TypeId} {cs : Array Value} (h : Solo w0 w b t cs) (o : Off Nob w w') : Solo w0 w' b t cs := ⟨h.1.also o, h.2.to (o.block _ h.2.lt (fun h => h))⟩
/-- What a call in both arenas leaves. -/
def DoPost (w0 : World) (p r : Nat) (e : Ending) (w' : World) : Prop := e = .returned (.bool true) ∧ ∃ C E, Both w0 w' p r C E
/-- Cells of a list of rows. -/
theorem Rd.at_ {w : World} {F : Nat → Prop} {size n : Nat} {v : Value} {xs : List Value} (h : Rd w F size v n xs) (hn : 0 < n) : ∃ b o c, v = .slice (some ⟨b, o, none⟩) n c ∧ b < w.heap.size ∧ ∀ j u, xs[j]? = some u → w.cell? ⟨b, o + j, none⟩ = some u := by
  obtain ⟨A, c, rfl, _, _, hc⟩ := h
  obtain ⟨b, o, rfl, _, hb, hx⟩ := hc hn
  exact ⟨b, o, c, rfl, hb, hx⟩
theorem Rd.form {w : World} {F : Nat → Prop} {size n : Nat} {v : Value} {xs : List Value} (h : Rd w F size v n xs) : ∃ A c, v = .slice A n c ∧ n ≤ maxLen ∧ (0 < n → ∃ b o, A = some ⟨b, o, none⟩ ∧ b < w.heap.size ∧ ∀ j u, xs[j]? = some u → w.cell? ⟨b, o + j, none⟩ = some u) := by
  obtain ⟨A, c, rfl, hm, _, hc⟩ := h
  refine ⟨A, c, rfl, hm, fun hn => ?_⟩
  obtain ⟨b, o, rfl, _, hb, hx⟩ := hc hn
  exact ⟨b, o, rfl, hb, hx⟩
theorem Off.cell_old {w w' : World} (o : Off Nob w w') {b : Nat} (hb : b < w.heap.size) (i : Nat) : w'.cell? ⟨b, i, none⟩ = w.cell? ⟨b, i, none⟩ := World.cell?_of_block (a := ⟨b, i, none⟩) (o.block b hb (fun h => h))
end Go.Proofs.YtkflicifngohcaaGreatDoor

/-
  dragnetlaw21.both: two arenas, equal, with some values.
-/
namespace Go.Proofs.YtkflicifngohcaaGreatDoor
open Go.RowKit
set_option linter.unusedVariables false
set_option linter.unusedSimpArgs false
set_option maxRecDepth 100000
section
variable {w : World} {F : Nat → Prop} {p : Nat} {C : List (BitVec 64)} {E : List Ev}
theorem step_out (h : Ar w F p C E) (k : Nat) (x : Int) (hx : x < 0 ∨ (C.length : Int) ≤ x) :
    Calls Tryz.prog 99 #[.pointer (some ⟨p, 0, none⟩), .int .i64 k, .int .i64 x] w fun e w' => e = .returned (.int .i64 7) ∧ w = w' := by
  have h2 := h.n2
  have HN := Lib.hid (none_ok h)
  obtain ⟨cb, pv, ps, rg, hpl, h⟩ := h
  have c2 := h.top.cell 2
  simp only [List.getElem?_toArray, List.getElem?_cons_succ, List.getElem?_cons_zero] at c2
  clear h hpl
  by_cases h0 : x < 0
  · have d0 : decide (x < 0) = true := decide_eq_true h0
    go_enter Tryz.func99, Tryz.ntmps99
    go_wp2_with (go_at_call 56; refine HN.out.mono ?_; rintro e w' ⟨rfl, rfl⟩)
    go_ret
    exact ⟨rfl, rfl⟩
  · have d0 : decide (x < 0) = false := decide_eq_false h0
    have h1 : (C.length : Int) ≤ x := by omega
    have d1 : decide ((C.length : Int) ≤ x) = true := decide_eq_true h1
    go_enter Tryz.func99, Tryz.ntmps99
    go_wp2_with (go_at_call 56; refine HN.out.mono ?_; rintro e w' ⟨rfl, rfl⟩)
    go_ret
    exact ⟨rfl, rfl⟩
theorem store_out (h : Ar w F p C E) (x : Int) (v : Int) (hx : x < 0 ∨ (C.length : Int) ≤ x) :
    Calls Tryz.prog 59 #[.pointer (some ⟨p, 0, none⟩), .int .i64 x, .int .u64 v] w fun e w' => e = .returned (.int .i64 7) ∧ w = w' := by
  have HS := Lib.hid (step_out h 2 x hx)
  clear h hx
  go_enter Tryz.func59, Tryz.ntmps59
  go_wp2_with fail
  refine HS.out.mono ?_
  rintro e w' ⟨rfl, rfl⟩
  go_wp2_with fail
  go_ret
  exact ⟨rfl, rfl⟩
theorem rstep_out (h : Rf w F p C E) (k : Nat) (x : Int) (hx : x < 0 ∨ (C.length : Int) ≤ x) :
    Calls Tryz.prog 100 #[.pointer (some ⟨p, 0, none⟩), .int .i64 k, .int .i64 x] w fun e w' => e = .returned (.int .i64 7) ∧ w = w' := by
  have h2 := h.n2
  have HN := Lib.hid (rnone_ok h)
  obtain ⟨cb, ev, rg, h⟩ := h
  have c0 := h.top.cell 0
  simp only [List.getElem?_toArray, List.getElem?_cons_zero] at c0
  clear h
  by_cases h0 : x < 0
  · have d0 : decide (x < 0) = true := decide_eq_true h0
    go_enter Tryz.func100, Tryz.ntmps100
    go_wp2_with (go_at_call 103; refine HN.out.mono ?_; rintro e w' ⟨rfl, rfl⟩)
    go_ret
    exact ⟨rfl, rfl⟩
  · have d0 : decide (x < 0) = false := decide_eq_false h0
    have h1 : (C.length : Int) ≤ x := by omega
    have d1 : decide ((C.length : Int) ≤ x) = true := decide_eq_true h1
    go_enter Tryz.func100, Tryz.ntmps100
    go_wp2_with (go_at_call 103; refine HN.out.mono ?_; rintro e w' ⟨rfl, rfl⟩)
    go_ret
    exact ⟨rfl, rfl⟩
theorem rstore_out (h : Rf w F p C E) (x : Int) (v : Int) (hx : x < 0 ∨ (C.length : Int) ≤ x) :
    Calls Tryz.prog 60 #[.pointer (some ⟨p, 0, none⟩), .int .i64 x, .int .u64 v] w fun e w' => e = .returned (.int .i64 7) ∧ w = w' := by
  have HS := Lib.hid (rstep_out h 2 x hx)
  clear h hx
  go_enter Tryz.func60, Tryz.ntmps60
  go_wp2_with fail
  refine HS.out.mono ?_
  rintro e w' ⟨rfl, rfl⟩
  go_wp2_with fail
  go_ret
  exact ⟨rfl, rfl⟩
end
/-- A store on both sides. -/
theorem both_store {w0 w : World} {p r : Nat} {C : List (BitVec 64)} {E : List Ev} (h : Both w0 w p r C E) (he : E.length < 8388608) (x : Int) (v : BitVec 64) :
    ∃ C' E', C'.length = C.length ∧ E'.length ≤ E.length + 1 ∧ Calls Tryz.prog 59 #[.pointer (some ⟨p, 0, none⟩), .int .i64 x, .int .u64 (n64 v)] w fun e w' => (∃ c, e = .returned (.int .i64 c)) ∧ Half w0 w' p r C' E' C E ∧
      Calls Tryz.prog 60 #[.pointer (some ⟨r, 0, none⟩), .int .i64 x, .int .u64 (n64 v)] w' fun e w2 => (∃ c, e = .returned (.int .i64 c)) ∧ Both w0 w2 p r C' E' := by
  by_cases hx : x < 0 ∨ (C.length : Int) ≤ x
  · refine ⟨C, E, rfl, Nat.le_succ _, ?_⟩
    obtain ⟨F, ha, _⟩ := h.ar
    refine (store_out ha x (n64 v) hx).mono ?_
    rintro e w' ⟨rfl, rfl⟩
    obtain ⟨R, hr, _⟩ := h.rf
    refine ⟨⟨7, rfl⟩, h, (rstore_out hr x (n64 v) hx).mono ?_⟩
    rintro e w' ⟨rfl, rfl⟩
    exact ⟨⟨7, rfl⟩, h⟩
  · refine ⟨C.set x.toNat v, E ++ [(2, x.toNat)], by rw [List.length_set], by simp, ?_⟩
    obtain ⟨F, ha, go1⟩ := h.ar
    refine (store_ok ha x v (by omega) (by omega) he).mono ?_
    rintro e w' ⟨rfl, a⟩
    have h1 := go1 _ _ _ a
    obtain ⟨R, hr, go2⟩ := h1.rf
    refine ⟨⟨0, rfl⟩, h1, (rstore_ok hr x v (by omega) (by omega) he).mono ?_⟩
    rintro e w2 ⟨rfl, a2⟩
    exact ⟨⟨0, rfl⟩, go2 _ _ _ a2⟩
set_option maxHeartbeats 2000000 in
theorem both_any (n : Nat) (h1 : 1 ≤ n) (h2 : n ≤ 2400) (x : Int) (hx : -1000000 ≤ x ∧ x ≤ 1000000) (L : List (BitVec 64)) (hL : L.length ≤ 400) (w : World) (v : Value) (hv : Rd w (fun _ => True) 1 v L.length (u64s L)) :
    Calls Tryz.prog 21 #[.int .i64 n, .int .i64 x, v] w fun e w' => ∃ p r C E, e = .returned (.tuple #[.pointer (some ⟨p, 0, none⟩), .pointer (some ⟨r, 0, none⟩)]) ∧ Both w w' p r C E ∧ C.length = n ∧ E.length ≤ L.length := by
  obtain ⟨hx1, hx2⟩ := hx
  have hform : ∃ A c, v = .slice A L.length c := by
    obtain ⟨A, c, rfl, _⟩ := hv.form
    exact ⟨A, c, rfl⟩
  obtain ⟨A, c, rfl⟩ := hform
  have HC : Hid (∀ W, Off Nob w W → ∀ k, k < L.length → ∃ b o, A = some ⟨b, o, none⟩ ∧ W.cell? ⟨b, o + k, none⟩ = some (.int .u64 (n64 (cl L k)))) := Lib.hid (fun W ho k hk => by
    obtain ⟨A2, c2, he2, _, _, hr⟩ := hv.keep ho (fun k _ hk => hk)
    cases he2
    obtain ⟨b, o, rfl, _, _, hcell⟩ := hr (by omega)
    exact ⟨b, o, rfl, hcell k _ (getElem_u64s L k hk)⟩)
  clear hv
  have hmm : min (max (n : Int) 1) 2400 = (n : Int) := by omega
  go_enter Tryz.func21, Tryz.ntmps21
  go_wp2_with fail
  try rw [hmm]
  refine (new_ok n w h1 (by omega)).mono ?_
  rintro e w1 ⟨p, rfl, F, ha, o1, hF⟩
  have HA := Lib.hid (And.intro ha (And.intro o1 hF))
  clear ha o1 hF
  go_wp2_with fail
  try rw [hmm]
  refine (rnew_ok n w1 h1 (by omega)).mono ?_
  rintro e w2 ⟨r, rfl, R, hb, o2, hR⟩
  have H0 : Hid (Both w w2 p r (List.replicate n 0) []) := Lib.hid ⟨F, R, HA.out.1.keep o2 (fun _ _ hn => hn), hb, HA.out.2.1.also o2, HA.out.2.2, fun k hk => by have := hR k hk; have := HA.out.2.1.size; omega, fun k hk hr => by have := HA.out.1.lt k hk; have := hR k hr; omega⟩
  clear hb o2 hR
  go_wp2_with fail
  go_loopw [12] (fun q wr => ∃ (k : Nat) (C : List (BitVec 64)) (E : List Ev), q = .int .i64 (k : Int) ∧ k ≤ L.length ∧ Both w wr p r C E ∧ C.length = n ∧ E.length ≤ k) (fun q wr => L.length - (intOf q).toNat)
  case atStart => exact ⟨0, _, _, rfl, Nat.zero_le _, H0.out, List.length_replicate .., Nat.le_refl _⟩
  case round =>
    obtain ⟨k, C, E, rfl, hk, hy, hcn, hen⟩ := hrel
    have HB := Lib.hid (And.intro hy (And.intro hcn hen))
    clear hy hcn hen H0
    by_cases hlt : k < L.length
    · have d1 : decide ((k : Int) < (L.length : Int)) = true := decide_eq_true (by omega)
      obtain ⟨b, o, rfl, ck⟩ := HC.out _ HB.out.1.old k hlt
      obtain ⟨C', E', hc', he', hst⟩ := both_store HB.out.1 (by have := HB.out.2.2; omega) (x + k) (cl L k)
      have HS := Lib.hid (And.intro hc' (And.intro he' hst))
      clear hc' he' hst
      obtain ⟨u, hu⟩ : ∃ u, cl L k = u := ⟨_, rfl⟩
      rw [hu] at ck HS
      have HU := Lib.hid hu
      clear hu
      go_wp2_with fail
      refine HS.out.2.2.mono ?_
      rintro e w3 ⟨⟨c1, rfl⟩, hh, hst⟩
      have HH := Lib.hid (And.intro hh hst)
      clear hh hst ck
      obtain ⟨b2, o2, he2, ck⟩ := HC.out _ HH.out.1.old k hlt
      cases he2
      rw [HU.out] at ck
      go_wp2_with fail
      refine HH.out.2.mono ?_
      rintro e w4 ⟨⟨c2, rfl⟩, hb4⟩
      have H4 := Lib.hid hb4
      clear hb4 ck
      go_wp2_with fail
      go_roundw
      case rel => exact ⟨k + 1, C', E', rfl, by omega, H4.out, by rw [HS.out.1]; exact HB.out.2.1, by have := HS.out.2.1; have := HB.out.2.2; omega⟩
      case measure => simp [intOf]; omega
    · obtain rfl : k = L.length := by omega
      go_wp2_with fail
      go_ret2
      exact ⟨p, r, C, E, rfl, HB.out.1, HB.out.2.1, HB.out.2.2⟩
end Go.Proofs.YtkflicifngohcaaGreatDoor
