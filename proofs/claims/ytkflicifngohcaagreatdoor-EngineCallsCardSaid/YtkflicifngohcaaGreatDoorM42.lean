/-
 A set that came in, opened in whole; slices of bytes that came in.
-/
import Derived.Test.YtkflicifngohcaaGreatDoorM41
import Derived.Test.YtkflicifngohcaaGreatDoorM37
import Derived.Lib.LaidTab
import Derived.Test.YtkflicifngohcaaGreatDoorM39
import Derived.Test.YtkflicifngohcaaGreatDoorM27
import Derived.Test.YtkflicifngohcaaGreatDoorM8
import Derived.Deep.RegionHeld3
import Derived.Test.YtkflicifngohcaaGreatDoorM40
import Derived.Test.YtkflicifngohcaaGreatDoorM6
import Derived.Test.YtkflicifngohcaaGreatDoorM7
set_option linter.unusedVariables false
set_option linter.unusedSimpArgs false
namespace Go.Proofs.YtkflicifngohcaaGreatDoor
open Go.ChangeShapes Go.WideShapes Go.ChangeAt Go.RowKit Go.Deep
structure OSet (w : World) (VI VT VS VF : Value) (ids : List Int) (Wd : Int) (T S F : List Nat) : Prop where
 i : Rd w (Old w) 1 VI ids.length (ids.map (Value.int .i64))
 t : Rd w (Old w) 1 VT T.length (wordsV T)
 s : Rd w (Old w) 1 VS S.length (wordsV S)
 f : Rd w (Old w) 1 VF F.length (wordsV F)
 ct : CapOk VT
 cf : CapOk VF
 i64 : ∀ x ∈ ids, -9223372036854775808 ≤ x ∧ x ≤ 9223372036854775807
 w64 : -9223372036854775808 ≤ Wd ∧ Wd ≤ 9223372036854775807
 t64 : ∀ x ∈ T, x < 18446744073709551616
 s64 : ∀ x ∈ S, x < 18446744073709551616
 f64 : ∀ x ∈ F, x < 18446744073709551616
theorem OSet.setV {w w' : World} {VI VT VS VF : Value} {ids : List Int} {Wd : Int} {T S F : List Nat} (h : OSet w VI VT VS VF ids Wd T S F) (o : Off Nob w w') (hi : ids.length ≤ 4096) (ht : T.length ≤ 4096) (hs : S.length ≤ 4096) (hf : F.length ≤ 4096) : SetV w' VI VT VS VF ids Wd T S F :=
 ⟨h.i.any.keepT o, h.t.any.keepT o, h.s.any.keepT o, h.f.any.keepT o, h.ct, h.cf, h.i64, h.w64, h.t64, h.s64, h.f64, hi, ht, hs, hf⟩
theorem nats_of {k : IntKind} : ∀ zs : List Int, (∀ z ∈ zs, 0 ≤ z) → zs.map (Value.int k) = (zs.map Int.toNat).map (fun x : Nat => Value.int k (x : Int)) := by
 intro zs h
 rw [List.map_map]
 apply List.map_congr_left
 intro z hz
 have := h z hz
 show Value.int k z = Value.int k ((z.toNat : Nat) : Int)
 rw [show ((z.toNat : Nat) : Int) = z by omega]
section
variable {H : Type} {enc : TypeId × Value → H} {P : Program} {w : World} {b0 base : Nat} {spare : Nat → Bool} {held : Bool} {r : Reach} {t : TypeId} {v : Value} {d : DataW H} {ps : List MemPlace}
theorem sliced_cap {fuel : Nat} {e : TypeId} {a : Value} {x : DataW H × List MemPlace} (ht : P.underlying t = some (.slice e)) (h : DataW.trod enc P w base spare held fuel t [a] = some x) : CapOk a := by
 intro A n c hv
 subst hv
 rcases DataW.trod_slice ht h with ⟨hc, _⟩ | ⟨b, len, cap, el, rs, m, _, hc, _, _, hl, _⟩
 ·simp at hc
  omega
 ·simp at hc
  omega
theorem sliced_ints {k : IntKind} {fuel : Nat} {e : TypeId} {a : Value} {x : DataW H × List MemPlace} (ht : P.underlying t = some (.slice e)) (he : P.underlying e = some (.int k)) (hce : P.cellsOf e = 1) (h : DataW.trod enc P w base spare held fuel t [a] = some x) :
  ∃ zs : List Int, Rd w (Old w) 1 a zs.length (zs.map (Value.int k)) ∧ (∀ z ∈ zs, (Lit.int k z).wf = true) ∧ CapOk a := by
 have hc := sliced_cap ht h
 obtain ⟨v, n, zs, hv, hr, hz⟩ := trod_ints ht he hce h
 simp at hv
 subst hv
 have hl : zs.length = n := by obtain ⟨_, _, _, _, hl, _⟩ := hr; simpa using hl
 subst hl
 exact ⟨zs, hr, hz, hc⟩
theorem sliced_u64 {fuel : Nat} {e : TypeId} {a : Value} {x : DataW H × List MemPlace} (ht : P.underlying t = some (.slice e)) (he : P.underlying e = some (.int .u64)) (hce : P.cellsOf e = 1) (h : DataW.trod enc P w base spare held fuel t [a] = some x) :
  ∃ L : List Nat, Rd w (Old w) 1 a L.length (wordsV L) ∧ (∀ z ∈ L, z < 18446744073709551616) ∧ CapOk a := by
 obtain ⟨zs, hr, hz, hc⟩ := sliced_ints ht he hce h
 rw [nats_of zs (fun z hm => (bounds_u64 (hz z hm)).1)] at hr
 refine ⟨zs.map Int.toNat, by rw [List.length_map]; exact hr, fun z hm => ?_, hc⟩
 obtain ⟨y, hy, rfl⟩ := List.mem_map.1 hm
 have := bounds_u64 (hz y hy)
 omega
end
end Go.Proofs.YtkflicifngohcaaGreatDoor

namespace Go.Proofs.YtkflicifngohcaaGreatDoor
open Go.RowKit
set_option maxRecDepth 100000
section
variable {w0 w w' : World} {bs : Bks} {p q : Nat} {C C' : List (BitVec 64)} {E E' : List Ev}
end
theorem u64s_words (L : List (BitVec 64)) : u64s L = wordsV (L.map BitVec.toNat) := by
 unfold u64s wordsV
 rw [List.map_map]
 rfl
theorem Rd.from_ {w : World} {F : Nat → Prop} {b o n c : Nat} {L : List Nat} (h : Rd w F 1 (.slice (some ⟨b, o, none⟩) n c) n (wordsV L)) (k : Nat) (hk : k ≤ n) (c2 : Nat) : Rd w (fun _ => True) 1 (.slice (some ⟨b, o + k, none⟩) (n - k) c2) (L.drop k).length (wordsV (L.drop k)) := by
 obtain ⟨A, c', he, hm, hl, hc⟩ := h
 cases he
 have hl2 : L.length = n := by unfold wordsV at hl; simpa using hl
 have hd : (L.drop k).length = n - k := by rw [List.length_drop, hl2]
 rw [hd]
 refine ⟨_, _, rfl, by omega, by unfold wordsV; rw [List.length_map, hd]; omega, fun hn => ?_⟩
 obtain ⟨b2, o2, he, _, hb, hx⟩ := hc (by omega)
 cases he
 refine ⟨b, o + k, rfl, trivial, hb, fun j u hu => ?_⟩
 rw [Nat.add_assoc]
 refine hx (k + j) u ?_
 unfold wordsV at hu ⊢
 rw [List.map_drop, List.getElem?_drop] at hu
 exact hu
set_option maxHeartbeats 1000000 in
theorem large_is (A0 A1 A2 A3 : Option Addr) (n0 n1 n2 n3 k0 k1 k2 k3 : Nat) (wd : Int) (w : World) : Calls Tryz.prog 10 #[.agg #[.slice A0 n0 k0, .int .i64 wd, .slice A1 n1 k1, .slice A2 n2 k2, .slice A3 n3 k3]] w fun e w' => (∃ q, e = .returned (.bool q) ∧ (q = false → n0 ≤ 20 ∧ n1 ≤ 1100 ∧ n2 ≤ 10 ∧ n3 ≤ 100)) ∧ Off Nob w w' := by
 have X0 : Hid (Off Nob w (w.alloc (.cells #[.slice A0 n0 k0, .int .i64 wd, .slice A1 n1 k1, .slice A2 n2 k2, .slice A3 n3 k3] 25)) ∧ Blk (w.alloc (.cells #[.slice A0 n0 k0, .int .i64 wd, .slice A1 n1 k1, .slice A2 n2 k2, .slice A3 n3 k3] 25)) w.heap.size 25 #[.slice A0 n0 k0, .int .i64 wd, .slice A1 n1 k1, .slice A2 n2 k2, .slice A3 n3 k3]) := hID ⟨(Off.refl _ _).alloc _, Blk.new _ _ _⟩
 have s0 := X0.out.2.cell 0
 have s2 := X0.out.2.cell 2
 have s3 := X0.out.2.cell 3
 have s4 := X0.out.2.cell 4
 by_cases h0 : (20 : Int) < (n0 : Int)
 ·have d0 := decide_eq_true h0
  clear h0
  go_enter Tryz.func10, Tryz.ntmps10
  go_wp2_with fail
  go_ret
  exact ⟨⟨_, rfl, fun h => by cases h⟩, X0.out.1⟩
 ·have d0 := decide_eq_false h0
  have g0 : Hid (n0 ≤ 20) := hID (by omega)
  clear h0
  by_cases h1 : (1100 : Int) < (n1 : Int)
  ·have d1 := decide_eq_true h1
   clear h1
   go_enter Tryz.func10, Tryz.ntmps10
   go_wp2_with fail
   go_ret
   exact ⟨⟨_, rfl, fun h => by cases h⟩, X0.out.1⟩
  ·have d1 := decide_eq_false h1
   have g1 : Hid (n1 ≤ 1100) := hID (by omega)
   clear h1
   by_cases h2 : (10 : Int) < (n2 : Int)
   ·have d2 := decide_eq_true h2
    clear h2
    go_enter Tryz.func10, Tryz.ntmps10
    go_wp2_with fail
    go_ret
    exact ⟨⟨_, rfl, fun h => by cases h⟩, X0.out.1⟩
   ·have d2 := decide_eq_false h2
    have g2 : Hid (n2 ≤ 10) := hID (by omega)
    clear h2
    by_cases h3 : (100 : Int) < (n3 : Int)
    ·have d3 := decide_eq_true h3
     clear h3
     go_enter Tryz.func10, Tryz.ntmps10
     go_wp2_with fail
     go_ret
     exact ⟨⟨_, rfl, fun h => by cases h⟩, X0.out.1⟩
    ·have d3 := decide_eq_false h3
     have g3 : Hid (n3 ≤ 100) := hID (by omega)
     clear h3
     go_enter Tryz.func10, Tryz.ntmps10
     go_wp2_with fail
     go_ret
     exact ⟨⟨_, rfl, fun _ => ⟨g0.out, g1.out, g2.out, g3.out⟩⟩, X0.out.1⟩
end Go.Proofs.YtkflicifngohcaaGreatDoor

namespace Go.Proofs.YtkflicifngohcaaGreatDoor
open Go.RowKit
set_option maxRecDepth 100000
set_option maxHeartbeats 1000000 in
theorem clear_both (l : Lay) (w0 : World) (p r : Nat) (C : List (BitVec 64)) (E : List Ev) (hE : E.length ≤ 100000)  :
  ∃ (c : Int) (C' : List (BitVec 64)) (E' : List Ev), C'.length = C.length ∧ E'.length ≤ E.length + 4 ∧
   (∀ V, Both w0 V p r C E → Calls Tryz.prog 17 #[.pointer (some ⟨p, 0, none⟩), .agg #[.int .i64 l.a, .int .i64 l.b, .int .i64 l.t, .int .i64 l.s, .int .i64 l.f, .int .i64 l.st, .int .i64 l.n, .int .i64 l.h]] V fun e w' => e = .returned (.int .i64 c) ∧ Half w0 w' p r C' E' C E) ∧
   (∀ V, Half w0 V p r C' E' C E → Calls Tryz.prog 22 #[.pointer (some ⟨r, 0, none⟩), .agg #[.int .i64 l.a, .int .i64 l.b, .int .i64 l.t, .int .i64 l.s, .int .i64 l.f, .int .i64 l.st, .int .i64 l.n, .int .i64 l.h]] V fun e w' => e = .returned (.int .i64 c) ∧ Both w0 w' p r C' E') := by
 by_cases hc : askE C.length l = 0
 ·obtain ⟨L, rfl, hi, hok⟩ := askE_nat hc
  have ha4 := hi.a4
  refine ⟨0, clC L C, E ++ clE L, by unfold clC; rw [setL_length], by rw [List.length_append, clE, putE_len]; omega, fun V hV => ?_, fun V hV => ?_⟩
  ·obtain ⟨F, ha, go⟩ := Half.ar hV
   refine (nclear_any L V F p C E ha hok hi (by omega)).mono ?_
   rintro e w' ⟨he, a⟩
   exact ⟨he, go _ _ _ a⟩
  ·obtain ⟨G, hr, go⟩ := Half.rf hV
   refine (rclear_any L V G r C E hr hc hi (by omega)).mono ?_
   rintro e w' ⟨he, a⟩
   exact ⟨he, go _ _ _ a⟩
 ·refine ⟨askE C.length l, C, E, rfl, by omega, fun V hV => ?_, fun V hV => ?_⟩
  ·obtain ⟨F, ha, _⟩ := Half.ar hV
   refine (nclear_err l _ hc (fun W steps oW => begin_err l (ha.keep oW (fun _ _ hn => hn)) hc steps _ _ _)).mono ?_
   rintro e w' ⟨he, a⟩
   exact ⟨he, Half.off hV a⟩
  ·obtain ⟨G, hr, _⟩ := Half.rf hV
   refine (rclear_err l _ hc (fun W oW => rasked_any l (hr.keep oW (fun _ _ hn => hn)))).mono ?_
   rintro e w' ⟨he, a⟩
   exact ⟨he, Half.off hV a⟩
set_option maxHeartbeats 1000000 in
theorem setup_both (l : Lay) (w0 : World) (p r : Nat) (C : List (BitVec 64)) (E : List Ev) (hE : E.length ≤ 100000) (AI AT AS AF : Option Addr) (ci ct cs cf : Nat) (ids : List Int) (wd : Int) (T S Fi : List Nat)
  (hS : ∀ V, Off Nob w0 V → SetV V (.slice AI ids.length ci) (.slice AT T.length ct) (.slice AS S.length cs) (.slice AF Fi.length cf) ids wd T S Fi ∧ TzT V ∧ Rd V (fun k => k < w0.heap.size) 1 (.slice AT T.length ct) T.length (wordsV T) ∧ Rd V (fun k => k < w0.heap.size) 1 (.slice AS S.length cs) S.length (wordsV S) ∧ Rd V (fun k => k < w0.heap.size) 1 (.slice AF Fi.length cf) Fi.length (wordsV Fi)) :
  ∃ (c : Int) (C' : List (BitVec 64)) (E' : List Ev), C'.length = C.length ∧ E'.length ≤ E.length + 1100 ∧
   (∀ V, Both w0 V p r C E → Calls Tryz.prog 15 #[.pointer (some ⟨p, 0, none⟩), .agg #[.int .i64 l.a, .int .i64 l.b, .int .i64 l.t, .int .i64 l.s, .int .i64 l.f, .int .i64 l.st, .int .i64 l.n, .int .i64 l.h], .agg #[.slice AI ids.length ci, .int .i64 wd, .slice AT T.length ct, .slice AS S.length cs, .slice AF Fi.length cf]] V fun e w' => e = .returned (.int .i64 c) ∧ Half w0 w' p r C' E' C E) ∧
   (∀ V, Half w0 V p r C' E' C E → Calls Tryz.prog 23 #[.pointer (some ⟨r, 0, none⟩), .agg #[.int .i64 l.a, .int .i64 l.b, .int .i64 l.t, .int .i64 l.s, .int .i64 l.f, .int .i64 l.st, .int .i64 l.n, .int .i64 l.h], .agg #[.slice AI ids.length ci, .int .i64 wd, .slice AT T.length ct, .slice AS S.length cs, .slice AF Fi.length cf]] V fun e w' => e = .returned (.int .i64 c) ∧ Both w0 w' p r C' E') := by
 by_cases hc : askE C.length l = 0
 ·obtain ⟨L, rfl, hi, hok⟩ := askE_nat hc
  by_cases hd : setAskE L ids wd T S Fi = 0
  ·have hse : setErr ids wd T S Fi = 0 ∧ wd = (L.a : Int) ∧ ids.length = L.b := by
    unfold setAskE at hd
    split at hd
    ·rename_i h1
     split at hd
     ·rename_i h2
      exact ⟨h1, h2.1, h2.2⟩
     ·exact absurd hd (by decide)
    ·rename_i h1
     exact absurd hd h1
   obtain ⟨hz, rfl, hb⟩ := hse
   have ha4 := hi.a4
   have hba : L.b * L.a ≤ 64 := Nat.le_trans (Nat.mul_le_mul hi.b16 hi.a4) (by decide)
   refine ⟨0, suC L T S Fi C, E ++ suE L, suC_len _ _ _ _ _, by rw [List.length_append, suE_len]; omega, fun V hV => ?_, fun V hV => ?_⟩
   ·obtain ⟨q1, q2, q3, q4, q5⟩ := hS V (Half.old hV)
    obtain ⟨F, R, ha, hr, ho, hf, hg, hdj⟩ := hV
    have hn : ∀ k, k < w0.heap.size → ¬ F k := fun k hk h => by have := hf k h; omega
    refine (nsetup_any L V F p C E ha hok hi (by omega) _ _ _ _ ids T S Fi q1 hz hb (q3.mono hn) (q4.mono hn) (q5.mono hn) q2).mono ?_
    rintro e w' ⟨he, a⟩
    obtain ⟨F', ha', go⟩ := Half.ar (show Half w0 V p r C E C E from ⟨F, R, ha, hr, ho, hf, hg, hdj⟩)
    have hd3 : ∀ k, R k → ¬ Grow F V w' k := Grow.apart (fun k hk hn => hdj k hn hk) hr.lt
    exact ⟨he, Grow F V w', R, a.1, hr.keep a.2 (fun k hk hn => hdj k hn hk), ho.own a.2 hf, Grow.from_ hf ho.size, hg, fun k hk hn => hd3 k hn hk⟩
   ·obtain ⟨q1, q2, q3, q4, q5⟩ := hS V (Half.old hV)
    obtain ⟨F, R, ha, hr, ho, hf, hg, hdj⟩ := hV
    have hn : ∀ k, k < w0.heap.size → ¬ R k := fun k hk h => by have := hg k h; omega
    refine (rsetup_any L V R r C E hr hc hi (by omega) ids AI ci _ _ _ T S Fi q1 hz hb (q3.mono hn) (q4.mono hn) (q5.mono hn)).mono ?_
    rintro e w' ⟨he, a⟩
    exact ⟨he, F, Grow R V w', ha.keep a.2 hdj, a.1, ho.own a.2 hg, hf, Grow.from_ hg ho.size, Grow.apart hdj ha.lt⟩
  ·refine ⟨setAskE L ids wd T S Fi, C, E, rfl, by omega, fun V hV => ?_, fun V hV => ?_⟩
   ·obtain ⟨q1, q2, _⟩ := hS V (Half.old hV)
    obtain ⟨F, ha, _⟩ := Half.ar hV
    refine (nsetup_err L.lay _ hd _ _ _ _ _ _ _ _ _ _ _ _ _ (fun W steps gs gl oW b1 b2 => begin_askS L.lay (ha.keep oW (fun _ _ hn => hn)) hok steps ⟨gs, 0, none⟩ ⟨gl, 0, none⟩ _ hd (fun W2 o2 => nask_setupE L W2 gs gl _ _ _ _ ids wd T S Fi (q1.keep (oW.also o2)) (b1.to (o2.block _ b1.lt id)) (b2.to (o2.block _ b2.lt id)) (tz_keep q2 (oW.also o2))))).mono ?_
    rintro e w' ⟨he, a⟩
    exact ⟨he, Half.off hV a⟩
   ·obtain ⟨q1, q2, _⟩ := hS V (Half.old hV)
    obtain ⟨G, hr, _⟩ := Half.rf hV
    refine (rsetup_bad L V G r C E hr hc hi ids AI ci wd _ _ _ T S Fi q1 hd).mono ?_
    rintro e w' ⟨he, a⟩
    exact ⟨he, Half.off hV a⟩
 ·refine ⟨askE C.length l, C, E, rfl, by omega, fun V hV => ?_, fun V hV => ?_⟩
  ·obtain ⟨F, ha, _⟩ := Half.ar hV
   refine (nsetup_err l _ hc _ _ _ _ _ _ _ _ _ _ _ _ _ (fun W steps gs gl oW _ _ => begin_err l (ha.keep oW (fun _ _ hn => hn)) hc steps _ _ _)).mono ?_
   rintro e w' ⟨he, a⟩
   exact ⟨he, Half.off hV a⟩
  ·obtain ⟨G, hr, _⟩ := Half.rf hV
   refine (rsetup_err l _ hc _ _ _ _ _ _ _ _ _ _ _ _ _ (fun W oW => rasked_any l (hr.keep oW (fun _ _ hn => hn)))).mono ?_
   rintro e w' ⟨he, a⟩
   exact ⟨he, Half.off hV a⟩
set_option maxHeartbeats 1000000 in
theorem byte_both (l : Lay) (w0 : World) (p r : Nat) (C : List (BitVec 64)) (E : List Ev) (hE : E.length ≤ 100000) (x m : BitVec 64) :
  ∃ (c : Int) (C' : List (BitVec 64)) (E' : List Ev), C'.length = C.length ∧ E'.length ≤ E.length + 1200 ∧
   (∀ V, Both w0 V p r C E → Calls Tryz.prog 16 #[.pointer (some ⟨p, 0, none⟩), .agg #[.int .i64 l.a, .int .i64 l.b, .int .i64 l.t, .int .i64 l.s, .int .i64 l.f, .int .i64 l.st, .int .i64 l.n, .int .i64 l.h], .int .u64 (n64 x), .int .u64 (n64 m)] V fun e w' => e = .returned (.int .i64 c) ∧ Half w0 w' p r C' E' C E) ∧
   (∀ V, Half w0 V p r C' E' C E → Calls Tryz.prog 25 #[.pointer (some ⟨r, 0, none⟩), .agg #[.int .i64 l.a, .int .i64 l.b, .int .i64 l.t, .int .i64 l.s, .int .i64 l.f, .int .i64 l.st, .int .i64 l.n, .int .i64 l.h], .int .u64 (n64 x), .int .u64 (n64 m)] V fun e w' => e = .returned (.int .i64 c) ∧ Both w0 w' p r C' E') := by
 by_cases hc : askE C.length l = 0
 ·obtain ⟨L, rfl, hi, hok⟩ := askE_nat hc
  have ha4 := hi.a4
  have hbb := Nat.mul_le_mul hi.b16 (show 2 * L.a + 1 ≤ 9 by omega)
  cases hm : isM m
  case true =>
   refine ⟨0, byC L x m C, byE L E, byC_len _ _ _ _, by rw [byE_len]; omega, fun V hV => ?_, fun V hV => ?_⟩
   ·obtain ⟨F, ha, go⟩ := Half.ar hV
    refine (nbyte_any L x m hm V F p C E ha hok hi (by omega)).mono ?_
    rintro e w' ⟨he, a⟩
    exact ⟨he, go _ _ _ a⟩
   ·obtain ⟨G, hr, go⟩ := Half.rf hV
    refine (rbyte_any L V G r C E hr hc hi x m hm (by omega)).mono ?_
    rintro e w' ⟨he, a⟩
    exact ⟨he, go _ _ _ a⟩
  case false =>
   refine ⟨2, C, E, rfl, by omega, fun V hV => ?_, fun V hV => ?_⟩
   ·obtain ⟨F, ha, _⟩ := Half.ar hV
    refine (nbyte_err L.lay 2 (by decide) _ _ (fun W steps g oW hg => begin_askB L.lay (ha.keep oW (fun _ _ hn => hn)) hok steps ⟨g, 0, none⟩ 2 (by decide) (fun W2 o2 => nask_byteE m hm W2 g ((o2.cell_old (World.block_lt_of_cell? W ⟨g, 0, none⟩ hg) 0).trans hg)))).mono ?_
    rintro e w' ⟨he, a⟩
    exact ⟨he, Half.off hV a⟩
   ·obtain ⟨G, hr, _⟩ := Half.rf hV
    refine (rbyte_bad L V G r C E hr hc hi _ m hm).mono ?_
    rintro e w' ⟨he, a⟩
    exact ⟨he, Half.off hV a⟩
 ·refine ⟨askE C.length l, C, E, rfl, by omega, fun V hV => ?_, fun V hV => ?_⟩
  ·obtain ⟨F, ha, _⟩ := Half.ar hV
   refine (nbyte_err l _ hc _ _ (fun W steps g oW _ => begin_err l (ha.keep oW (fun _ _ hn => hn)) hc steps _ _ _)).mono ?_
   rintro e w' ⟨he, a⟩
   exact ⟨he, Half.off hV a⟩
  ·obtain ⟨G, hr, _⟩ := Half.rf hV
   refine (rbyte_err l _ hc _ _ (fun W oW => rasked_any l (hr.keep oW (fun _ _ hn => hn)))).mono ?_
   rintro e w' ⟨he, a⟩
   exact ⟨he, Half.off hV a⟩
def HalfV (w0 w : World) (p r : Nat) (C : List (BitVec 64)) (E : List Ev) (C' : List (BitVec 64)) (E' : List Ev) (v : Value) (X : List Nat) : Prop :=
 ∃ F R, Ar w F p C E ∧ Rf w R r C' E' ∧ Off Nob w0 w ∧ (∀ k, F k → w0.heap.size ≤ k) ∧ (∀ k, R k → w0.heap.size ≤ k) ∧ (∀ k, F k → ¬ R k) ∧ Rd w (fun k => ¬ R k) 1 v X.length (wordsV X)
theorem HalfV.half {w0 w : World} {p r : Nat} {C C' : List (BitVec 64)} {E E' : List Ev} {v : Value} {X : List Nat} (h : HalfV w0 w p r C E C' E' v X) : Half w0 w p r C E C' E' := by
 obtain ⟨F, R, ha, hr, ho, hf, hg, hd, _⟩ := h
 exact ⟨F, R, ha, hr, ho, hf, hg, hd⟩
set_option maxHeartbeats 1000000 in
theorem state_both (l : Lay) (w0 : World) (p r : Nat) (C : List (BitVec 64)) (E : List Ev) (hE : E.length ≤ 100000) :
  ∃ (c : Int) (E' : List Ev) (X : List Nat), E'.length ≤ E.length + 4 ∧ X.length ≤ 4 ∧
   (∀ V, Both w0 V p r C E → Calls Tryz.prog 18 #[.pointer (some ⟨p, 0, none⟩), .agg #[.int .i64 l.a, .int .i64 l.b, .int .i64 l.t, .int .i64 l.s, .int .i64 l.f, .int .i64 l.st, .int .i64 l.n, .int .i64 l.h]] V fun e w' => ∃ v, e = .returned (.tuple #[v, .int .i64 c]) ∧ HalfV w0 w' p r C E' C E v X) ∧
   (∀ V v, HalfV w0 V p r C E' C E v X → Calls Tryz.prog 26 #[.pointer (some ⟨r, 0, none⟩), .agg #[.int .i64 l.a, .int .i64 l.b, .int .i64 l.t, .int .i64 l.s, .int .i64 l.f, .int .i64 l.st, .int .i64 l.n, .int .i64 l.h]] V fun e w' => ∃ u, e = .returned (.tuple #[u, .int .i64 c]) ∧ Rd w' (fun _ => True) 1 v X.length (wordsV X) ∧ Rd w' (fun _ => True) 1 u X.length (wordsV X) ∧ Both w0 w' p r C E') := by
 by_cases hc : askE C.length l = 0
 ·obtain ⟨L, rfl, hi, hok⟩ := askE_nat hc
  have ha4 := hi.a4
  have hX : ((stL L C L.a).map BitVec.toNat).length = L.a := by simp [stL]
  refine ⟨0, ldE L.st E L.a, (stL L C L.a).map BitVec.toNat, by rw [length_ldE]; omega, by omega, fun V hV => ?_, fun V v hV => ?_⟩
  ·obtain ⟨F, R, ha, hr, ho, hf, hg, hd⟩ := hV
   refine (nstate_any L V F p C E ha hok hi (by omega)).mono ?_
   rintro e w' ⟨⟨v, he, hrd⟩, a⟩
   rw [u64s_words] at hrd
   have hd3 : ∀ k, R k → ¬ Grow F V w' k := Grow.apart (fun k hk hn => hd k hn hk) hr.lt
   exact ⟨v, he, Grow F V w', R, a.1, hr.keep a.2 (fun k hk hn => hd k hn hk), ho.own a.2 hf, Grow.from_ hf ho.size, hg, fun k hk hn => hd3 k hn hk, by rw [hX]; exact hrd.mono (fun k hk hR => by have := hr.lt k hR; omega)⟩
  ·obtain ⟨F, R, ha, hr, ho, hf, hg, hd, hv⟩ := hV
   refine (rstate_any L V R r C E hr hc hi (by omega)).mono ?_
   rintro e w' ⟨⟨u, he, hrd⟩, a⟩
   rw [u64s_words] at hrd
   exact ⟨u, he, (hv.keep a.2 (fun k hk => hk)).any, by rw [hX]; exact hrd.any, F, Grow R V w', ha.keep a.2 hd, a.1, ho.own a.2 hg, hf, Grow.from_ hg ho.size, Grow.apart hd ha.lt⟩
 ·refine ⟨askE C.length l, E, [], by omega, by simp, fun V hV => ?_, fun V v hV => ?_⟩
  ·obtain ⟨F, R, ha, hr, ho, hf, hg, hd⟩ := hV
   refine (nstate_err l _ hc (fun W steps oW => begin_err l (ha.keep oW (fun _ _ hn => hn)) hc steps _ _ _)).mono ?_
   rintro e w' ⟨he, a⟩
   exact ⟨_, he, F, R, ha.keep a (fun _ _ hn => hn), hr.keep a (fun _ _ hn => hn), ho.also a, hf, hg, hd, Rd.nil _ _ _⟩
  ·obtain ⟨F, R, ha, hr, ho, hf, hg, hd, hv⟩ := hV
   refine (rstate_err l _ hc (fun W oW => rasked_any l (hr.keep oW (fun _ _ hn => hn)))).mono ?_
   rintro e w' ⟨he, a⟩
   exact ⟨_, he, hv.any.keepT a, Rd.nil _ _ _, F, R, ha.keep a (fun _ _ hn => hn), hr.keep a (fun _ _ hn => hn), ho.also a, hf, hg, hd⟩
end Go.Proofs.YtkflicifngohcaaGreatDoor
