/-
 dragnetlaw21.both, for any number of cells and any address.
-/
import Derived.Test.YtkflicifngohcaaGreatDoorM7
import Derived.IntWalk
set_option linter.unusedVariables false
set_option linter.unusedSimpArgs false
namespace Go.Proofs.YtkflicifngohcaaGreatDoor
open Go.RowKit
set_option maxRecDepth 100000
def mxI (a b : Int) : Int := if a ≤ b then b else a
def mnJ (a b : Int) : Int := if a ≤ b then a else b
theorem run_max_I {P : Program} {w : World} (ts : Array TypeId) (t : TypeId) (a b : Int) : (Builtin.max_ ts t #[.int .i64 a, .int .i64 b]).run P w = .ok (.int .i64 (mxI a b)) w := by
 rw [run_max_int2]
 unfold mxI
 congr 2
 split <;> split <;> omega
theorem run_min_J {P : Program} {w : World} (ts : Array TypeId) (t : TypeId) (a b : Int) : (Builtin.min_ ts t #[.int .i64 a, .int .i64 b]).run P w = .ok (.int .i64 (mnJ a b)) w := by
 rw [run_min_int2]
 unfold mnJ
 congr 2
 split <;> split <;> omega
attribute [local go_sem ↓] run_max_I run_min_J
set_option maxHeartbeats 2000000 in
theorem both_all (cs : Int) (n : Nat) (hn : mnJ (mxI cs 1) 2400 = (n : Int)) (x : Int) (L : List (BitVec 64)) (hL : L.length ≤ 400) (w : World) (v : Value) (hv : Rd w (fun _ => True) 1 v L.length (u64s L)) :
  Calls Tryz.prog 21 #[.int .i64 cs, .int .i64 x, v] w fun e w' => ∃ p r C E, e = .returned (.tuple #[.pointer (some ⟨p, 0, none⟩), .pointer (some ⟨r, 0, none⟩)]) ∧ Both w w' p r C E ∧ C.length = n ∧ E.length ≤ L.length := by
 have h1 : 1 ≤ n := by unfold mnJ mxI at hn; split at hn <;> split at hn <;> omega
 have h2 : n ≤ 2400 := by unfold mnJ mxI at hn; split at hn <;> split at hn <;> omega
 have hform : ∃ A c, v = .slice A L.length c := by
  obtain ⟨A, c, rfl, _⟩ := hv.form
  exact ⟨A, c, rfl⟩
 obtain ⟨A, c, rfl⟩ := hform
 have HC : Hid (∀ W, Off Nob w W → ∀ k, k < L.length → ∃ b o, A = some ⟨b, o, none⟩ ∧ W.cell? ⟨b, o + k, none⟩ = some (.int .u64 (n64 (cl L k)))) := hID (fun W ho k hk => by
  obtain ⟨A2, c2, he2, _, _, hr⟩ := hv.keep ho (fun k _ hk => hk)
  cases he2
  obtain ⟨b, o, rfl, _, _, hcell⟩ := hr (by omega)
  exact ⟨b, o, rfl, hcell k _ (getElem_u64s L k hk)⟩)
 clear hv
 have hmm : mnJ (mxI cs 1) 2400 = (n : Int) := hn
 clear hn
 go_enter Tryz.func21, Tryz.ntmps21
 go_wp2_with fail
 try rw [hmm]
 refine (new_ok n w h1 (by omega)).mono ?_
 rintro e w1 ⟨p, rfl, F, ha, o1, hF⟩
 have HA := hID (And.intro ha (And.intro o1 hF))
 clear ha o1 hF
 go_wp2_with fail
 try rw [hmm]
 refine (rnew_ok n w1 h1 (by omega)).mono ?_
 rintro e w2 ⟨r, rfl, R, hb, o2, hR⟩
 have H0 : Hid (Both w w2 p r (List.replicate n 0) []) := hID ⟨F, R, HA.out.1.keep o2 (fun _ _ hn => hn), hb, HA.out.2.1.also o2, HA.out.2.2, fun k hk => by have := hR k hk; have := HA.out.2.1.size; omega, fun k hk hr => by have := HA.out.1.lt k hk; have := hR k hr; omega⟩
 clear hb o2 hR
 go_wp2_with fail
 go_loopw [12] (fun q wr => ∃ (k : Nat) (C : List (BitVec 64)) (E : List Ev), q = .int .i64 (k : Int) ∧ k ≤ L.length ∧ Both w wr p r C E ∧ C.length = n ∧ E.length ≤ k) (fun q wr => L.length - (intOf q).toNat)
 case atStart => exact ⟨0, _, _, rfl, Nat.zero_le _, H0.out, List.length_replicate .., Nat.le_refl _⟩
 case round =>
  obtain ⟨k, C, E, rfl, hk, hy, hcn, hen⟩ := hrel
  have HB := hID (And.intro hy (And.intro hcn hen))
  clear hy hcn hen H0
  by_cases hlt : k < L.length
  ·have d1 : decide ((k : Int) < (L.length : Int)) = true := decide_eq_true (by omega)
   obtain ⟨b, o, rfl, ck⟩ := HC.out _ HB.out.1.old k hlt
   obtain ⟨ad, had⟩ : ∃ ad, wrap64 (x + (k : Int)) = ad := ⟨_, rfl⟩
   obtain ⟨C', E', hc', he', hst⟩ := both_store HB.out.1 (by have := HB.out.2.2; omega) ad (cl L k)
   have HS := hID (And.intro hc' (And.intro he' hst))
   clear hc' he' hst
   obtain ⟨u, hu⟩ : ∃ u, cl L k = u := ⟨_, rfl⟩
   rw [hu] at ck HS
   have HU := hID hu
   clear hu
   go_wp2_with fail
   refine HS.out.2.2.mono ?_
   rintro e w3 ⟨⟨c1, rfl⟩, hh, hst⟩
   have HH := hID (And.intro hh hst)
   clear hh hst ck
   obtain ⟨b2, o2, he2, ck⟩ := HC.out _ HH.out.1.old k hlt
   cases he2
   rw [HU.out] at ck
   go_wp2_with fail
   refine HH.out.2.mono ?_
   rintro e w4 ⟨⟨c2, rfl⟩, hb4⟩
   have H4 := hID hb4
   clear hb4 ck
   go_wp2_with fail
   go_roundw
   case rel => exact ⟨k + 1, C', E', rfl, by omega, H4.out, by rw [HS.out.1]; exact HB.out.2.1, by have := HS.out.2.1; have := HB.out.2.2; omega⟩
   case measure => simp [intOf]; omega
  ·obtain rfl : k = L.length := by omega
   go_wp2_with fail
   go_ret2
   exact ⟨p, r, C, E, rfl, HB.out.1, HB.out.2.1, HB.out.2.2⟩
end Go.Proofs.YtkflicifngohcaaGreatDoor
