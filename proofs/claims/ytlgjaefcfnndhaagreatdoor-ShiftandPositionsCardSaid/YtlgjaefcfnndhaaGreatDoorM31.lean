/-
 dragnetref18.Plan and Check in general: which error a set has, and its lanes.
-/
import Derived.Test.YtlgjaefcfnndhaaGreatDoorM30
import Derived.Test.YtlgjaefcfnndhaaGreatDoorM18
import Derived.Deep.RegionHeld3
set_option linter.unusedVariables false
set_option linter.unusedSimpArgs false
set_option maxHeartbeats 16000000
set_option maxRecDepth 100000
namespace Go.Proofs.YtlgjaefcfnndhaaGreatDoor
section
open Go.RowKit
def AscB (xs : List Int) : Bool := (List.range (xs.length - 1)).all (fun j => decide (xs.getD j 0 < xs.getD (j + 1) 0))
def qag (ids : List Int) (Wd : Int) (T S F : List Nat) : Int :=
 if ids.length = 0 then 6 else if 16 < ids.length then 3 else
 if ids.all (fun x => decide (1 ≤ x ∧ x ≤ 1000)) && decide (1 ≤ Wd ∧ Wd ≤ 4) then
  if AscB ids && decide (T.length = 256 * Wd.toNat ∧ S.length = Wd.toNat ∧ F.length = ids.length * Wd.toNat) && (planR F S T Wd.toNat ids.length).isSome then 0 else 6
 else 7
theorem qcd {ids : List Int} {Wd : Int} {T S F : List Nat} (h : qag ids Wd T S F = 0) : 1 ≤ ids.length ∧ ids.length ≤ 16 ∧ (∀ x ∈ ids, 1 ≤ x ∧ x ≤ 1000) ∧ (∃ W : Nat, Wd = (W : Int) ∧ 1 ≤ W ∧ W ≤ 4 ∧ T.length = 256 * W ∧ S.length = W ∧ F.length = ids.length * W ∧ (planR F S T W ids.length).isSome = true) ∧ AscB ids = true := by
 unfold qag at h
 split at h
 ·exact absurd h (by decide)
 ·split at h
  ·exact absurd h (by decide)
  ·split at h
   ·rename_i h3
    split at h
    ·rename_i h4
     simp only [Bool.and_eq_true, decide_eq_true_eq, List.all_eq_true] at h3 h4
     refine ⟨by omega, by omega, h3.1, ⟨Wd.toNat, by omega, by omega, by omega, h4.1.2.1, h4.1.2.2.1, h4.1.2.2.2, h4.2⟩, h4.1.1⟩
    ·exact absurd h (by decide)
   ·exact absurd h (by decide)
theorem qsl {w : World} {v : Value} {L : List Int} (hv : Rd w (fun _ => True) 1 v L.length (L.map (Value.int .i64))) : ∃ A c, v = .slice A L.length c ∧ ∀ W', Off Nob w W' → ∀ k, k < L.length → ∃ b o, A = some ⟨b, o, none⟩ ∧ W'.cell? ⟨b, o + k, none⟩ = some (.int .i64 (L.getD k 0)) := by
 obtain ⟨A, c, rfl, _, hcell⟩ := hv.form
 refine ⟨A, c, rfl, fun W' ho k hk => ?_⟩
 obtain ⟨b, o, rfl, hlt, hc⟩ := hcell (by omega)
 exact ⟨b, o, rfl, by rw [ho.cell_old hlt]; exact hc k _ (by simp [List.getD_eq_getElem?_getD, List.getElem?_eq_getElem hk])⟩
theorem qx6 {L : List Int} {q : Nat} (h : q < L.length) : L.getD q 0 ∈ L := by
 rw [List.getD_eq_getElem?_getD, List.getElem?_eq_getElem h]
 exact List.getElem_mem h
structure SetV (w : World) (VI VT VS VF : Value) (ids : List Int) (Wd : Int) (T S F : List Nat) : Prop where
 i : Rd w (fun _ => True) 1 VI ids.length (ids.map (Value.int .i64))
 t : Rd w (fun _ => True) 1 VT T.length (qab T)
 s : Rd w (fun _ => True) 1 VS S.length (qab S)
 f : Rd w (fun _ => True) 1 VF F.length (qab F)
 ct : CapOk VT
 cf : CapOk VF
 i64 : ∀ x ∈ ids, -9223372036854775808 ≤ x ∧ x ≤ 9223372036854775807
 w64 : -9223372036854775808 ≤ Wd ∧ Wd ≤ 9223372036854775807
 t64 : ∀ x ∈ T, x < 18446744073709551616
 s64 : ∀ x ∈ S, x < 18446744073709551616
 f64 : ∀ x ∈ F, x < 18446744073709551616
 il : ids.length ≤ 4096
 tl : T.length ≤ 4096
 sl : S.length ≤ 4096
 fl : F.length ≤ 4096
theorem SetV.keep {w w' : World} {VI VT VS VF : Value} {ids : List Int} {Wd : Int} {T S F : List Nat} (h : SetV w VI VT VS VF ids Wd T S F) (o : Off Nob w w') : SetV w' VI VT VS VF ids Wd T S F :=
 { h with i := h.i.keepT o, t := h.t.keepT o, s := h.s.keepT o, f := h.f.keepT o }
def RPl (ids : List Int) (Wd : Int) (T S F : List Nat) (w : World) (e : Ending) (w' : World) : Prop := ∃ (x : Int) (A : Option Addr) (k c : Nat), e = .returned (.tuple #[.agg #[.int .i64 x, .slice A k c], .int .i64 (qag ids Wd T S F)]) ∧ (qag ids Wd T S F = 0 → x = Wd ∧ ∃ l, planR F S T Wd.toNat ids.length = some l ∧ Rd w' (fun k => w.heap.size ≤ k) 3 (.slice A k c) l.length (lnV l)) ∧ Off Nob w w'
theorem qkg (ids : List Int) (Wd : Int) (T S F : List Nat) (w : World) (VI VT VS VF : Value) (hs : SetV w VI VT VS VF ids Wd T S F) :
  Calls Tryz.prog 32 #[.agg #[VI, .int .i64 Wd, VT, VS, VF]] w (RPl ids Wd T S F w) := by
 have HSV := hID hs
 obtain ⟨AI, ci, rfl, hci⟩ := qsl hs.i
 obtain ⟨AT, ct, rfl, _⟩ := hs.t.form
 obtain ⟨AS, cs, rfl, _⟩ := hs.s.form
 obtain ⟨AF, cf, rfl, _⟩ := hs.f.form
 have HCI := hID hci
 have hil := hs.il
 have htl := hs.tl
 have hsl := hs.sl
 have hfl := hs.fl
 have hw64 := hs.w64
 have HER := hID (show qag ids Wd T S F = qag ids Wd T S F from rfl)
 clear hs hci HER
 go_enter Tryz.func32, Tryz.ntmps32
 have HB0 : Hid (Blk (((w.alloc (.cells #[.slice AI ids.length ci, .int .i64 Wd, .slice AT T.length ct, .slice AS S.length cs, .slice AF F.length cf] 25)).alloc (.cells #[.int .i64 0, .slice none 0 0] 62)).alloc (.cells #[.int .i64 0, .slice none 0 0] 62)) w.heap.size 25 #[.slice AI ids.length ci, .int .i64 Wd, .slice AT T.length ct, .slice AS S.length cs, .slice AF F.length cf] ∧ Blk (((w.alloc (.cells #[.slice AI ids.length ci, .int .i64 Wd, .slice AT T.length ct, .slice AS S.length cs, .slice AF F.length cf] 25)).alloc (.cells #[.int .i64 0, .slice none 0 0] 62)).alloc (.cells #[.int .i64 0, .slice none 0 0] 62)) (w.heap.size + 1) 62 #[.int .i64 0, .slice none 0 0] ∧ Blk (((w.alloc (.cells #[.slice AI ids.length ci, .int .i64 Wd, .slice AT T.length ct, .slice AS S.length cs, .slice AF F.length cf] 25)).alloc (.cells #[.int .i64 0, .slice none 0 0] 62)).alloc (.cells #[.int .i64 0, .slice none 0 0] 62)) (w.heap.size + 2) 62 #[.int .i64 0, .slice none 0 0] ∧ Off Nob w (((w.alloc (.cells #[.slice AI ids.length ci, .int .i64 Wd, .slice AT T.length ct, .slice AS S.length cs, .slice AF F.length cf] 25)).alloc (.cells #[.int .i64 0, .slice none 0 0] 62)).alloc (.cells #[.int .i64 0, .slice none 0 0] 62))) := hID ⟨((Blk.new _ _ _).alloc _).alloc _, (qav _ _ _ _).alloc _, by
  have := Blk.new ((w.alloc (.cells #[.slice AI ids.length ci, .int .i64 Wd, .slice AT T.length ct, .slice AS S.length cs, .slice AF F.length cf] 25)).alloc (.cells #[.int .i64 0, .slice none 0 0] 62)) 62 #[.int .i64 0, .slice none 0 0]
  simpa using this, ((oRf.alloc _).alloc _).alloc _⟩
 by_cases hz : ids.length = 0
 ·have d0 : ((ids.length : Int) == 0) = true := by rw [beq_iff_eq]; omega
  have HN := hID (show qag ids Wd T S F = 6 by unfold qag; rw [if_pos hz])
  clear hz
  go_wp2_with fail
  exact bodyPost_ret (qac rfl _ _ _ _ _ (0, 0) _ rfl HB0.out.2.1 Tryz.underlying62 rfl Tryz.infoPl) rfl ⟨0, none, 0, 0, (by rw [HN.out]; try rfl), fun h => absurd h (by rw [HN.out]; decide), HB0.out.2.2.2⟩
 have d0 : ((ids.length : Int) == 0) = false := by rw [beq_eq_false_iff_ne]; omega
 by_cases h16 : 16 < ids.length
 ·have d1 : decide ((16 : Int) < (ids.length : Int)) = true := dcT
  have d1n : decide (16 < ids.length) = true := decide_eq_true h16
  have HN := hID (show qag ids Wd T S F = 3 by unfold qag; rw [if_neg hz, if_pos h16])
  go_wp2_with fail
  exact bodyPost_ret (qac rfl _ _ _ _ _ (0, 0) _ rfl HB0.out.2.1 Tryz.underlying62 rfl Tryz.infoPl) rfl ⟨0, none, 0, 0, (by rw [HN.out]; try rfl), fun h => absurd h (by rw [HN.out]; decide), HB0.out.2.2.2⟩
 have d1 : decide ((16 : Int) < (ids.length : Int)) = false := dcF
 have d1n : decide (16 < ids.length) = false := decide_eq_false h16
 have H16 := hID (And.intro hz h16)
 go_wp2_with fail
 revert HB0
 generalize (((w.alloc (.cells #[.slice AI ids.length ci, .int .i64 Wd, .slice AT T.length ct, .slice AS S.length cs, .slice AF F.length cf] 25)).alloc (.cells #[.int .i64 0, .slice none 0 0] 62)).alloc (.cells #[.int .i64 0, .slice none 0 0] 62)) = w0
 intro HB0
 have GC : Hid (∀ W', Off Nob w0 W' → W'.cell? ⟨w.heap.size, 0, none⟩ = some (.slice AI ids.length ci) ∧ W'.cell? ⟨w.heap.size, 1, none⟩ = some (.int .i64 Wd) ∧ W'.cell? ⟨w.heap.size, 2, none⟩ = some (.slice AT T.length ct) ∧ W'.cell? ⟨w.heap.size, 3, none⟩ = some (.slice AS S.length cs) ∧ W'.cell? ⟨w.heap.size, 4, none⟩ = some (.slice AF F.length cf) ∧ W'.cell? ⟨w.heap.size + 1, 0, none⟩ = some (.int .i64 0) ∧ W'.cell? ⟨w.heap.size + 1, 1, none⟩ = some (.slice none 0 0) ∧ W'.cell? ⟨w.heap.size + 1 + 1, 0, none⟩ = some (.int .i64 0) ∧ W'.cell? ⟨w.heap.size + 1 + 1, 1, none⟩ = some (.slice none 0 0) ∧ W'.frozen? ⟨w.heap.size + 1, 0, none⟩ = false ∧ W'.frozen? ⟨w.heap.size + 1, 1, none⟩ = false) := hID (fun W' ho => by
  have h := HB0.out.1.to (ho.block _ HB0.out.1.lt id)
  have k := HB0.out.2.1.to (ho.block _ HB0.out.2.1.lt id)
  have m := HB0.out.2.2.1.to (ho.block _ HB0.out.2.2.1.lt id)
  exact ⟨h.cell 0, h.cell 1, h.cell 2, h.cell 3, h.cell 4, k.cell 0, k.cell 1, m.cell 0, m.cell 1, k.frozen 0, k.frozen 1⟩)
 have O0 : Hid (Off Nob w0 w0) := hID oRf
 go_loopw [5] (fun x wr => ∃ k : Nat, k ≤ ids.length ∧ x = .int .i64 (k : Int) ∧ w0 = wr ∧ ∀ j, j < k → 1 ≤ ids.getD j 0 ∧ ids.getD j 0 ≤ 1000) (fun x _ => ids.length - (intOf x).toNat)
 case atStart => exact ⟨0, Nat.zero_le _, rfl, rfl, fun j hj => absurd hj (by omega)⟩
 case round =>
  obtain ⟨k, hk, rfl, rfl, hall⟩ := hrel
  have HA := hID hall
  clear hall
  obtain ⟨s0, s1, s2, s3, s4, q0, q1, n0, n1, f0, f1⟩ := GC.out _ O0.out
  by_cases hlt : k < ids.length
  ·have e1 : decide ((k : Int) < (ids.length : Int)) = true := dcT
   obtain ⟨b, o, rfl, c0⟩ := HCI.out _ HB0.out.2.2.2 k hlt
   obtain ⟨y, hy⟩ : ∃ y, ids.getD k 0 = y := ⟨_, rfl⟩
   have HY := hID hy
   rw [hy] at c0
   clear hy
   have HBADR := hID (fun (h : ¬ (1 ≤ y ∧ y ≤ 1000)) => show qag ids Wd T S F = 7 by
    unfold qag
    rw [if_neg H16.out.1, if_neg H16.out.2, if_neg]
    simp only [Bool.and_eq_true, List.all_eq_true, decide_eq_true_eq]
    exact fun hh => h (HY.out ▸ hh.1 _ (qx6 hlt)))
   by_cases h1 : y < 1
   ·have e2 : decide (y < 1) = true := decide_eq_true h1
    have HN := hID (HBADR.out (by omega))
    have HRB := hID (HB0.out.2.1.to (O0.out.block _ HB0.out.2.1.lt id))
    go_wp2_with fail
    have XE := hID ((HRB.out.put 0 (.int .i64 0)).put 1 (.slice none 0 0))
    exact bodyPost_ret (qac rfl _ _ _ _ _ (0, 0) _ rfl XE.out Tryz.underlying62 rfl Tryz.infoPl) rfl ⟨0, none, 0, 0, (by rw [HN.out]; try rfl), fun h => absurd h (by rw [HN.out]; decide), ((HB0.out.2.2.2.also O0.out).put (.inr (Nat.le_succ _)) _).put (.inr (Nat.le_succ _)) _⟩
   have e2 : decide (y < 1) = false := decide_eq_false h1
   by_cases h2 : 1000 < y
   ·have e3 : decide (1000 < y) = true := decide_eq_true h2
    have HN := hID (HBADR.out (by omega))
    have HRB := hID (HB0.out.2.1.to (O0.out.block _ HB0.out.2.1.lt id))
    go_wp2_with fail
    have XE := hID ((HRB.out.put 0 (.int .i64 0)).put 1 (.slice none 0 0))
    exact bodyPost_ret (qac rfl _ _ _ _ _ (0, 0) _ rfl XE.out Tryz.underlying62 rfl Tryz.infoPl) rfl ⟨0, none, 0, 0, (by rw [HN.out]; try rfl), fun h => absurd h (by rw [HN.out]; decide), ((HB0.out.2.2.2.also O0.out).put (.inr (Nat.le_succ _)) _).put (.inr (Nat.le_succ _)) _⟩
   have e3 : decide (1000 < y) = false := decide_eq_false h2
   have HA2 := hID (fun j (hj : j < k + 1) => show 1 ≤ ids.getD j 0 ∧ ids.getD j 0 ≤ 1000 from if e : j = k then by rw [e, HY.out]; omega else HA.out j (by omega))
   go_wp2_with fail
   go_roundw
   case rel => exact ⟨k + 1, hlt, by go_num, trivial, HA2.out⟩
   case measure => simp [intOf]; omega
  ·obtain rfl : ids.length = k := by omega
   have e1 : decide ((ids.length : Int) < (ids.length : Int)) = false := dcF
   have HALL := hID (show ids.all (fun x => decide (1 ≤ x ∧ x ≤ 1000)) = true by
    rw [List.all_eq_true]
    intro x hx
    obtain ⟨j, hj, rfl⟩ := List.getElem_of_mem hx
    have := HA.out j hj
    rw [List.getD_eq_getElem?_getD, List.getElem?_eq_getElem hj] at this
    exact decide_eq_true this)
   have HW := hID (fun (h : ¬ (1 ≤ Wd ∧ Wd ≤ 4)) => show qag ids Wd T S F = 7 by
    unfold qag
    rw [if_neg H16.out.1, if_neg H16.out.2, HALL.out, decide_eq_false h]
    rfl)
   by_cases h1 : Wd < 1
   ·have e2 : decide (Wd < 1) = true := decide_eq_true h1
    have HN := hID (HW.out (by omega))
    have HRB := hID (HB0.out.2.1.to (O0.out.block _ HB0.out.2.1.lt id))
    go_wp2_with fail
    have XE := hID ((HRB.out.put 0 (.int .i64 0)).put 1 (.slice none 0 0))
    exact bodyPost_ret (qac rfl _ _ _ _ _ (0, 0) _ rfl XE.out Tryz.underlying62 rfl Tryz.infoPl) rfl ⟨0, none, 0, 0, (by rw [HN.out]; try rfl), fun h => absurd h (by rw [HN.out]; decide), ((HB0.out.2.2.2.also O0.out).put (.inr (Nat.le_succ _)) _).put (.inr (Nat.le_succ _)) _⟩
   have e2 : decide (Wd < 1) = false := decide_eq_false h1
   by_cases h2 : 4 < Wd
   ·have e3 : decide (4 < Wd) = true := decide_eq_true h2
    have HN := hID (HW.out (by omega))
    have HRB := hID (HB0.out.2.1.to (O0.out.block _ HB0.out.2.1.lt id))
    go_wp2_with fail
    have XE := hID ((HRB.out.put 0 (.int .i64 0)).put 1 (.slice none 0 0))
    exact bodyPost_ret (qac rfl _ _ _ _ _ (0, 0) _ rfl XE.out Tryz.underlying62 rfl Tryz.infoPl) rfl ⟨0, none, 0, 0, (by rw [HN.out]; try rfl), fun h => absurd h (by rw [HN.out]; decide), ((HB0.out.2.2.2.also O0.out).put (.inr (Nat.le_succ _)) _).put (.inr (Nat.le_succ _)) _⟩
   have e3 : decide (4 < Wd) = false := decide_eq_false h2
   obtain ⟨W, rfl⟩ : ∃ W : Nat, Wd = (W : Int) := ⟨Wd.toNat, by omega⟩
   have hW1 : 1 ≤ W := by omega
   have hW4 : W ≤ 4 := by omega
   have HSE := hID (show qag ids (W : Int) T S F = if AscB ids && decide (T.length = 256 * W ∧ S.length = W ∧ F.length = ids.length * W) && (planR F S T W ids.length).isSome then 0 else 6 by
    unfold qag
    rw [if_neg H16.out.1, if_neg H16.out.2, HALL.out, decide_eq_true (show 1 ≤ (W : Int) ∧ (W : Int) ≤ 4 by omega)]
    rfl)
   clear h1 h2 HW
   go_wp2_with fail
   clear s0 s1 s2 s3 s4 q0 q1 n0 n1 f0 f1
   go_loopw [6] (fun x wr => ∃ k : Nat, 1 ≤ k ∧ k ≤ ids.length ∧ x = .int .i64 (k : Int) ∧ Off Nob w0 wr ∧ ∀ j, j + 1 < k → ids.getD j 0 < ids.getD (j + 1) 0) (fun x _ => ids.length - (intOf x).toNat)
   case atStart => exact ⟨1, Nat.le_refl _, by omega, rfl, O0.out, fun j hj => absurd hj (by omega)⟩
   case round =>
    obtain ⟨k, hk1, hk, rfl, hoff, hall⟩ := hrel
    have HAS := hID hall
    have O1 := hID hoff
    clear hall hoff
    obtain ⟨s0, s1, s2, s3, s4, q0, q1, n0, n1, f0, f1⟩ := GC.out _ O1.out
    by_cases hlt : k < ids.length
    ·have e4 : decide ((k : Int) < (ids.length : Int)) = true := dcT
     obtain ⟨b, o, rfl, c0⟩ := HCI.out _ (HB0.out.2.2.2.also O1.out) k hlt
     obtain ⟨b', o', he, c1⟩ := HCI.out _ (HB0.out.2.2.2.also O1.out) (k - 1) (by omega)
     obtain ⟨rfl, rfl⟩ : b = b' ∧ o = o' := by simpa using he
     obtain ⟨y, hy⟩ : ∃ y, ids.getD k 0 = y := ⟨_, rfl⟩
     obtain ⟨z, hz⟩ : ∃ z, ids.getD (k - 1) 0 = z := ⟨_, rfl⟩
     have HYZ := hID (And.intro hy hz)
     rw [hy] at c0
     rw [hz] at c1
     have hkk : (k : Int) - 1 = ((k - 1 : Nat) : Int) := by omega
     have hk2 : k - 1 < ids.length := by omega
     obtain ⟨q, hqe⟩ : ∃ q, k - 1 = q := ⟨_, rfl⟩
     have HQE := hID hqe
     rw [hqe] at c1 hkk hk2
     have hkw : IntKind.i64.wrap ((k : Int) - 1) = (q : Int) := by rw [IntWalk.i64_in _ (by omega)]; exact hkk
     have hq64 : IntKind.i64.wrap (q : Int) = (q : Int) := IntWalk.i64_in _ (by omega)
     clear hy hz hqe he
     by_cases hyz : y ≤ z
     ·have e5 : decide (y ≤ z) = true := decide_eq_true hyz
      have HN := hID (show qag ids (W : Int) T S F = 6 by
       rw [HSE.out, show AscB ids = false from by
        unfold AscB
        rw [List.all_eq_false]
        refine ⟨k - 1, List.mem_range.2 (by omega), ?_⟩
        rw [HYZ.out.2, show k - 1 + 1 = k from by omega, HYZ.out.1, dcF]
        simp]
       rfl)
      go_wp2_with fail
      go_quiet (fail)
      have O2 := hID (O1.out.drewN nq)
      clear s0 s1 s2 s3 s4 q0 q1 n0 n1 f0 f1 c0 c1
      generalize wr.drewN nq = wz at *
      obtain ⟨s0, s1, s2, s3, s4, q0, q1, n0, n1, f0, f1⟩ := GC.out _ O2.out
      have HRB := hID (HB0.out.2.1.to (O2.out.block _ HB0.out.2.1.lt id))
      go_wp2_with fail
      have XE := hID ((HRB.out.put 0 (.int .i64 0)).put 1 (.slice none 0 0))
      exact bodyPost_ret (qac rfl _ _ _ _ _ (0, 0) _ rfl XE.out Tryz.underlying62 rfl Tryz.infoPl) rfl ⟨0, none, 0, 0, (by rw [HN.out]; try rfl), fun h => absurd h (by rw [HN.out]; decide), ((HB0.out.2.2.2.also O2.out).put (.inr (Nat.le_succ _)) _).put (.inr (Nat.le_succ _)) _⟩
     ·have e5 : decide (y ≤ z) = false := decide_eq_false hyz
      have HAS2 := hID (fun j (hj : j + 1 < k + 1) => show ids.getD j 0 < ids.getD (j + 1) 0 from if e : j + 1 = k then by
       have h6 : j = k - 1 := by omega
       rw [e, h6, HYZ.out.1, HYZ.out.2]
       omega else HAS.out j (by omega))
      go_wp2_with fail
      go_quiet (fail)
      have O2 := hID (O1.out.drewN nq)
      go_wp2_with fail
      go_roundw
      case rel => exact ⟨k + 1, by omega, hlt, by go_num, O2.out, HAS2.out⟩
      case measure => simp [intOf]; omega
    ·have hke : k = ids.length := by omega
     have e4 : decide ((k : Int) < (ids.length : Int)) = false := dcF
     have HASC := hID (show AscB ids = true by
      unfold AscB
      rw [List.all_eq_true]
      intro j hj
      have h6 := List.mem_range.1 hj
      exact decide_eq_true (HAS.out j (by omega)))
     have HSZ := hID (fun (h : ¬ (T.length = 256 * W ∧ S.length = W ∧ F.length = ids.length * W)) => show qag ids (W : Int) T S F = 6 by
      rw [HSE.out, HASC.out, decide_eq_false h]
      rfl)
     clear hke
     have hnw : ids.length * W ≤ 64 := Nat.le_trans (Nat.mul_le_mul (show ids.length ≤ 16 by have := H16.out.2; omega) hW4) (by decide)
     have hcast : (ids.length : Int) * (W : Int) = ((ids.length * W : Nat) : Int) := by push_cast; rfl
     obtain ⟨m, hm⟩ : ∃ m, ids.length * W = m := ⟨_, rfl⟩
     have HM := hID hm
     rw [hm] at hnw hcast HSZ
     clear hm
     by_cases t1 : T.length = 256 * W
     ·have e5 : ((T.length : Int) != 256 * (W : Int)) = false := by rw [show (T.length : Int) = 256 * (W : Int) from by omega]; simp
      by_cases t2 : S.length = W
      ·have e6 : ((S.length : Int) != (W : Int)) = false := by rw [show (S.length : Int) = (W : Int) from by omega]; simp
       by_cases t3 : F.length = m
       ·have e7 : ((F.length : Int) != (m : Int)) = false := by rw [show (F.length : Int) = (m : Int) from by omega]; simp
        have HTS := hID (And.intro t1 (And.intro t2 (show F.length = ids.length * W by rw [HM.out]; exact t3)))
        have HPL := hID (qzr W hW1 hW4 ids.length (by have := H16.out.1; omega) (by have := H16.out.2; omega) F S T HTS.out.2.2 HTS.out.2.1 HTS.out.1 HSV.out.f64 HSV.out.s64 HSV.out.t64 wr AI ci _ _ _ (HSV.out.t.keepT (HB0.out.2.2.2.also O1.out)) (HSV.out.s.keepT (HB0.out.2.2.2.also O1.out)) (HSV.out.f.keepT (HB0.out.2.2.2.also O1.out)) HSV.out.cf)
        clear t1 t2 t3
        go_wp2_with fail
        refine HPL.out.mono ?_
        rintro e v1 ⟨A, kk, cc, bb, rfl, hres, o1⟩
        have O2 := hID (O1.out.also o1)
        have HPB := hID (Blk.new v1 62 #[.int .i64 W, .slice A kk cc])
        clear o1 s0 s1 s2 s3 s4 q0 q1 n0 n1 f0 f1
        have O3 := hID (O2.out.alloc (.cells #[.int .i64 W, .slice A kk cc] 62))
        obtain ⟨s0, s1, s2, s3, s4, q0, q1, n0, n1, f0, f1⟩ := GC.out _ O3.out
        rcases hres with ⟨hno, rfl⟩ | ⟨l, hl, rfl, hrd⟩
        ·have HN := hID (show qag ids (W : Int) T S F = 6 by rw [HSE.out, hno]; simp)
         clear hno
         have HRB := hID (HB0.out.2.1.to (O3.out.block _ HB0.out.2.1.lt id))
         go_wp2_with fail
         have XE := hID ((HRB.out.put 0 (.int .i64 0)).put 1 (.slice none 0 0))
         exact bodyPost_ret (qac rfl _ _ _ _ _ (0, 0) _ rfl XE.out Tryz.underlying62 rfl Tryz.infoPl) rfl ⟨0, none, 0, 0, (by rw [HN.out]; try rfl), fun h => absurd h (by rw [HN.out]; decide), ((HB0.out.2.2.2.also O3.out).put (.inr (Nat.le_succ _)) _).put (.inr (Nat.le_succ _)) _⟩
        ·have HN := hID (show qag ids (W : Int) T S F = 0 by
          rw [HSE.out, hl, HASC.out, decide_eq_true HTS.out]
          rfl)
         have HL := hID hl
         have HRD := hID hrd
         clear hl hrd
         have HRB := hID (HB0.out.2.1.to (O3.out.block _ HB0.out.2.1.lt id))
         go_wp2_with fail
         have XE := hID ((HRB.out.put 0 (.int .i64 W)).put 1 (.slice A kk cc))
         have o7 := (qcn (v1.alloc (.cells #[.int .i64 W, .slice A kk cc] 62)) ⟨w.heap.size + 1, 0, none⟩ (.int .i64 W)).also (qcn _ ⟨w.heap.size + 1, 1, none⟩ (.slice A kk cc))
         have hrd2 : Rd (v1.alloc (.cells #[.int .i64 W, .slice A kk cc] 62)) (fun k => wr.heap.size ≤ k) 3 (.slice A kk cc) l.length (lnV l) := HRD.out.keep (Off.alloc (Off.refl Nob _) _) (fun _ _ h => h)
         have hrd3 := (hrd2.keep o7 (fun j hj hj2 => by have h1 := HB0.out.2.1.lt; have h2 := O1.out.size; have h3 : j = w.heap.size + 1 := hj2; omega)).mono (fun j hj => Nat.le_trans (HB0.out.2.2.2.also O1.out).size hj)
         exact bodyPost_ret (qac rfl _ _ _ _ _ (0, 0) _ rfl XE.out Tryz.underlying62 rfl Tryz.infoPl) rfl ⟨_, _, _, _, (by rw [HN.out]; try rfl), fun _ => ⟨rfl, l, HL.out, hrd3⟩, ((HB0.out.2.2.2.also O3.out).put (.inr (Nat.le_succ _)) _).put (.inr (Nat.le_succ _)) _⟩
       ·have e7 : ((F.length : Int) != (m : Int)) = true := by rw [bne_iff_ne]; omega
        have HN := hID (HSZ.out (fun h => t3 h.2.2))
        clear t1 t2 t3
        have HRB := hID (HB0.out.2.1.to (O1.out.block _ HB0.out.2.1.lt id))
        go_wp2_with fail
        have XE := hID ((HRB.out.put 0 (.int .i64 0)).put 1 (.slice none 0 0))
        exact bodyPost_ret (qac rfl _ _ _ _ _ (0, 0) _ rfl XE.out Tryz.underlying62 rfl Tryz.infoPl) rfl ⟨0, none, 0, 0, (by rw [HN.out]; try rfl), fun h => absurd h (by rw [HN.out]; decide), ((HB0.out.2.2.2.also O1.out).put (.inr (Nat.le_succ _)) _).put (.inr (Nat.le_succ _)) _⟩
      ·have e6 : ((S.length : Int) != (W : Int)) = true := by rw [bne_iff_ne]; omega
       have HN := hID (HSZ.out (fun h => t2 h.2.1))
       clear t1 t2
       have HRB := hID (HB0.out.2.1.to (O1.out.block _ HB0.out.2.1.lt id))
       go_wp2_with fail
       have XE := hID ((HRB.out.put 0 (.int .i64 0)).put 1 (.slice none 0 0))
       exact bodyPost_ret (qac rfl _ _ _ _ _ (0, 0) _ rfl XE.out Tryz.underlying62 rfl Tryz.infoPl) rfl ⟨0, none, 0, 0, (by rw [HN.out]; try rfl), fun h => absurd h (by rw [HN.out]; decide), ((HB0.out.2.2.2.also O1.out).put (.inr (Nat.le_succ _)) _).put (.inr (Nat.le_succ _)) _⟩
     ·have e5 : ((T.length : Int) != 256 * (W : Int)) = true := by rw [bne_iff_ne]; omega
      have HN := hID (HSZ.out (fun h => t1 h.1))
      clear t1
      have HRB := hID (HB0.out.2.1.to (O1.out.block _ HB0.out.2.1.lt id))
      go_wp2_with fail
      have XE := hID ((HRB.out.put 0 (.int .i64 0)).put 1 (.slice none 0 0))
      exact bodyPost_ret (qac rfl _ _ _ _ _ (0, 0) _ rfl XE.out Tryz.underlying62 rfl Tryz.infoPl) rfl ⟨0, none, 0, 0, (by rw [HN.out]; try rfl), fun h => absurd h (by rw [HN.out]; decide), ((HB0.out.2.2.2.also O1.out).put (.inr (Nat.le_succ _)) _).put (.inr (Nat.le_succ _)) _⟩
theorem qx7 (ids : List Int) (Wd : Int) (T S F : List Nat) (w : World) (VI VT VS VF : Value) (hs : SetV w VI VT VS VF ids Wd T S F) :
  Calls Tryz.prog 31 #[.agg #[VI, .int .i64 Wd, VT, VS, VF]] w (RetV w (.int .i64 (qag ids Wd T S F))) := by
 have HSV := hID hs
 obtain ⟨AI, ci, rfl, _⟩ := hs.i.form
 obtain ⟨AT, ct, rfl, _⟩ := hs.t.form
 obtain ⟨AS, cs, rfl, _⟩ := hs.s.form
 obtain ⟨AF, cf, rfl, _⟩ := hs.f.form
 clear hs
 go_enter Tryz.func31, Tryz.ntmps31
 have X0 : Hid (Off Nob w (w.alloc (.cells #[.slice AI ids.length ci, .int .i64 Wd, .slice AT T.length ct, .slice AS S.length cs, .slice AF F.length cf] 25)) ∧ Blk (w.alloc (.cells #[.slice AI ids.length ci, .int .i64 Wd, .slice AT T.length ct, .slice AS S.length cs, .slice AF F.length cf] 25)) w.heap.size 25 #[.slice AI ids.length ci, .int .i64 Wd, .slice AT T.length ct, .slice AS S.length cs, .slice AF F.length cf]) := hID ⟨oRf.alloc _, Blk.new _ _ _⟩
 go_wp2_with fail
 refine (qkg ids Wd T S F _ _ _ _ _ (HSV.out.keep X0.out.1)).mono ?_
 rintro e w2 ⟨x, A, k, c, rfl, _, o2⟩
 have X2 := hID ((X0.out.1.also o2).alloc (.cells #[.int .i64 x, .slice A k c] 62))
 clear o2
 go_wp2_with fail
 go_ret
 exact ⟨rfl, X2.out⟩
end
section
open Go.RowKit
theorem qqc (W : Nat) (h1 : 1 ≤ W) (hW : W ≤ 8) (l : List Ln) (hn : l.length ≤ 4096) (hok : qal W l = true) (w : World) (v : Value) (hv : Rd w (fun _ => True) 3 v l.length (lnV l)) : Calls Tryz.prog 45 #[.agg #[.int .i64 W, v]] w (RetV w (.tuple #[.int .i64 (lnEnd 0 l), .int .i64 0])) := by
 have HV := hID hv
 have hz := (LnFacts.of hok).pos
 have he := (LnFacts.of hok).e256
 have hlast := (LnFacts.of hok).last
 obtain ⟨A, c, rfl, _, hcell⟩ := hv.form
 obtain ⟨b, o, rfl, hlt, hc⟩ := qdu (c := c) hcell hz
 have HC := hID hc
 have HCK := hID (fun (V : World) (oV : Off Nob w V) => qke W h1 hW l hn V _ (HV.out.keepT oV))
 have HL := hID hok
 rw [← qev hz] at hlast
 obtain ⟨⟨a, f, cc⟩, hx⟩ : ∃ x, l.getD (l.length - 1) (0, 0, 0) = x := ⟨_, rfl⟩
 rw [hx] at hlast
 have HX := hID hx
 have hfc : (f : Int) + (cc : Int) = (lnEnd 0 l : Int) := by have : f + cc = lnEnd 0 l := hlast; omega
 have hfb : f ≤ 256 ∧ cc ≤ 256 := by have : f + cc = lnEnd 0 l := hlast; omega
 obtain ⟨hf256, hc256⟩ := hfb
 have HE := hID hfc
 rw [← hfc]
 clear hc hx hcell hv hok hlast he hfc
 go_enter Tryz.func45, Tryz.ntmps45
 have HB0 : Hid (Blk (w.alloc (.cells #[.int .i64 W, .slice (some ⟨b, o, none⟩) l.length c] 62)) w.heap.size 62 #[.int .i64 W, .slice (some ⟨b, o, none⟩) l.length c] ∧ Off Nob w (w.alloc (.cells #[.int .i64 W, .slice (some ⟨b, o, none⟩) l.length c] 62))) := hID ⟨Blk.new _ _ _, Off.alloc oRf _⟩
 go_wp2_with fail
 revert HB0
 generalize (w.alloc (.cells #[.int .i64 W, .slice (some ⟨b, o, none⟩) l.length c] 62)) = w0
 intro HB0
 have GC : Hid (∀ W', Off Nob w0 W' → W'.cell? ⟨w.heap.size, 0, none⟩ = some (.int .i64 W) ∧ W'.cell? ⟨w.heap.size, 1, none⟩ = some (.slice (some ⟨b, o, none⟩) l.length c)) := hID (fun W' ho => by
  have h := HB0.out.1.to (ho.block _ HB0.out.1.lt id)
  exact ⟨h.cell 0, h.cell 1⟩)
 obtain ⟨t0, t1⟩ := GC.out _ oRf
 go_wp2_with fail
 refine (HCK.out _ HB0.out.2).mono ?_
 rintro e w1 ⟨i, m, rfl, hres, o1⟩
 have X1 := hID o1
 clear o1 t0 t1
 rcases hres with ⟨hok, rfl⟩ | ⟨hno, hm⟩
 ·clear hok
  obtain ⟨t0, t1⟩ := GC.out _ X1.out
  obtain ⟨c0, c1, c2⟩ := HC.out _ (HB0.out.2.also X1.out) _ a f cc (by omega : l.length - 1 < l.length) HX.out
  have hsub : ((l.length : Int) - 1) = ((l.length - 1 : Nat) : Int) := by omega
  have hq : l.length - 1 < l.length := by omega
  obtain ⟨q, hqe⟩ : ∃ q, l.length - 1 = q := ⟨_, rfl⟩
  rw [hqe] at c0 c1 c2 hsub hq
  clear hqe
  have B2 : Blk (w1.alloc (.cells #[.int .i64 a, .int .i64 f, .int .i64 cc] 43)) w1.heap.size 43 #[.int .i64 a, .int .i64 f, .int .i64 cc] := Blk.new _ _ _
  have e1 := B2.cell 1
  have e2 := B2.cell 2
  clear B2
  go_wp2_with fail
  go_ret2
  exact ⟨rfl, (HB0.out.2.also X1.out).alloc _⟩
 ·rw [HL.out] at hno
  cases hno
theorem qlx : ∀ (l : List Ln) (n : Nat), (∀ x ∈ l, 1 ≤ x.2.2) → n + l.length ≤ lnEnd n l
 | [], n, _ => Nat.le_refl _
 | x :: l, n, h => by
  have h1 := h x (List.mem_cons_self ..)
  have h2 := qlx l (n + x.2.2) (fun y hy => h y (List.mem_cons_of_mem _ hy))
  simp only [lnEnd, List.length_cons]
  omega
theorem LnFacts.len {W : Nat} {l : List Ln} (h : LnFacts W l) : l.length ≤ 256 := by
 have := qlx l 0 (fun x hx => (h.all x hx).2.1)
 have := h.e256
 omega
theorem qny {F S T : List Nat} {W n : Nat} {l : List Ln} (h : planR F S T W n = some l) : qal W l = true ∧ topOf (prs F W n) ≤ lnEnd 0 l ∧ ∀ b, b < 256 → ∀ i, i < 64 * W → topOf (prs F W n) ≤ i → bitAt (qaf T W b) i = false := by
 unfold planR at h
 split at h
 ·cases h
 ·rename_i l' hl
  split at h
  ·rename_i hc
   cases h
   simp only [Bool.and_eq_true, decide_eq_true_eq, List.all_eq_true, List.mem_range] at hc
   obtain ⟨⟨⟨⟨h1, h2⟩, h3⟩, h4⟩, h5⟩ := hc
   refine ⟨h1, qgw (fun x hx => ?_), fun b hb i hi hti => ?_⟩
   ·obtain ⟨p, s⟩ := x
    obtain ⟨hs, hp⟩ := qdo.1 hx
    rw [← h4 s hs] at hp
    have hbit := (qao.1 hp).2
    rw [qga (fun j hj => ?_)] at hbit
    ·obtain ⟨y, hy, he, _⟩ := qcq.1 (of_decide_eq_true hbit)
     have := (LnFacts.of h1).all y hy
     show p < _
     unfold qbx at he
     omega
    ·obtain ⟨y, hy, he, _⟩ := qcq.1 hj
     have := (LnFacts.of h1).all y hy
     have := (LnFacts.of h1).e64
     unfold qbx at he
     omega
   ·rw [← qjf] at h5
    unfold tabOk at h5
    have h6 := List.all_eq_true.1 h5 i (List.mem_range.2 hi)
    rw [Bool.or_eq_true, decide_eq_true_eq, List.all_eq_true] at h6
    rcases h6 with h6 | h6
    ·omega
    ·have h7 := h6 b (List.mem_range.2 hb)
     rw [qes hi]
     simpa using h7
  ·cases h
theorem qwq {L : List Nat} {q : Nat} (h : q < L.length) : L.getD q 0 ∈ L := by
 rw [List.getD_eq_getElem?_getD, List.getElem?_eq_getElem h]
 exact List.getElem_mem h
theorem quj {T : List Nat} (h : ∀ x ∈ T, x < 18446744073709551616) (W b : Nat) : ∀ x ∈ qaf T W b, x < 18446744073709551616 := by
 intro x hx
 unfold qaf at hx
 obtain ⟨k, _, rfl⟩ := List.mem_map.1 hx
 exact qbm h _
theorem Tryz.infoSs : (Tryz.prog.info? 27).map (·.size) = some 2 := by kernel_rfl
theorem Rd.part {w : World} {F : Nat → Prop} {b o n c : Nat} {L : List Nat} (h : Rd w F 1 (.slice (some ⟨b, o, none⟩) n c) n (qab L)) (k m : Nat) (hk : k + m ≤ n) (c2 : Nat) : Rd w (fun _ => True) 1 (.slice (some ⟨b, o + k, none⟩) m c2) m (qab ((L.drop k).take m)) := by
 obtain ⟨A, c', he, hm, hl, hc⟩ := h
 cases he
 have hl2 : L.length = n := by unfold qab at hl; simpa using hl
 refine ⟨_, _, rfl, by omega, by unfold qab; simp; omega, fun hn => ?_⟩
 obtain ⟨b2, o2, he, _, hb, hx⟩ := hc (by omega)
 cases he
 refine ⟨b, o + k, rfl, trivial, hb, fun j u hu => ?_⟩
 rw [Nat.add_assoc]
 refine hx (k + j) u ?_
 unfold qab at hu ⊢
 rw [List.map_take, List.map_drop] at hu
 have hj : j < m := by
  have := (List.getElem?_eq_some_iff.1 hu).1
  rw [List.length_take] at this
  omega
 rwa [List.getElem?_take, if_pos hj, List.getElem?_drop] at hu
end
end Go.Proofs.YtlgjaefcfnndhaaGreatDoor
