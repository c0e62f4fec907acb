/-
 dragnetref18.Plan and Check in general: which error a set has, and its lanes.
-/
import Derived.Test.YtlgjaefcfnndhaaGreatDoorO30
import Derived.Test.YtlgjaefcfnndhaaGreatDoorO18
import Derived.Deep.RegionHeld3
set_option linter.unusedVariables false
set_option linter.unusedSimpArgs false
set_option maxHeartbeats 16000000
set_option maxRecDepth 100000
namespace Go.Proofs.YtlgjaefcfnndhaaGreatDoor
section
open Go.RowKit
def AscB (xs : List Int) : Bool := (List.range (xs.length - 1)).all (fun j => decide (xs.getD j 0 < xs.getD (j + 1) 0))
def qaf (ids : List Int) (Wd : Int) (T S F : List Nat) : Int :=
 if ids.length = 0 then 6 else if 16 < ids.length then 3 else
 if ids.all (fun x => decide (1 ≤ x ∧ x ≤ 1000)) && decide (1 ≤ Wd ∧ Wd ≤ 4) then
  if AscB ids && decide (T.length = 256 * Wd.toNat ∧ S.length = Wd.toNat ∧ F.length = ids.length * Wd.toNat) && (planR F S T Wd.toNat ids.length).isSome then 0 else 6
 else 7
theorem qa8 {ids : List Int} {Wd : Int} {T S F : List Nat} (h : qaf ids Wd T S F = 0) : 1 ≤ ids.length ∧ ids.length ≤ 16 ∧ (∀ x ∈ ids, 1 ≤ x ∧ x ≤ 1000) ∧ (∃ W : Nat, Wd = (W : Int) ∧ 1 ≤ W ∧ W ≤ 4 ∧ T.length = 256 * W ∧ S.length = W ∧ F.length = ids.length * W ∧ (planR F S T W ids.length).isSome = true) ∧ AscB ids = true := by
 unfold qaf at h
 split at h
 ·exact absurd h (by decide)
 ·split at h
  ·exact absurd h (by decide)
  ·split at h
   ·rename_i h3
    split at h
    ·rename_i h4
     simp only [Bool.and_eq_true, decide_eq_true_eq, List.all_eq_true] at h3 h4
     refine ⟨by omega, by omega, h3.1, ⟨Wd.toNat, by omega, by omega, by omega, h4.1.2.1, h4.1.2.2.1, h4.1.2.2.2, h4.2⟩, h4.1.1⟩
    ·exact absurd h (by decide)
   ·exact absurd h (by decide)
theorem qr2 {w : World} {v : Value} {L : List Int} (hv : Rd w (fun _ => True) 1 v L.length (L.map (Value.int .i64))) : ∃ A c, v = .slice A L.length c ∧ ∀ W', Off Nob w W' → ∀ k, k < L.length → ∃ b o, A = some ⟨b, o, none⟩ ∧ W'.cell? ⟨b, o + k, none⟩ = some (.int .i64 (L.getD k 0)) := by
 obtain ⟨A, c, rfl, _, hcell⟩ := hv.form
 refine ⟨A, c, rfl, fun W' ho k hk => ?_⟩
 obtain ⟨b, o, rfl, hlt, hc⟩ := hcell (by omega)
 exact ⟨b, o, rfl, by rw [ho.cell_old hlt]; exact hc k _ (by simp [gDe, gEe hk])⟩
theorem qx0 {L : List Int} {q : Nat} (h : q < L.length) : L.getD q 0 ∈ L := by
 rw [gDe, gEe h]
 exact List.getElem_mem h
structure SetV (w : World) (VI VT VS VF : Value) (ids : List Int) (Wd : Int) (T S F : List Nat) : Prop where
 i : Rd w (fun _ => True) 1 VI ids.length (ids.map (Value.int .i64))
 t : Rd w (fun _ => True) 1 VT T.length (qab T)
 s : Rd w (fun _ => True) 1 VS S.length (qab S)
 f : Rd w (fun _ => True) 1 VF F.length (qab F)
 ct : CapOk VT
 cf : CapOk VF
 i64 : ∀ x ∈ ids, -9223372036854775808 ≤ x ∧ x ≤ 9223372036854775807
 w64 : -9223372036854775808 ≤ Wd ∧ Wd ≤ 9223372036854775807
 t64 : ∀ x ∈ T, x < 18446744073709551616
 s64 : ∀ x ∈ S, x < 18446744073709551616
 f64 : ∀ x ∈ F, x < 18446744073709551616
 il : ids.length ≤ 4096
 tl : T.length ≤ 4096
 sl : S.length ≤ 4096
 fl : F.length ≤ 4096
theorem SetV.keep {w w' : World} {VI VT VS VF : Value} {ids : List Int} {Wd : Int} {T S F : List Nat} (h : SetV w VI VT VS VF ids Wd T S F) (o : Off Nob w w') : SetV w' VI VT VS VF ids Wd T S F :=
 { h with i := h.i.keepT o, t := h.t.keepT o, s := h.s.keepT o, f := h.f.keepT o }
def RPl (ids : List Int) (Wd : Int) (T S F : List Nat) (w : World) (e : Ending) (w' : World) : Prop := ∃ (x : Int) (A : Option Addr) (k c : Nat), e = .returned (.tuple #[.agg #[.int .i64 x, .slice A k c], .int .i64 (qaf ids Wd T S F)]) ∧ (qaf ids Wd T S F = 0 → x = Wd ∧ ∃ l, planR F S T Wd.toNat ids.length = some l ∧ Rd w' (fun k => w.heap.size ≤ k) 3 (.slice A k c) l.length (lnV l)) ∧ Off Nob w w'
theorem qnk (ids : List Int) (Wd : Int) (T S F : List Nat) (w : World) (VI VT VS VF : Value) (hs : SetV w VI VT VS VF ids Wd T S F) :
  Calls Tryz.prog 32 #[.agg #[VI, .int .i64 Wd, VT, VS, VF]] w (RPl ids Wd T S F w) := by
 have HSV := hID hs
 obtain ⟨AI, ci, rfl, hci⟩ := qr2 hs.i
 obtain ⟨AT, ct, rfl, _⟩ := hs.t.form
 obtain ⟨AS, cs, rfl, _⟩ := hs.s.form
 obtain ⟨AF, cf, rfl, _⟩ := hs.f.form
 have HCI := hID hci
 have hil := hs.il
 have htl := hs.tl
 have hsl := hs.sl
 have hfl := hs.fl
 have hw64 := hs.w64
 have HER := hID (show qaf ids Wd T S F = qaf ids Wd T S F from rfl)
 clear hs hci HER
 go_enter Tryz.func32, Tryz.ntmps32
 have HB0 : Hid (Blk (((w.alloc (.cells #[.slice AI ids.length ci, .int .i64 Wd, .slice AT T.length ct, .slice AS S.length cs, .slice AF F.length cf] 25)).alloc (.cells #[.int .i64 0, .slice none 0 0] 62)).alloc (.cells #[.int .i64 0, .slice none 0 0] 62)) w.heap.size 25 #[.slice AI ids.length ci, .int .i64 Wd, .slice AT T.length ct, .slice AS S.length cs, .slice AF F.length cf] ∧ Blk (((w.alloc (.cells #[.slice AI ids.length ci, .int .i64 Wd, .slice AT T.length ct, .slice AS S.length cs, .slice AF F.length cf] 25)).alloc (.cells #[.int .i64 0, .slice none 0 0] 62)).alloc (.cells #[.int .i64 0, .slice none 0 0] 62)) (w.heap.size + 1) 62 #[.int .i64 0, .slice none 0 0] ∧ Blk (((w.alloc (.cells #[.slice AI ids.length ci, .int .i64 Wd, .slice AT T.length ct, .slice AS S.length cs, .slice AF F.length cf] 25)).alloc (.cells #[.int .i64 0, .slice none 0 0] 62)).alloc (.cells #[.int .i64 0, .slice none 0 0] 62)) (w.heap.size + 2) 62 #[.int .i64 0, .slice none 0 0] ∧ Off Nob w (((w.alloc (.cells #[.slice AI ids.length ci, .int .i64 Wd, .slice AT T.length ct, .slice AS S.length cs, .slice AF F.length cf] 25)).alloc (.cells #[.int .i64 0, .slice none 0 0] 62)).alloc (.cells #[.int .i64 0, .slice none 0 0] 62))) := hID ⟨((Blk.new _ _ _).alloc _).alloc _, (qal _ _ _ _).alloc _, by
  have := Blk.new ((w.alloc (.cells #[.slice AI ids.length ci, .int .i64 Wd, .slice AT T.length ct, .slice AS S.length cs, .slice AF F.length cf] 25)).alloc (.cells #[.int .i64 0, .slice none 0 0] 62)) 62 #[.int .i64 0, .slice none 0 0]
  simpa using this, ((oRf.alloc _).alloc _).alloc _⟩
 by_cases hz : ids.length = 0
 ·have d0 : ((ids.length : Int) == 0) = true := by rw [beq_iff_eq]; omega
  have HN := hID (show qaf ids Wd T S F = 6 by unfold qaf; rw [if_pos hz])
  clear hz
  go_wp2_with fail
  exact bodyPost_ret (qac rfl _ _ _ _ _ (0, 0) _ rfl HB0.out.2.1 Tryz.underlying62 rfl Tryz.infoPl) rfl ⟨0, none, 0, 0, (by rw [HN.out]; try rfl), fun h => absurd h (by rw [HN.out]; decide), HB0.out.2.2.2⟩
 have d0 : ((ids.length : Int) == 0) = false := by rw [beq_eq_false_iff_ne]; omega
 by_cases h16 : 16 < ids.length
 ·have d1 : decide ((16 : Int) < (ids.length : Int)) = true := dcT
  have d1n : decide (16 < ids.length) = true := dT h16
  have HN := hID (show qaf ids Wd T S F = 3 by unfold qaf; rw [if_neg hz, if_pos h16])
  go_wp2_with fail
  exact bodyPost_ret (qac rfl _ _ _ _ _ (0, 0) _ rfl HB0.out.2.1 Tryz.underlying62 rfl Tryz.infoPl) rfl ⟨0, none, 0, 0, (by rw [HN.out]; try rfl), fun h => absurd h (by rw [HN.out]; decide), HB0.out.2.2.2⟩
 have d1 : decide ((16 : Int) < (ids.length : Int)) = false := dcF
 have d1n : decide (16 < ids.length) = false := dF h16
 have H16 := hID (And.intro hz h16)
 go_wp2_with fail
 revert HB0
 generalize (((w.alloc (.cells #[.slice AI ids.length ci, .int .i64 Wd, .slice AT T.length ct, .slice AS S.length cs, .slice AF F.length cf] 25)).alloc (.cells #[.int .i64 0, .slice none 0 0] 62)).alloc (.cells #[.int .i64 0, .slice none 0 0] 62)) = w0
 intro HB0
 have GC : Hid (∀ W', Off Nob w0 W' → W'.cell? ⟨w.heap.size, 0, none⟩ = some (.slice AI ids.length ci) ∧ W'.cell? ⟨w.heap.size, 1, none⟩ = some (.int .i64 Wd) ∧ W'.cell? ⟨w.heap.size, 2, none⟩ = some (.slice AT T.length ct) ∧ W'.cell? ⟨w.heap.size, 3, none⟩ = some (.slice AS S.length cs) ∧ W'.cell? ⟨w.heap.size, 4, none⟩ = some (.slice AF F.length cf) ∧ W'.cell? ⟨w.heap.size + 1, 0, none⟩ = some (.int .i64 0) ∧ W'.cell? ⟨w.heap.size + 1, 1, none⟩ = some (.slice none 0 0) ∧ W'.cell? ⟨w.heap.size + 1 + 1, 0, none⟩ = some (.int .i64 0) ∧ W'.cell? ⟨w.heap.size + 1 + 1, 1, none⟩ = some (.slice none 0 0) ∧ W'.frozen? ⟨w.heap.size + 1, 0, none⟩ = false ∧ W'.frozen? ⟨w.heap.size + 1, 1, none⟩ = false) := hID (fun W' ho => by
  have h := HB0.out.1.to (ho.block _ HB0.out.1.lt id)
  have k := HB0.out.2.1.to (ho.block _ HB0.out.2.1.lt id)
  have m := HB0.out.2.2.1.to (ho.block _ HB0.out.2.2.1.lt id)
  exact ⟨h.cell 0, h.cell 1, h.cell 2, h.cell 3, h.cell 4, k.cell 0, k.cell 1, m.cell 0, m.cell 1, k.frozen 0, k.frozen 1⟩)
 have O0 : Hid (Off Nob w0 w0) := hID oRf
 go_loopw [5] (fun x wr => ∃ k : Nat, k ≤ ids.length ∧ x = .int .i64 (k : Int) ∧ w0 = wr ∧ ∀ j, j < k → 1 ≤ ids.getD j 0 ∧ ids.getD j 0 ≤ 1000) (fun x _ => ids.length - (intOf x).toNat)
 case atStart => exact ⟨0, Nat.zero_le _, rfl, rfl, fun j hj => absurd hj (by omega)⟩
 case round =>
  obtain ⟨k, hk, rfl, rfl, hall⟩ := hrel
  have HA := hID hall
  clear hall
  obtain ⟨s0, s1, s2, s3, s4, q0, q1, n0, n1, f0, f1⟩ := GC.out _ O0.out
  by_cases hlt : k < ids.length
  ·have e1 : decide ((k : Int) < (ids.length : Int)) = true := dcT
   obtain ⟨b, o, rfl, c0⟩ := HCI.out _ HB0.out.2.2.2 k hlt
   obtain ⟨y, hy⟩ : ∃ y, ids.getD k 0 = y := ⟨_, rfl⟩
   have HY := hID hy
   rw [hy] at c0
   clear hy
   have HBADR := hID (fun (h : ¬ (1 ≤ y ∧ y ≤ 1000)) => show qaf ids Wd T S F = 7 by
    unfold qaf
    rw [if_neg H16.out.1, if_neg H16.out.2, if_neg]
    simp only [Bool.and_eq_true, List.all_eq_true, decide_eq_true_eq]
    exact fun hh => h (HY.out ▸ hh.1 _ (qx0 hlt)))
   by_cases h1 : y < 1
   ·have e2 : decide (y < 1) = true := dT h1
    have HN := hID (HBADR.out (by omega))
    have HRB := hID (HB0.out.2.1.to (O0.out.block _ HB0.out.2.1.lt id))
    go_wp2_with fail
    have XE := hID ((HRB.out.put 0 (.int .i64 0)).put 1 (.slice none 0 0))
    exact bodyPost_ret (qac rfl _ _ _ _ _ (0, 0) _ rfl XE.out Tryz.underlying62 rfl Tryz.infoPl) rfl ⟨0, none, 0, 0, (by rw [HN.out]; try rfl), fun h => absurd h (by rw [HN.out]; decide), ((HB0.out.2.2.2.also O0.out).put (.inr (Nat.le_succ _)) _).put (.inr (Nat.le_succ _)) _⟩
   have e2 : decide (y < 1) = false := dF h1
   by_cases h2 : 1000 < y
   ·have e3 : decide (1000 < y) = true := dT h2
    have HN := hID (HBADR.out (by omega))
    have HRB := hID (HB0.out.2.1.to (O0.out.block _ HB0.out.2.1.lt id))
    go_wp2_with fail
    have XE := hID ((HRB.out.put 0 (.int .i64 0)).put 1 (.slice none 0 0))
    exact bodyPost_ret (qac rfl _ _ _ _ _ (0, 0) _ rfl XE.out Tryz.underlying62 rfl Tryz.infoPl) rfl ⟨0, none, 0, 0, (by rw [HN.out]; try rfl), fun h => absurd h (by rw [HN.out]; decide), ((HB0.out.2.2.2.also O0.out).put (.inr (Nat.le_succ _)) _).put (.inr (Nat.le_succ _)) _⟩
   have e3 : decide (1000 < y) = false := dF h2
   have HA2 := hID (fun j (hj : j < k + 1) => show 1 ≤ ids.getD j 0 ∧ ids.getD j 0 ≤ 1000 from if e : j = k then by rw [e, HY.out]; omega else HA.out j (by omega))
   go_wp2_with fail
   go_roundw
   case rel => exact ⟨k + 1, hlt, by go_num, trivial, HA2.out⟩
   case measure => simp [intOf]; omega
  ·obtain rfl : ids.length = k := by omega
   have e1 : decide ((ids.length : Int) < (ids.length : Int)) = false := dcF
   have HALL := hID (show ids.all (fun x => decide (1 ≤ x ∧ x ≤ 1000)) = true by
    rw [List.all_eq_true]
    intro x hx
    obtain ⟨j, hj, rfl⟩ := List.getElem_of_mem hx
    have := HA.out j hj
    rw [gDe, gEe hj] at this
    exact dT this)
   have HW := hID (fun (h : ¬ (1 ≤ Wd ∧ Wd ≤ 4)) => show qaf ids Wd T S F = 7 by
    unfold qaf
    rw [if_neg H16.out.1, if_neg H16.out.2, HALL.out, dF h]
    rfl)
   by_cases h1 : Wd < 1
   ·have e2 : decide (Wd < 1) = true := dT h1
    have HN := hID (HW.out (by omega))
    have HRB := hID (HB0.out.2.1.to (O0.out.block _ HB0.out.2.1.lt id))
    go_wp2_with fail
    have XE := hID ((HRB.out.put 0 (.int .i64 0)).put 1 (.slice none 0 0))
    exact bodyPost_ret (qac rfl _ _ _ _ _ (0, 0) _ rfl XE.out Tryz.underlying62 rfl Tryz.infoPl) rfl ⟨0, none, 0, 0, (by rw [HN.out]; try rfl), fun h => absurd h (by rw [HN.out]; decide), ((HB0.out.2.2.2.also O0.out).put (.inr (Nat.le_succ _)) _).put (.inr (Nat.le_succ _)) _⟩
   have e2 : decide (Wd < 1) = false := dF h1
   by_cases h2 : 4 < Wd
   ·have e3 : decide (4 < Wd) = true := dT h2
    have HN := hID (HW.out (by omega))
    have HRB := hID (HB0.out.2.1.to (O0.out.block _ HB0.out.2.1.lt id))
    go_wp2_with fail
    have XE := hID ((HRB.out.put 0 (.int .i64 0)).put 1 (.slice none 0 0))
    exact bodyPost_ret (qac rfl _ _ _ _ _ (0, 0) _ rfl XE.out Tryz.underlying62 rfl Tryz.infoPl) rfl ⟨0, none, 0, 0, (by rw [HN.out]; try rfl), fun h => absurd h (by rw [HN.out]; decide), ((HB0.out.2.2.2.also O0.out).put (.inr (Nat.le_succ _)) _).put (.inr (Nat.le_succ _)) _⟩
   have e3 : decide (4 < Wd) = false := dF h2
   obtain ⟨W, rfl⟩ : ∃ W : Nat, Wd = (W : Int) := ⟨Wd.toNat, by omega⟩
   have hW1 : 1 ≤ W := by omega
   have hW4 : W ≤ 4 := by omega
   have HSE := hID (show qaf ids (W : Int) T S F = if AscB ids && decide (T.length = 256 * W ∧ S.length = W ∧ F.length = ids.length * W) && (planR F S T W ids.length).isSome then 0 else 6 by
    unfold qaf
    rw [if_neg H16.out.1, if_neg H16.out.2, HALL.out, dT (show 1 ≤ (W : Int) ∧ (W : Int) ≤ 4 by omega)]
    rfl)
   clear h1 h2 HW
   go_wp2_with fail
   clear s0 s1 s2 s3 s4 q0 q1 n0 n1 f0 f1
   go_loopw [6] (fun x wr => ∃ k : Nat, 1 ≤ k ∧ k ≤ ids.length ∧ x = .int .i64 (k : Int) ∧ Off Nob w0 wr ∧ ∀ j, j + 1 < k → ids.getD j 0 < ids.getD (j + 1) 0) (fun x _ => ids.length - (intOf x).toNat)
   case atStart => exact ⟨1, Nat.le_refl _, by omega, rfl, O0.out, fun j hj => absurd hj (by omega)⟩
   case round =>
    obtain ⟨k, hk1, hk, rfl, hoff, hall⟩ := hrel
    have HAS := hID hall
    have O1 := hID hoff
    clear hall hoff
    obtain ⟨s0, s1, s2, s3, s4, q0, q1, n0, n1, f0, f1⟩ := GC.out _ O1.out
    by_cases hlt : k < ids.length
    ·have e4 : decide ((k : Int) < (ids.length : Int)) = true := dcT
     obtain ⟨b, o, rfl, c0⟩ := HCI.out _ (HB0.out.2.2.2.also O1.out) k hlt
     obtain ⟨b', o', he, c1⟩ := HCI.out _ (HB0.out.2.2.2.also O1.out) (k - 1) (by omega)
     obtain ⟨rfl, rfl⟩ : b = b' ∧ o = o' := by simpa using he
     obtain ⟨y, hy⟩ : ∃ y, ids.getD k 0 = y := ⟨_, rfl⟩
     obtain ⟨z, hz⟩ : ∃ z, ids.getD (k - 1) 0 = z := ⟨_, rfl⟩
     have HYZ := hID (And.intro hy hz)
     rw [hy] at c0
     rw [hz] at c1
     have hkk : (k : Int) - 1 = ((k - 1 : Nat) : Int) := by omega
     have hk2 : k - 1 < ids.length := by omega
     obtain ⟨q, hqe⟩ : ∃ q, k - 1 = q := ⟨_, rfl⟩
     have HQE := hID hqe
     rw [hqe] at c1 hkk hk2
     have hkw : IntKind.i64.wrap ((k : Int) - 1) = (q : Int) := by rw [IntWalk.i64_in _ (by omega)]; exact hkk
     have hq64 : IntKind.i64.wrap (q : Int) = (q : Int) := IntWalk.i64_in _ (by omega)
     clear hy hz hqe he
     by_cases hyz : y ≤ z
     ·have e5 : decide (y ≤ z) = true := dT hyz
      have HN := hID (show qaf ids (W : Int) T S F = 6 by
       rw [HSE.out, show AscB ids = false from by
        unfold AscB
        rw [List.all_eq_false]
        refine ⟨k - 1, List.mem_range.2 (by omega), ?_⟩
        rw [HYZ.out.2, show k - 1 + 1 = k from by omega, HYZ.out.1, dcF]
        simp]
       rfl)
      go_wp2_with fail
      go_quiet (fail)
      have O2 := hID (O1.out.drewN nq)
      clear s0 s1 s2 s3 s4 q0 q1 n0 n1 f0 f1 c0 c1
      generalize wr.drewN nq = wz at *
      obtain ⟨s0, s1, s2, s3, s4, q0, q1, n0, n1, f0, f1⟩ := GC.out _ O2.out
      have HRB := hID (HB0.out.2.1.to (O2.out.block _ HB0.out.2.1.lt id))
      go_wp2_with fail
      have XE := hID ((HRB.out.put 0 (.int .i64 0)).put 1 (.slice none 0 0))
      exact bodyPost_ret (qac rfl _ _ _ _ _ (0, 0) _ rfl XE.out Tryz.underlying62 rfl Tryz.infoPl) rfl ⟨0, none, 0, 0, (by rw [HN.out]; try rfl), fun h => absurd h (by rw [HN.out]; decide), ((HB0.out.2.2.2.also O2.out).put (.inr (Nat.le_succ _)) _).put (.inr (Nat.le_succ _)) _⟩
     ·have e5 : decide (y ≤ z) = false := dF hyz
      have HAS2 := hID (fun j (hj : j + 1 < k + 1) => show ids.getD j 0 < ids.getD (j + 1) 0 from if e : j + 1 = k then by
       have h6 : j = k - 1 := by omega
       rw [e, h6, HYZ.out.1, HYZ.out.2]
       omega else HAS.out j (by omega))
      go_wp2_with fail
      go_quiet (fail)
      have O2 := hID (O1.out.drewN nq)
      go_wp2_with fail
      go_roundw
      case rel => exact ⟨k + 1, by omega, hlt, by go_num, O2.out, HAS2.out⟩
      case measure => simp [intOf]; omega
    ·have hke : k = ids.length := by omega
     have e4 : decide ((k : Int) < (ids.length : Int)) = false := dcF
     have HASC := hID (show AscB ids = true by
      unfold AscB
      rw [List.all_eq_true]
      intro j hj
      have h6 := List.mem_range.1 hj
      exact dT (HAS.out j (by omega)))
     have HSZ := hID (fun (h : ¬ (T.length = 256 * W ∧ S.length = W ∧ F.length = ids.length * W)) => show qaf ids (W : Int) T S F = 6 by
      rw [HSE.out, HASC.out, dF h]
      rfl)
     clear hke
     have hnw : ids.length * W ≤ 64 := Nat.le_trans (Nat.mul_le_mul (show ids.length ≤ 16 by have := H16.out.2; omega) hW4) (by decide)
     have hcast : (ids.length : Int) * (W : Int) = ((ids.length * W : Nat) : Int) := by push_cast; rfl
     obtain ⟨m, hm⟩ : ∃ m, ids.length * W = m := ⟨_, rfl⟩
     have HM := hID hm
     rw [hm] at hnw hcast HSZ
     clear hm
     by_cases t1 : T.length = 256 * W
     ·have e5 : ((T.length : Int) != 256 * (W : Int)) = false := by rw [show (T.length : Int) = 256 * (W : Int) from by omega]; simp
      by_cases t2 : S.length = W
      ·have e6 : ((S.length : Int) != (W : Int)) = false := by rw [show (S.length : Int) = (W : Int) from by omega]; simp
       by_cases t3 : F.length = m
       ·have e7 : ((F.length : Int) != (m : Int)) = false := by rw [show (F.length : Int) = (m : Int) from by omega]; simp
        have HTS := hID (And.intro t1 (And.intro t2 (show F.length = ids.length * W by rw [HM.out]; exact t3)))
        have HPL := hID (qzl W hW1 hW4 ids.length (by have := H16.out.1; omega) (by have := H16.out.2; omega) F S T HTS.out.2.2 HTS.out.2.1 HTS.out.1 HSV.out.f64 HSV.out.s64 HSV.out.t64 wr AI ci _ _ _ (HSV.out.t.keepT (HB0.out.2.2.2.also O1.out)) (HSV.out.s.keepT (HB0.out.2.2.2.also O1.out)) (HSV.out.f.keepT (HB0.out.2.2.2.also O1.out)) HSV.out.cf)
        clear t1 t2 t3
        go_wp2_with fail
        refine HPL.out.mono ?_
        rintro e v1 ⟨A, kk, cc, bb, rfl, hres, o1⟩
        have O2 := hID (O1.out.also o1)
        have HPB := hID (Blk.new v1 62 #[.int .i64 W, .slice A kk cc])
        clear o1 s0 s1 s2 s3 s4 q0 q1 n0 n1 f0 f1
        have O3 := hID (O2.out.alloc (.cells #[.int .i64 W, .slice A kk cc] 62))
        obtain ⟨s0, s1, s2, s3, s4, q0, q1, n0, n1, f0, f1⟩ := GC.out _ O3.out
        rcases hres with ⟨hno, rfl⟩ | ⟨l, hl, rfl, hrd⟩
        ·have HN := hID (show qaf ids (W : Int) T S F = 6 by rw [HSE.out, hno]; simp)
         clear hno
         have HRB := hID (HB0.out.2.1.to (O3.out.block _ HB0.out.2.1.lt id))
         go_wp2_with fail
         have XE := hID ((HRB.out.put 0 (.int .i64 0)).put 1 (.slice none 0 0))
         exact bodyPost_ret (qac rfl _ _ _ _ _ (0, 0) _ rfl XE.out Tryz.underlying62 rfl Tryz.infoPl) rfl ⟨0, none, 0, 0, (by rw [HN.out]; try rfl), fun h => absurd h (by rw [HN.out]; decide), ((HB0.out.2.2.2.also O3.out).put (.inr (Nat.le_succ _)) _).put (.inr (Nat.le_succ _)) _⟩
        ·have HN := hID (show qaf ids (W : Int) T S F = 0 by
          rw [HSE.out, hl, HASC.out, dT HTS.out]
          rfl)
         have HL := hID hl
         have HRD := hID hrd
         clear hl hrd
         have HRB := hID (HB0.out.2.1.to (O3.out.block _ HB0.out.2.1.lt id))
         go_wp2_with fail
         have XE := hID ((HRB.out.put 0 (.int .i64 W)).put 1 (.slice A kk cc))
         have o7 := (qck (v1.alloc (.cells #[.int .i64 W, .slice A kk cc] 62)) ⟨w.heap.size + 1, 0, none⟩ (.int .i64 W)).also (qck _ ⟨w.heap.size + 1, 1, none⟩ (.slice A kk cc))
         have hrd2 : Rd (v1.alloc (.cells #[.int .i64 W, .slice A kk cc] 62)) (fun k => wr.heap.size ≤ k) 3 (.slice A kk cc) l.length (lnV l) := HRD.out.keep (oAl (Off.refl Nob _) _) (fun _ _ h => h)
         have hrd3 := (hrd2.keep o7 (fun j hj hj2 => by have h1 := HB0.out.2.1.lt; have h2 := O1.out.size; have h3 : j = w.heap.size + 1 := hj2; omega)).mono (fun j hj => Nat.le_trans (HB0.out.2.2.2.also O1.out).size hj)
         exact bodyPost_ret (qac rfl _ _ _ _ _ (0, 0) _ rfl XE.out Tryz.underlying62 rfl Tryz.infoPl) rfl ⟨_, _, _, _, (by rw [HN.out]; try rfl), fun _ => ⟨rfl, l, HL.out, hrd3⟩, ((HB0.out.2.2.2.also O3.out).put (.inr (Nat.le_succ _)) _).put (.inr (Nat.le_succ _)) _⟩
       ·have e7 : ((F.length : Int) != (m : Int)) = true := by rw [bne_iff_ne]; omega
        have HN := hID (HSZ.out (fun h => t3 h.2.2))
        clear t1 t2 t3
        have HRB := hID (HB0.out.2.1.to (O1.out.block _ HB0.out.2.1.lt id))
        go_wp2_with fail
        have XE := hID ((HRB.out.put 0 (.int .i64 0)).put 1 (.slice none 0 0))
        exact bodyPost_ret (qac rfl _ _ _ _ _ (0, 0) _ rfl XE.out Tryz.underlying62 rfl Tryz.infoPl) rfl ⟨0, none, 0, 0, (by rw [HN.out]; try rfl), fun h => absurd h (by rw [HN.out]; decide), ((HB0.out.2.2.2.also O1.out).put (.inr (Nat.le_succ _)) _).put (.inr (Nat.le_succ _)) _⟩
      ·have e6 : ((S.length : Int) != (W : Int)) = true := by rw [bne_iff_ne]; omega
       have HN := hID (HSZ.out (fun h => t2 h.2.1))
       clear t1 t2
       have HRB := hID (HB0.out.2.1.to (O1.out.block _ HB0.out.2.1.lt id))
       go_wp2_with fail
       have XE := hID ((HRB.out.put 0 (.int .i64 0)).put 1 (.slice none 0 0))
       exact bodyPost_ret (qac rfl _ _ _ _ _ (0, 0) _ rfl XE.out Tryz.underlying62 rfl Tryz.infoPl) rfl ⟨0, none, 0, 0, (by rw [HN.out]; try rfl), fun h => absurd h (by rw [HN.out]; decide), ((HB0.out.2.2.2.also O1.out).put (.inr (Nat.le_succ _)) _).put (.inr (Nat.le_succ _)) _⟩
     ·have e5 : ((T.length : Int) != 256 * (W : Int)) = true := by rw [bne_iff_ne]; omega
      have HN := hID (HSZ.out (fun h => t1 h.1))
      clear t1
      have HRB := hID (HB0.out.2.1.to (O1.out.block _ HB0.out.2.1.lt id))
      go_wp2_with fail
      have XE := hID ((HRB.out.put 0 (.int .i64 0)).put 1 (.slice none 0 0))
      exact bodyPost_ret (qac rfl _ _ _ _ _ (0, 0) _ rfl XE.out Tryz.underlying62 rfl Tryz.infoPl) rfl ⟨0, none, 0, 0, (by rw [HN.out]; try rfl), fun h => absurd h (by rw [HN.out]; decide), ((HB0.out.2.2.2.also O1.out).put (.inr (Nat.le_succ _)) _).put (.inr (Nat.le_succ _)) _⟩
theorem qpt (ids : List Int) (Wd : Int) (T S F : List Nat) (w : World) (VI VT VS VF : Value) (hs : SetV w VI VT VS VF ids Wd T S F) :
  Calls Tryz.prog 31 #[.agg #[VI, .int .i64 Wd, VT, VS, VF]] w (RetV w (.int .i64 (qaf ids Wd T S F))) := by
 have HSV := hID hs
 obtain ⟨AI, ci, rfl, _⟩ := hs.i.form
 obtain ⟨AT, ct, rfl, _⟩ := hs.t.form
 obtain ⟨AS, cs, rfl, _⟩ := hs.s.form
 obtain ⟨AF, cf, rfl, _⟩ := hs.f.form
 clear hs
 go_enter Tryz.func31, Tryz.ntmps31
 have X0 : Hid (Off Nob w (w.alloc (.cells #[.slice AI ids.length ci, .int .i64 Wd, .slice AT T.length ct, .slice AS S.length cs, .slice AF F.length cf] 25)) ∧ Blk (w.alloc (.cells #[.slice AI ids.length ci, .int .i64 Wd, .slice AT T.length ct, .slice AS S.length cs, .slice AF F.length cf] 25)) w.heap.size 25 #[.slice AI ids.length ci, .int .i64 Wd, .slice AT T.length ct, .slice AS S.length cs, .slice AF F.length cf]) := hID ⟨oRf.alloc _, Blk.new _ _ _⟩
 go_wp2_with fail
 refine (qnk ids Wd T S F _ _ _ _ _ (HSV.out.keep X0.out.1)).mono ?_
 rintro e w2 ⟨x, A, k, c, rfl, _, o2⟩
 have X2 := hID ((X0.out.1.also o2).alloc (.cells #[.int .i64 x, .slice A k c] 62))
 clear o2
 go_wp2_with fail
 go_ret
 exact ⟨rfl, X2.out⟩
end
section
open Go.RowKit
theorem qpu (W : Nat) (h1 : 1 ≤ W) (hW : W ≤ 8) (l : List Ln) (hn : l.length ≤ 4096) (hok : qak W l = true) (w : World) (v : Value) (hv : Rd w (fun _ => True) 3 v l.length (lnV l)) : Calls Tryz.prog 45 #[.agg #[.int .i64 W, v]] w (RetV w (.tuple #[.int .i64 (lnEnd 0 l), .int .i64 0])) := by
 have HV := hID hv
 have hz := (LnFacts.of hok).pos
 have he := (LnFacts.of hok).e256
 have hlast := (LnFacts.of hok).last
 obtain ⟨A, c, rfl, _, hcell⟩ := hv.form
 obtain ⟨b, o, rfl, hlt, hc⟩ := qdm (c := c) hcell hz
 have HC := hID hc
 have HCK := hID (fun (V : World) (oV : Off Nob w V) => qka W h1 hW l hn V _ (HV.out.keepT oV))
 have HL := hID hok
 rw [← qer hz] at hlast
 obtain ⟨⟨a, f, cc⟩, hx⟩ : ∃ x, l.getD (l.length - 1) (0, 0, 0) = x := ⟨_, rfl⟩
 rw [hx] at hlast
 have HX := hID hx
 have hfc : (f : Int) + (cc : Int) = (lnEnd 0 l : Int) := by have : f + cc = lnEnd 0 l := hlast; omega
 have hfb : f ≤ 256 ∧ cc ≤ 256 := by have : f + cc = lnEnd 0 l := hlast; omega
 obtain ⟨hf256, hc256⟩ := hfb
 have HE := hID hfc
 rw [← hfc]
 clear hc hx hcell hv hok hlast he hfc
 go_enter Tryz.func45, Tryz.ntmps45
 have HB0 : Hid (Blk (w.alloc (.cells #[.int .i64 W, .slice (some ⟨b, o, none⟩) l.length c] 62)) w.heap.size 62 #[.int .i64 W, .slice (some ⟨b, o, none⟩) l.length c] ∧ Off Nob w (w.alloc (.cells #[.int .i64 W, .slice (some ⟨b, o, none⟩) l.length c] 62))) := hID ⟨Blk.new _ _ _, oAl oRf _⟩
 go_wp2_with fail
 revert HB0
 generalize (w.alloc (.cells #[.int .i64 W, .slice (some ⟨b, o, none⟩) l.length c] 62)) = w0
 intro HB0
 have GC : Hid (∀ W', Off Nob w0 W' → W'.cell? ⟨w.heap.size, 0, none⟩ = some (.int .i64 W) ∧ W'.cell? ⟨w.heap.size, 1, none⟩ = some (.slice (some ⟨b, o, none⟩) l.length c)) := hID (fun W' ho => by
  have h := HB0.out.1.to (ho.block _ HB0.out.1.lt id)
  exact ⟨h.cell 0, h.cell 1⟩)
 obtain ⟨t0, t1⟩ := GC.out _ oRf
 go_wp2_with fail
 refine (HCK.out _ HB0.out.2).mono ?_
 rintro e w1 ⟨i, m, rfl, hres, o1⟩
 have X1 := hID o1
 clear o1 t0 t1
 rcases hres with ⟨hok, rfl⟩ | ⟨hno, hm⟩
 ·clear hok
  obtain ⟨t0, t1⟩ := GC.out _ X1.out
  obtain ⟨c0, c1, c2⟩ := HC.out _ (HB0.out.2.also X1.out) _ a f cc (by omega : l.length - 1 < l.length) HX.out
  have hsub : ((l.length : Int) - 1) = ((l.length - 1 : Nat) : Int) := by omega
  have hq : l.length - 1 < l.length := by omega
  obtain ⟨q, hqe⟩ : ∃ q, l.length - 1 = q := ⟨_, rfl⟩
  rw [hqe] at c0 c1 c2 hsub hq
  clear hqe
  have B2 : Blk (w1.alloc (.cells #[.int .i64 a, .int .i64 f, .int .i64 cc] 43)) w1.heap.size 43 #[.int .i64 a, .int .i64 f, .int .i64 cc] := Blk.new _ _ _
  have e1 := B2.cell 1
  have e2 := B2.cell 2
  clear B2
  go_wp2_with fail
  go_ret2
  exact ⟨rfl, (HB0.out.2.also X1.out).alloc _⟩
 ·rw [HL.out] at hno
  cases hno
theorem qlm : ∀ (l : List Ln) (n : Nat), (∀ x ∈ l, 1 ≤ x.2.2) → n + l.length ≤ lnEnd n l
 | [], n, _ => Nat.le_refl _
 | x :: l, n, h => by
  have h1 := h x (List.mem_cons_self ..)
  have h2 := qlm l (n + x.2.2) (fun y hy => h y (List.mem_cons_of_mem _ hy))
  simp only [lnEnd, List.length_cons]
  omega
theorem LnFacts.len {W : Nat} {l : List Ln} (h : LnFacts W l) : l.length ≤ 256 := by
 have := qlm l 0 (fun x hx => (h.all x hx).2.1)
 have := h.e256
 omega
theorem qg1 {F S T : List Nat} {W n : Nat} {l : List Ln} (h : planR F S T W n = some l) : qak W l = true ∧ topOf (prs F W n) ≤ lnEnd 0 l ∧ ∀ b, b < 256 → ∀ i, i < 64 * W → topOf (prs F W n) ≤ i → bitAt (qan T W b) i = false := by
 unfold planR at h
 split at h
 ·cases h
 ·rename_i l' hl
  split at h
  ·rename_i hc
   cases h
   simp only [Bool.and_eq_true, decide_eq_true_eq, List.all_eq_true, List.mem_range] at hc
   obtain ⟨⟨⟨⟨h1, h2⟩, h3⟩, h4⟩, h5⟩ := hc
   refine ⟨h1, qgp (fun x hx => ?_), fun b hb i hi hti => ?_⟩
   ·obtain ⟨p, s⟩ := x
    obtain ⟨hs, hp⟩ := qdg.1 hx
    rw [← h4 s hs] at hp
    have hbit := (qaq.1 hp).2
    rw [qex (fun j hj => ?_)] at hbit
    ·obtain ⟨y, hy, he, _⟩ := qcp.1 (of_decide_eq_true hbit)
     have := (LnFacts.of h1).all y hy
     show p < _
     unfold qbu at he
     omega
    ·obtain ⟨y, hy, he, _⟩ := qcp.1 hj
     have := (LnFacts.of h1).all y hy
     have := (LnFacts.of h1).e64
     unfold qbu at he
     omega
   ·rw [← qi9] at h5
    unfold tabOk at h5
    have h6 := List.all_eq_true.1 h5 i (List.mem_range.2 hi)
    rw [Bool.or_eq_true, decide_eq_true_eq, List.all_eq_true] at h6
    rcases h6 with h6 | h6
    ·omega
    ·have h7 := h6 b (List.mem_range.2 hb)
     rw [qen hi]
     simpa using h7
  ·cases h
theorem qnl {L : List Nat} {q : Nat} (h : q < L.length) : L.getD q 0 ∈ L := by
 rw [gDe, gEe h]
 exact List.getElem_mem h
def shX (W : Nat) (X : List Nat) : List Nat := rowOf W (fun i => decide (1 ≤ i) && bitAt X (i - 1))
def orX (W : Nat) (A B : List Nat) : List Nat := rowOf W (fun i => bitAt A i || bitAt B i)
def andX (W : Nat) (A B : List Nat) : List Nat := rowOf W (fun i => bitAt A i && bitAt B i)
def stepX (T S : List Nat) (W : Nat) (X : List Nat) (b : Nat) : List Nat := andX W (orX W (shX W X) S) (qan T W b)
theorem qt9 {T : List Nat} (h : ∀ x ∈ T, x < 18446744073709551616) (W b : Nat) : ∀ x ∈ qan T W b, x < 18446744073709551616 := by
 intro x hx
 unfold qan at hx
 obtain ⟨k, _, rfl⟩ := List.mem_map.1 hx
 exact qbg h _
theorem Tryz.infoSs : (Tryz.prog.info? 27).map (·.size) = some 2 := by kernel_rfl
theorem qwi (W : Nat) (w1' : 1 ≤ W) (w4' : W ≤ 4) (T S : List Nat) (hT : T.length = 256 * W) (hT64 : ∀ x ∈ T, x < 18446744073709551616) (hS : S.length = W) (hS64 : ∀ x ∈ S, x < 18446744073709551616) (X : List Nat) (hX : X.length = W) (hX64 : ∀ x ∈ X, x < 18446744073709551616) (at_ : Nat) (hat : at_ ≤ 1000000000) (b : Nat) (hb : b < 256) (w : World) (VI VT VS VF XV : Value) (hvt : Rd w (fun _ => True) 1 VT T.length (qab T)) (hvs : Rd w (fun _ => True) 1 VS W (qab S)) (hxv : Rd w (fun _ => True) 1 XV W (qab X)) :
  Calls Tryz.prog 50 #[.agg #[VI, .int .i64 (W : Int), VT, VS, VF], .agg #[XV, .int .i64 (at_ : Int)], .int .u8 b] w (fun e w' => ∃ u, e = .returned (.agg #[u, .int .i64 ((at_ : Int) + 1)]) ∧ Rd w' (fun k => w.heap.size ≤ k) 1 u W (qab (stepX T S W X b)) ∧ Off Nob w w') := by
 obtain ⟨hi0, hi, hz0, hz1, hz2⟩ := info_parts Tryz.infoU64
 obtain ⟨AT, ct, rfl, hc⟩ := qd7 hvt
 have HC := hID hc
 have HT := hID hT
 have HSH := hID (fun (V : World) (oV : Off Nob w V) => qxo W X hX64 w1' (by omega) hX V XV (hxv.keepT oV))
 have HOR := hID (fun (V : World) (oV : Off Nob w V) (u : Value) (hu : Rd V (fun _ => True) 1 u W (qab (shX W X))) => g_or W (shX W X) S (qgs _ _) hS64 w1' (by omega) (qdb _ _) hS V u VS hu (hvs.keepT oV))
 have HAND := hID (fun (V : World) (u v : Value) (hu : Rd V (fun _ => True) 1 u W (qab (orX W (shX W X) S))) (hv : Rd V (fun _ => True) 1 v W (qab (qan T W b))) => g_and W (orX W (shX W X) S) (qan T W b) (qgs _ _) (qt9 hT64 _ _) w1' (by omega) (qdb _ _) (qb8 _ _ _) V u v hu hv)
 have HRS : Hid (stepX T S W X b = rowOf W (fun i => bitAt (orX W (shX W X) S) i && bitAt (qan T W b) i)) := hID rfl
 rw [HRS.out]
 obtain ⟨AS, cs, rfl, _⟩ := hvs.form
 obtain ⟨AX, cx, rfl, _⟩ := hxv.form
 have hwa : IntKind.i64.wrap ((at_ : Int) + 1) = (at_ : Int) + 1 := IntWalk.i64_in _ (by omega)
 clear hc hvt hvs hxv hT hT64 hS hS64 hX hX64 HRS
 obtain ⟨N, hN⟩ : ∃ N, T.length = N := ⟨_, rfl⟩
 rw [hN] at HC HT ⊢
 clear hN
 go_enter Tryz.func50, Tryz.ntmps50
 have HB0 : Hid (Off Nob w (((w.alloc (.cells #[VI, .int .i64 (W : Int), .slice AT N ct, .slice AS W cs, VF] 25)).alloc (.cells #[.slice AX W cx, .int .i64 (at_ : Int)] 27)).alloc (.cells #[.slice none 0 0, .int .i64 0] 27)) ∧ Blk (((w.alloc (.cells #[VI, .int .i64 (W : Int), .slice AT N ct, .slice AS W cs, VF] 25)).alloc (.cells #[.slice AX W cx, .int .i64 (at_ : Int)] 27)).alloc (.cells #[.slice none 0 0, .int .i64 0] 27)) w.heap.size 25 #[VI, .int .i64 (W : Int), .slice AT N ct, .slice AS W cs, VF] ∧ Blk (((w.alloc (.cells #[VI, .int .i64 (W : Int), .slice AT N ct, .slice AS W cs, VF] 25)).alloc (.cells #[.slice AX W cx, .int .i64 (at_ : Int)] 27)).alloc (.cells #[.slice none 0 0, .int .i64 0] 27)) (w.heap.size + 1) 27 #[.slice AX W cx, .int .i64 (at_ : Int)] ∧ Blk (((w.alloc (.cells #[VI, .int .i64 (W : Int), .slice AT N ct, .slice AS W cs, VF] 25)).alloc (.cells #[.slice AX W cx, .int .i64 (at_ : Int)] 27)).alloc (.cells #[.slice none 0 0, .int .i64 0] 27)) (w.heap.size + 2) 27 #[.slice none 0 0, .int .i64 0]) := hID ⟨((oRf.alloc _).alloc _).alloc _, ((Blk.new _ _ _).alloc _).alloc _, (qal _ _ _ _).alloc _, by
  have := Blk.new ((w.alloc (.cells #[VI, .int .i64 (W : Int), .slice AT N ct, .slice AS W cs, VF] 25)).alloc (.cells #[.slice AX W cx, .int .i64 (at_ : Int)] 27)) 27 #[.slice none 0 0, .int .i64 0]
  simpa using this⟩
 go_wp2_with fail
 revert HB0
 generalize (((w.alloc (.cells #[VI, .int .i64 (W : Int), .slice AT N ct, .slice AS W cs, VF] 25)).alloc (.cells #[.slice AX W cx, .int .i64 (at_ : Int)] 27)).alloc (.cells #[.slice none 0 0, .int .i64 0] 27)) = w0
 intro HB0
 have GC : Hid (∀ V, Off Nob w0 V → V.cell? ⟨w.heap.size, 1, none⟩ = some (.int .i64 (W : Int)) ∧ V.cell? ⟨w.heap.size, 2, none⟩ = some (.slice AT N ct) ∧ V.cell? ⟨w.heap.size, 3, none⟩ = some (.slice AS W cs) ∧ V.cell? ⟨w.heap.size + 1, 0, none⟩ = some (.slice AX W cx) ∧ V.cell? ⟨w.heap.size + 1, 1, none⟩ = some (.int .i64 (at_ : Int))) := hID (fun V ho => by
  have h := HB0.out.2.1.to (ho.block _ HB0.out.2.1.lt id)
  have k := HB0.out.2.2.1.to (ho.block _ HB0.out.2.2.1.lt id)
  exact ⟨h.cell 1, h.cell 2, h.cell 3, k.cell 0, k.cell 1⟩)
 obtain ⟨c1, c2, c3, x0, x1⟩ := GC.out _ oRf
 go_wp2_with fail
 refine (HSH.out _ HB0.out.1).mono ?_
 rintro e w1 ⟨u1, rfl, hr1, o1⟩
 have Y1 := hID o1
 have HR1 := hID hr1.any
 clear o1 hr1 c1 c2 c3 x0 x1 HSH
 obtain ⟨c1, c2, c3, x0, x1⟩ := GC.out _ Y1.out
 generalize bitAt X (64 * W - 1) = bl
 go_wp2_with fail
 refine (HOR.out _ (HB0.out.1.also Y1.out) _ HR1.out).mono ?_
 rintro e w2 ⟨u2, rfl, hr2, o1⟩
 have Y2 := hID (Y1.out.also o1)
 have HR2 := hID hr2.any
 clear o1 hr2 c1 c2 c3 x0 x1 HOR HR1
 obtain ⟨c1, c2, c3, x0, x1⟩ := GC.out _ Y2.out
 go_wp2_with fail
 clear c1 c2 c3 x0 x1
 go_loopw [10, 11] (fun x y wr => ∃ k : Nat, k ≤ W ∧ y = .int .i64 (k : Int) ∧ OwnL w2 wr 71 1 x k (qab (qan T k b))) (fun _ y _ => W - (intOf y).toNat)
 case atStart => exact ⟨0, Nat.zero_le _, rfl, OwnL.nilAt oRf _ _⟩
 case round =>
  obtain ⟨k, hk, rfl, oW⟩ := hrel
  obtain ⟨AA, cq, rfl⟩ := oW.form
  have HO := hID oW
  clear oW
  obtain ⟨c1, c2, c3, x0, x1⟩ := GC.out _ (Y2.out.also HO.out.2)
  by_cases hlt : k < W
  ·have d1 : decide ((k : Int) < (W : Int)) = true := dcT
   obtain ⟨bt, ot, rfl, e0⟩ := HC.out _ (HB0.out.1.also (Y2.out.also HO.out.2)) (256 * k + b) (by rw [HT.out]; omega)
   have HS := hID (qfv T k k b)
   have hlen : 256 * k + b < N := by rw [HT.out]; omega
   revert e0 HS
   generalize T.getD (256 * k + b) 0 = x
   intro e0 HS
   obtain ⟨M, hM⟩ : ∃ M, qan T k b = M := ⟨_, rfl⟩
   rw [hM] at HO HS
   clear hM
   have hw1 : IntKind.i64.wrap (256 * (k : Int)) = 256 * (k : Int) := IntWalk.i64_in _ (by omega)
   obtain ⟨q, hq⟩ : ∃ q, 256 * k + b = q := ⟨_, rfl⟩
   have hadd : 256 * (k : Int) + (b : Int) = (q : Int) := by omega
   have hw2 : IntKind.i64.wrap (256 * (k : Int) + (b : Int)) = (q : Int) := by rw [IntWalk.i64_in _ (by omega)]; exact hadd
   rw [hq] at e0 hlen
   clear hq
   go_wp2_with (at_builtin; refine @wpList_append_lies _ _ _ _ _ _ _ rfl _ _ 23 rfl w2.heap.size 71 hi0 (.int .u64 0) 1 8 Tryz.underlying23 hi hz0 hz1 hz2 rfl (by decide) (.slice AA k cq) k (qab M) rfl (HO.out.1.alloc _) ⟨wr.heap.size, 0, none⟩ 1 1 [.int .u64 (x : Int)] rfl rfl ?c1 (by intro u hu; simp at hu; subst hu; rfl) (by decide) (by unfold maxLen; omega) (by omega) (by have := HO.out.2.size; simp; omega) _ rfl ?_)
   case c1 => exact qb0 _ _ _
   intro g cap w4 oW gW hat hltg
   have O4 : Hid (OwnL w2 w4 71 1 (.slice (some ⟨g, 0, none⟩) (k + 1) cap) (k + 1) (qab (M ++ [x]))) := hID (by
    have := HO.out.grown (oAl oRf _) oW gW
    rw [qiv]
    exact this)
   clear oW gW hat hltg
   go_wp2_with fail
   go_roundw
   case rel => exact ⟨k + 1, hlt, by go_num, by rw [HS.out]; exact O4.out⟩
   case measure => simp [intOf]; omega
  ·obtain rfl : k = W := by omega
   have d1 : decide ((k : Int) < (k : Int)) = false := dcF
   go_wp2_with fail
   refine (HAND.out _ _ _ (HR2.out.keepT HO.out.2) HO.out.rd).mono ?_
   rintro e w5 ⟨u5, rfl, hr5, o1⟩
   obtain ⟨A5, c5, rfl, _⟩ := hr5.form
   have Y5 := hID ((Y2.out.also HO.out.2).also o1)
   have HR5 := hID (And.intro (Rd.mono hr5 (fun j hj => Nat.le_trans (HB0.out.1.also (Y2.out.also HO.out.2)).size hj)) hr5)
   clear o1 hr5 c1 c2 c3 x0 x1
   obtain ⟨c1, c2, c3, x0, x1⟩ := GC.out _ Y5.out
   have HBZ := hID (HB0.out.2.2.2.to (Y5.out.block _ HB0.out.2.2.2.lt id))
   have f0 := HBZ.out.frozen 0
   have f1 := HBZ.out.frozen 1
   have z0 := HBZ.out.cell 0
   have z1 := HBZ.out.cell 1
   go_wp2_with fail
   have XE := hID ((HBZ.out.put 0 (.slice A5 k c5)).put 1 (.int .i64 ((at_ : Int) + 1)))
   have OE : Off (fun j => j = w.heap.size + 2) w5 ((w5.setCell ⟨w.heap.size + 2, 0, none⟩ (.slice A5 k c5)).setCell ⟨w.heap.size + 2, 1, none⟩ (.int .i64 ((at_ : Int) + 1))) := Off.put (F := fun j => j = w.heap.size + 2) (Off.put (F := fun j => j = w.heap.size + 2) oRf (.inl rfl) _) (.inl rfl) _
   have hlt2 := HB0.out.2.2.2.lt
   have hsz := (Y2.out.also HO.out.2).size
   exact bodyPost_ret (results_cell_row rfl _ _ (w.heap.size + 2) 27 _ (0, 0) _ rfl XE.out Tryz.underlying27 rfl Tryz.infoSs) rfl ⟨_, rfl, (HR5.out.2.keep OE (fun j hj he => by omega)).mono (fun j hj => by omega), ((HB0.out.1.also Y5.out).put (p := ⟨w.heap.size + 2, 0, none⟩) (.inr (Nat.le_add_right _ _)) _).put (p := ⟨w.heap.size + 2, 1, none⟩) (.inr (Nat.le_add_right _ _)) _⟩
theorem Rd.part {w : World} {F : Nat → Prop} {b o n c : Nat} {L : List Nat} (h : Rd w F 1 (.slice (some ⟨b, o, none⟩) n c) n (qab L)) (k m : Nat) (hk : k + m ≤ n) (c2 : Nat) : Rd w (fun _ => True) 1 (.slice (some ⟨b, o + k, none⟩) m c2) m (qab ((L.drop k).take m)) := by
 obtain ⟨A, c', he, hm, hl, hc⟩ := h
 cases he
 have hl2 : L.length = n := by unfold qab at hl; simpa using hl
 refine ⟨_, _, rfl, by omega, by unfold qab; simp; omega, fun hn => ?_⟩
 obtain ⟨b2, o2, he, _, hb, hx⟩ := hc (by omega)
 cases he
 refine ⟨b, o + k, rfl, trivial, hb, fun j u hu => ?_⟩
 rw [Nat.add_assoc]
 refine hx (k + j) u ?_
 unfold qab at hu ⊢
 rw [List.map_take, List.map_drop] at hu
 have hj : j < m := by
  have := (List.getElem?_eq_some_iff.1 hu).1
  rw [List.length_take] at this
  omega
 rwa [List.getElem?_take, if_pos hj, List.getElem?_drop] at hu
def hitR (F : List Nat) (W : Nat) (X : List Nat) (r : Nat) : Bool := decide (0 < (onesN (andX W X (finL F W r))).length)
def qby (F : List Nat) (W : Nat) (X : List Nat) (k : Nat) : List Nat := (List.range k).filter (hitR F W X)
theorem qkc {F : List Nat} {W : Nat} {X : List Nat} {k : Nat} (h : hitR F W X k = true) : qby F W X (k + 1) = qby F W X k ++ [k] := by
 unfold qby
 rw [List.range_succ, List.filter_append]
 simp [h]
theorem qln {F : List Nat} {W : Nat} {X : List Nat} {k : Nat} (h : hitR F W X k = false) : qby F W X (k + 1) = qby F W X k := by
 unfold qby
 rw [List.range_succ, List.filter_append]
 simp [h]
theorem qr3 (F : List Nat) (W : Nat) (X : List Nat) (k : Nat) : (qby F W X k).length ≤ k := by
 unfold qby
 exact Nat.le_trans (List.length_filter_le _ _) (by simp)
theorem qwj (W n : Nat) (w1' : 1 ≤ W) (w4' : W ≤ 4) (hn1 : 1 ≤ n) (hn16 : n ≤ 16) (F : List Nat) (hF : F.length = n * W) (hF64 : ∀ x ∈ F, x < 18446744073709551616) (X : List Nat) (hX : X.length = W) (hX64 : ∀ x ∈ X, x < 18446744073709551616) (at_ : Nat) (AI : Option Addr) (ci : Nat) (w : World) (VT VS VF XV : Value) (hvf : Rd w (fun _ => True) 1 VF F.length (qab F)) (hcf : CapOk VF) (hxv : Rd w (fun _ => True) 1 XV W (qab X)) :
  Calls Tryz.prog 52 #[.agg #[.slice AI n ci, .int .i64 (W : Int), VT, VS, VF], .agg #[XV, .int .i64 (at_ : Int)]] w (fun e w' => ∃ v, e = .returned v ∧ OwnL w w' 3 1 v (qby F W X n).length (natsV (qby F W X n))) := by
 obtain ⟨i0, hi, hz0, hz1, hz2⟩ := info_parts Tryz.infoOn
 have hnw : 1 ≤ n * W := Nat.mul_le_mul hn1 w1'
 have hnw2 : n * W ≤ 64 := Nat.mul_le_mul hn16 w4'
 obtain ⟨bf, of, cf, rfl, _⟩ := hvf.cellsT (by omega)
 have hcap : F.length ≤ cf := hcf _ _ _ rfl
 obtain ⟨AX, cx, rfl, _⟩ := hxv.form
 have HAND := hID (fun (r p c2 : Nat) (hr : r < n) (hp : r * W = p) (V : World) (oV : Off Nob w V) => by
  have hle : r * W + W ≤ F.length := by rw [hF]; have := Nat.mul_le_mul_right W (show r + 1 ≤ n from hr); rw [Nat.add_mul] at this; omega
  have k := g_and W X (finL F W r) hX64 (fun x hx => hF64 x (qgo hx)) w1' (by omega) hX (qct hF hr) V _ (.slice (some ⟨bf, of + p, none⟩) W c2) (hxv.keepT oV) (by subst hp; exact (hvf.keepT oV).part (r * W) W hle c2)
  exact k)
 have HCN := hID (fun (r : Nat) (V : World) (u : Value) (hu : Rd V (fun _ => True) 1 u W (qab (andX W X (finL F W r)))) => qxp (andX W X (finL F W r)) (qgs _ _) (by unfold andX; rw [qdb]; exact w1') (by unfold andX; rw [qdb]; omega) V u (by unfold andX at hu ⊢; rw [qdb]; exact hu))
 have HF := hID hF
 obtain ⟨NF, hNF⟩ : ∃ NF, F.length = NF := ⟨_, rfl⟩
 rw [hNF] at hcap HF ⊢
 clear hvf hcf hxv hF hF64 hX hX64 hNF hnw
 go_enter Tryz.func52, Tryz.ntmps52
 have HB0 : Hid (Off Nob w ((w.alloc (.cells #[.slice AI n ci, .int .i64 (W : Int), VT, VS, .slice (some ⟨bf, of, none⟩) NF cf] 25)).alloc (.cells #[.slice AX W cx, .int .i64 (at_ : Int)] 27)) ∧ Blk ((w.alloc (.cells #[.slice AI n ci, .int .i64 (W : Int), VT, VS, .slice (some ⟨bf, of, none⟩) NF cf] 25)).alloc (.cells #[.slice AX W cx, .int .i64 (at_ : Int)] 27)) w.heap.size 25 #[.slice AI n ci, .int .i64 (W : Int), VT, VS, .slice (some ⟨bf, of, none⟩) NF cf] ∧ Blk ((w.alloc (.cells #[.slice AI n ci, .int .i64 (W : Int), VT, VS, .slice (some ⟨bf, of, none⟩) NF cf] 25)).alloc (.cells #[.slice AX W cx, .int .i64 (at_ : Int)] 27)) (w.heap.size + 1) 27 #[.slice AX W cx, .int .i64 (at_ : Int)]) := hID ⟨(oRf.alloc _).alloc _, (Blk.new _ _ _).alloc _, qal _ _ _ _⟩
 go_wp2_with fail
 revert HB0
 generalize ((w.alloc (.cells #[.slice AI n ci, .int .i64 (W : Int), VT, VS, .slice (some ⟨bf, of, none⟩) NF cf] 25)).alloc (.cells #[.slice AX W cx, .int .i64 (at_ : Int)] 27)) = w0
 intro HB0
 have GC : Hid (∀ V, Off Nob w0 V → V.cell? ⟨w.heap.size, 0, none⟩ = some (.slice AI n ci) ∧ V.cell? ⟨w.heap.size, 1, none⟩ = some (.int .i64 (W : Int)) ∧ V.cell? ⟨w.heap.size, 4, none⟩ = some (.slice (some ⟨bf, of, none⟩) NF cf) ∧ V.cell? ⟨w.heap.size + 1, 0, none⟩ = some (.slice AX W cx)) := hID (fun V ho => by
  have h := HB0.out.2.1.to (ho.block _ HB0.out.2.1.lt id)
  have k := HB0.out.2.2.to (ho.block _ HB0.out.2.2.lt id)
  exact ⟨h.cell 0, h.cell 1, h.cell 4, k.cell 0⟩)
 go_loopw [5, 6] (fun x y wr => ∃ k : Nat, k ≤ n ∧ y = .int .i64 (k : Int) ∧ OwnL w0 wr 3 1 x (qby F W X k).length (natsV (qby F W X k))) (fun _ y _ => n - (intOf y).toNat)
 case atStart => exact ⟨0, Nat.zero_le _, rfl, OwnL.nilAt oRf _ _⟩
 case round =>
  obtain ⟨k, hk, rfl, oW⟩ := hrel
  obtain ⟨AA, cq, rfl⟩ := oW.form
  have HO := hID oW
  clear oW
  obtain ⟨c0, c1, c4, x0⟩ := GC.out _ HO.out.2
  by_cases hlt : k < n
  ·have d1 : decide ((k : Int) < (n : Int)) = true := dcT
   have hp2 : (k + 1) * W ≤ n * W := Nat.mul_le_mul_right W hlt
   rw [Nat.add_mul, Nat.one_mul] at hp2
   obtain ⟨p, hp⟩ : ∃ p, k * W = p := ⟨_, rfl⟩
   rw [hp] at hp2
   have hpi : (k : Int) * (W : Int) = (p : Int) := by rw [← hp]; push_cast; rfl
   have hp1i : ((k : Int) + 1) * (W : Int) = ((p + W : Nat) : Int) := by rw [Int.add_mul, hpi]; push_cast; omega
   have hpN : p + W ≤ NF := by rw [HF.out]; exact hp2
   have hp64 : p + W ≤ 64 := by omega
   have m1 : IntKind.i64.wrap ((k : Int) * (W : Int)) = (p : Int) := by rw [hpi]; exact IntWalk.i64_in _ (by omega)
   have a1 : IntKind.i64.wrap ((k : Int) + 1) = (k : Int) + 1 := IntWalk.i64_in _ (by omega)
   have m2 : IntKind.i64.wrap (((k : Int) + 1) * (W : Int)) = ((p + W : Nat) : Int) := by rw [hp1i]; exact IntWalk.i64_in _ (by omega)
   have HA := hID (HAND.out k p (cf - p) hlt hp)
   have HC := hID (HCN.out k)
   obtain ⟨q, hq⟩ : ∃ q, p + W = q := ⟨_, rfl⟩
   rw [hq] at m2 hpN
   have j0 : (0 : Int) ≤ (p : Int) := by omega
   have j1 : (p : Int) ≤ (q : Int) := by omega
   have j2 : (q : Int) ≤ (NF : Int) := by omega
   have j3 : (q : Int) ≤ (cf : Int) := by omega
   have j4 : (p : Int) ≤ (cf : Int) := by omega
   have j5 : ¬ cf = p := by omega
   have hsub : q - p = W := by omega
   have HHR : Hid (hitR F W X k = decide (0 < (onesN (andX W X (finL F W k))).length)) := hID rfl
   have HYES := hID (fun h => qkc (F := F) (W := W) (X := X) (k := k) h)
   have HNO := hID (fun h => qln (F := F) (W := W) (X := X) (k := k) h)
   have hll := qr3 F W X k
   clear hpi hp1i hp hq hp2
   go_wp2_with fail
   go_region_held3 (fun V => V.cell? ⟨w.heap.size, 0, none⟩ = some (.slice AI n ci) ∧ V.cell? ⟨w.heap.size, 1, none⟩ = some (.int .i64 (W : Int)) ∧ V.cell? ⟨w.heap.size, 4, none⟩ = some (.slice (some ⟨bf, of, none⟩) NF cf) ∧ V.cell? ⟨w.heap.size + 1, 0, none⟩ = some (.slice AX W cx))
    (first | with_reducible assumption | go_keep)
    (first
     | (go_at_call 84; (try rw [hsub]); refine (HA.out _ (HB0.out.1.also HO.out.2).drew).mono ?_; rintro e a1 ⟨u1, rfl, hr, o1⟩; have YA := hID ((HO.out.2.drew).also o1); have HO1 := hID (OwnL.off HO.out (oRf.drew.also o1)); have HR1 := hID hr.any; clear hr o1 c0 c1 c4 x0; obtain ⟨c0, c1, c4, x0⟩ := GC.out _ YA.out))
   go_wp2_with fail
   refine (HC.out _ _ HR1.out).mono ?_
   rintro e a2 ⟨rfl, o2⟩
   have HO2 := hID (HO1.out.off o2)
   have YB := hID (YA.out.also o2)
   clear o2 HO1 YA c0 c1 c4 x0 HC HA HAND HCN
   obtain ⟨c0, c1, c4, x0⟩ := GC.out _ YB.out
   revert HHR
   generalize (onesN (andX W X (finL F W k))).length = N
   intro HHR
   by_cases hz : 0 < N
   ·have dz : decide ((0 : Int) < (N : Int)) = true := dcT
    have HX := hID (HYES.out (by rw [HHR.out]; exact dT hz))
    obtain ⟨M, hM⟩ : ∃ M, qby F W X k = M := ⟨_, rfl⟩
    rw [hM] at hll HO2 HX ⊢
    have dzn : decide (0 < N) = true := dT hz
    clear hM hz HHR HYES HNO HO c0 c1 c4 x0
    obtain ⟨m, hm⟩ : ∃ m, M.length = m := ⟨_, rfl⟩
    have HM := hID hm
    rw [hm] at hll HO2 ⊢
    clear hm
    go_wp2_with (at_builtin; refine wpList_append_own_at _ rfl _ _ 22 rfl w0.heap.size 3 i0 (.int .i64 0) 1 8 Tryz.underlying22 hi hz0 hz1 hz2 rfl (by decide) (.slice AA m cq) m (natsV M) rfl (HO2.out.1.alloc _) ⟨a2.heap.size, 0, none⟩ 1 1 [.int .i64 (k : Int)] rfl rfl ?c1 ?c2 ?c3 ?c4 ?c5 ?_)
    case c1 => exact qb0 _ _ _
    case c2 => intro u hu; simp at hu; subst hu; rfl
    case c3 => unfold maxLen; omega
    case c4 => omega
    case c5 => have := HO2.out.2.size; simp; omega
    intro v' w4 hown' gW hnil hat
    have O4 : Hid (OwnL w0 w4 3 1 v' (M ++ [k]).length (natsV (M ++ [k]))) := hID (by
     have := HO2.out.grown (oAl oRf _) hown' gW
     rw [List.length_append, HM.out, qeo]
     exact this)
    clear hown' gW hnil hat HO2
    go_wp2_with fail
    go_roundw
    case rel => exact ⟨k + 1, hlt, by go_num, by rw [HX.out]; exact O4.out⟩
    case measure => simp [intOf]; omega
   ·have dz : decide ((0 : Int) < (N : Int)) = false := dcF
    have HX := hID (HNO.out (by rw [HHR.out]; exact dF hz))
    have dzn : decide (0 < N) = false := dF hz
    obtain rfl : N = 0 := by omega
    clear hz HHR HYES HNO HO c0 c1 c4 x0
    go_wp2_with fail
    go_roundw
    case rel => exact ⟨k + 1, hlt, by go_num, by rw [HX.out]; exact HO2.out⟩
    case measure => simp [intOf]; omega
  ·obtain rfl : k = n := by omega
   have d1 : decide ((k : Int) < (k : Int)) = false := dcF
   go_wp2_with fail
   go_ret
   exact ⟨_, rfl, qia HB0.out.1.size HO.out.1, HB0.out.1.also HO.out.2⟩
theorem qua (ids : List Int) (W : Nat) (T S F : List Nat) (hok : qaf ids (W : Int) T S F = 0) (w : World) (VI VT VS VF : Value) (hs : SetV w VI VT VS VF ids (W : Int) T S F) :
  Calls Tryz.prog 13 #[.agg #[VI, .int .i64 (W : Int), VT, VS, VF]] w (fun e w' => ∃ u, e = .returned (.tuple #[.agg #[u, .int .i64 0], .int .i64 0]) ∧ Rd w' (fun k => w.heap.size ≤ k) 1 u W (qab (List.replicate W 0)) ∧ Off Nob w w') := by
 obtain ⟨i0, hi, hz0, hz1, hz2⟩ := info_parts Tryz.infoU64
 obtain ⟨hi1, hi16, _, ⟨Wx, hWx, w1, w4, hlt, hls, hlf, hpl⟩, _⟩ := qa8 hok
 obtain rfl : W = Wx := by omega
 have HCK := hID (fun (V : World) (oV : Off Nob w V) => qpt ids (W : Int) T S F V VI VT VS VF (hs.keep oV))
 have HOK := hID hok
 clear hs hok hlt hls hlf hpl hWx
 go_enter Tryz.func13, Tryz.ntmps13
 have HB0 : Hid (Off Nob w ((w.alloc (.cells #[VI, .int .i64 (W : Int), VT, VS, VF] 25)).alloc (.cells #[.slice none 0 0, .int .i64 0] 27)) ∧ Blk ((w.alloc (.cells #[VI, .int .i64 (W : Int), VT, VS, VF] 25)).alloc (.cells #[.slice none 0 0, .int .i64 0] 27)) w.heap.size 25 #[VI, .int .i64 (W : Int), VT, VS, VF] ∧ Blk ((w.alloc (.cells #[VI, .int .i64 (W : Int), VT, VS, VF] 25)).alloc (.cells #[.slice none 0 0, .int .i64 0] 27)) (w.heap.size + 1) 27 #[.slice none 0 0, .int .i64 0]) := hID ⟨(oRf.alloc _).alloc _, (Blk.new _ _ _).alloc _, qal _ _ _ _⟩
 go_wp2_with fail
 revert HB0
 generalize ((w.alloc (.cells #[VI, .int .i64 (W : Int), VT, VS, VF] 25)).alloc (.cells #[.slice none 0 0, .int .i64 0] 27)) = w0
 intro HB0
 have GC : Hid (∀ V, Off Nob w0 V → V.cell? ⟨w.heap.size, 0, none⟩ = some (VI) ∧ V.cell? ⟨w.heap.size, 1, none⟩ = some (.int .i64 (W : Int)) ∧ V.cell? ⟨w.heap.size, 2, none⟩ = some (VT) ∧ V.cell? ⟨w.heap.size, 3, none⟩ = some (VS) ∧ V.cell? ⟨w.heap.size, 4, none⟩ = some (VF)) := hID (fun V ho => by
  have h := HB0.out.2.1.to (ho.block _ HB0.out.2.1.lt id)
  exact ⟨h.cell 0, h.cell 1, h.cell 2, h.cell 3, h.cell 4⟩)
 obtain ⟨c0, c1, c2, c3, c4⟩ := GC.out _ oRf
 go_wp2_with fail
 refine (HCK.out _ HB0.out.1).mono ?_
 rintro e w1 ⟨rfl, o1⟩
 rw [HOK.out]
 have Y1 := hID o1
 clear o1 c0 c1 c2 c3 c4 HCK
 obtain ⟨c0, c1, c2, c3, c4⟩ := GC.out _ Y1.out
 go_wp2_with (at_make; refine wpList_make_full _ rfl _ _ 23 rfl w1.heap.size 71 i0 (.int .u64 0) 1 Tryz.underlying23 hi hz0 hz1 .i64 .i64 _ _ W rfl rfl rfl rfl (by rw [hz2]; omega) (by unfold maxLen; omega) (Nat.le_refl _) ?_; intro w2 oW gW; have Y2 := hID (Y1.out.also (Off.grown (Off.refl Nob w1) gW (fun k hk => by cases hk))); have HBZ := hID (HB0.out.2.2.to (Y2.out.block _ HB0.out.2.2.lt id)); have f0 := HBZ.out.frozen 0; have f1 := HBZ.out.frozen 1; have z0 := HBZ.out.cell 0; have z1 := HBZ.out.cell 1)
 rw [qdz] at oW
 have X1 : Hid (Rd w2 (fun k => w1.heap.size ≤ k) 1 (.slice (some ⟨w1.heap.size, 0, none⟩) W W) W (qab (List.replicate W 0)) ∧ Off Nob w1 w2) := hID ⟨by rw [show qab (List.replicate W 0) = List.replicate W (.int .u64 0) by simp [qab]]; exact Rd.own oW (fun k hk => (oW.lt k hk).1), Off.grown oRf gW (fun k hk => by cases hk)⟩
 clear oW gW c0 c1 c2 c3 c4
 have XE := hID ((HBZ.out.put 0 (.slice (some ⟨w1.heap.size, 0, none⟩) W W)).put 1 (.int .i64 0))
 have OE : Off (fun j => j = w.heap.size + 1) w2 ((w2.setCell ⟨w.heap.size + 1, 0, none⟩ (.slice (some ⟨w1.heap.size, 0, none⟩) W W)).setCell ⟨w.heap.size + 1, 1, none⟩ (.int .i64 0)) := Off.put (F := fun j => j = w.heap.size + 1) (Off.put (F := fun j => j = w.heap.size + 1) oRf (.inl rfl) _) (.inl rfl) _
 have hlt2 := HB0.out.2.2.lt
 have hsz := Y1.out.size
 exact bodyPost_ret (qac rfl _ _ _ _ _ (0, 0) _ rfl XE.out Tryz.underlying27 rfl Tryz.infoSs) rfl ⟨_, rfl, (X1.out.1.keep OE (fun j hj he => by omega)).mono (fun j hj => by omega), ((HB0.out.1.also Y2.out).put (p := ⟨w.heap.size + 1, 0, none⟩) (.inr (Nat.le_add_right _ _)) _).put (p := ⟨w.heap.size + 1, 1, none⟩) (.inr (Nat.le_add_right _ _)) _⟩
end
end Go.Proofs.YtlgjaefcfnndhaaGreatDoor
