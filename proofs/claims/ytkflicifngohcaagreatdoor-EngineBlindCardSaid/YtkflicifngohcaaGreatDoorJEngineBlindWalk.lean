/-
  dragnetlaw21.EngineBlind returns true.
-/
import Derived.Test.YtkflicifngohcaaGreatDoorJ49
import Derived.Deep.RegionHeld3
import Derived.IntWalk
import Derived.Test.YtkflicifngohcaaGreatDoorJ40
namespace Go.Proofs.YtkflicifngohcaaGreatDoor
open Go.RowKit
set_option linter.unusedVariables false
set_option linter.unusedSimpArgs false
set_option maxRecDepth 100000
theorem row_ok (a b : Nat) (a1 : 1 ≤ a) (a4 : a ≤ 4) (b1 : 1 ≤ b) (b16 : b ≤ 16) (w : World) : Calls Tryz.prog 13 #[.int .i64 a, .int .i64 b, .int .i64 0] w fun e w' => e = .returned (.tuple #[.agg #[.int .i64 (rowN a b).a, .int .i64 (rowN a b).b, .int .i64 (rowN a b).t, .int .i64 (rowN a b).s, .int .i64 (rowN a b).f, .int .i64 (rowN a b).st, .int .i64 (rowN a b).n, .int .i64 (rowN a b).h], .int .i64 (rowZ a b)]) ∧ Off Nob w w' := by
  refine (rrow a b 0 (by omega) (by omega) (by omega) (by omega) (by omega) (by omega) w).mono ?_
  rintro e w' ⟨rfl, o⟩
  refine ⟨?_, o⟩
  simp [layV, rowN, rowZ]
set_option maxHeartbeats 4000000 in
theorem engineBlind_ok {w : World} (hZ : TzT w) (a0 b0 : Int) (ha : 0 ≤ a0 ∧ a0 ≤ 255) (hb : 0 ≤ b0 ∧ b0 ≤ 255) (x0 m0 x1 m1 : BitVec 64) (A0 A1 : Option Addr) (n0 n1 c0 c1 : Nat) (L0 L1 : List (BitVec 64)) (r0 : Rd w (fun _ => True) 1 (.slice A0 n0 c0) n0 (u64s L0)) (r1 : Rd w (fun _ => True) 1 (.slice A1 n1 c1) n1 (u64s L1)) (hn0 : L0.length = n0) (hn1 : L1.length = n1) (g0 : n0 ≤ 400) (g1 : n1 ≤ 400) :
    Calls Tryz.prog 7 #[.int .u8 a0, .int .u8 b0, .agg #[.int .u64 (n64 x0), .int .u64 (n64 m0), .slice A0 n0 c0, .int .u64 (n64 x1), .int .u64 (n64 m1), .slice A1 n1 c1]] w fun e w' => e = .returned (.bool true) ∧ Off Nob w w' := by
  subst hn0 hn1
  have X0 : Hid (Off Nob w (w.alloc (.cells #[.int .u64 (n64 x0), .int .u64 (n64 m0), .slice A0 L0.length c0, .int .u64 (n64 x1), .int .u64 (n64 m1), .slice A1 L1.length c1] 75)) ∧ Blk (w.alloc (.cells #[.int .u64 (n64 x0), .int .u64 (n64 m0), .slice A0 L0.length c0, .int .u64 (n64 x1), .int .u64 (n64 m1), .slice A1 L1.length c1] 75)) w.heap.size 75 #[.int .u64 (n64 x0), .int .u64 (n64 m0), .slice A0 L0.length c0, .int .u64 (n64 x1), .int .u64 (n64 m1), .slice A1 L1.length c1]) := Lib.hid ⟨(Off.refl _ _).alloc _, Blk.new _ _ _⟩
  have HZ := Lib.hid hZ
  have HR := Lib.hid (And.intro r0 r1)
  clear hZ r0 r1
  obtain ⟨ha1, ha2⟩ := ha
  obtain ⟨hb1, hb2⟩ := hb
  obtain ⟨a, hA⟩ : ∃ a : Nat, a0 % 4 + 1 = (a : Int) := ⟨(a0 % 4 + 1).toNat, by omega⟩
  obtain ⟨b, hB⟩ : ∃ b : Nat, b0 % 16 + 1 = (b : Int) := ⟨(b0 % 16 + 1).toNat, by omega⟩
  have HAB : Hid (1 ≤ a ∧ a ≤ 4 ∧ 1 ≤ b ∧ b ≤ 16) := Lib.hid ⟨by omega, by omega, by omega, by omega⟩
  have d0 : decide ((400 : Int) < (L0.length : Int)) = false := decide_eq_false (by omega)
  have d1 : decide ((400 : Int) < (L1.length : Int)) = false := decide_eq_false (by omega)
  have q0 := X0.out.2.cell 2
  have q1 := X0.out.2.cell 5
  go_enter Tryz.func7, Tryz.ntmps7
  go_wp2_with fail
  revert X0 q0 q1
  generalize (w.alloc (.cells #[.int .u64 (n64 x0), .int .u64 (n64 m0), .slice A0 L0.length c0, .int .u64 (n64 x1), .int .u64 (n64 m1), .slice A1 L1.length c1] 75)) = w0
  intro X0 q0 q1
  have HROW := Lib.hid (row_ok a b HAB.out.1 HAB.out.2.1 HAB.out.2.2.1 HAB.out.2.2.2 w0)
  have HLI := Lib.hid (And.intro (rowN_in a b HAB.out.1 HAB.out.2.1 HAB.out.2.2.1 HAB.out.2.2.2) (And.intro (rowN_ok a b HAB.out.1 HAB.out.2.1 HAB.out.2.2.1 HAB.out.2.2.2) (And.intro (rowZ_le a b HAB.out.2.1 HAB.out.2.2.2) (show 1 ≤ rowZ a b by have := HAB.out.1; unfold rowZ; omega))))
  revert HROW HLI
  generalize rowN a b = l
  generalize rowZ a b = Z
  intro HROW HLI
  refine HROW.out.mono ?_
  rintro e w1 ⟨rfl, o1⟩
  have X1 : Hid (Off Nob w (w1.alloc (.cells #[.int .i64 l.a, .int .i64 l.b, .int .i64 l.t, .int .i64 l.s, .int .i64 l.f, .int .i64 l.st, .int .i64 l.n, .int .i64 l.h] 33)) ∧ Blk (w1.alloc (.cells #[.int .i64 l.a, .int .i64 l.b, .int .i64 l.t, .int .i64 l.s, .int .i64 l.f, .int .i64 l.st, .int .i64 l.n, .int .i64 l.h] 33)) w.heap.size 75 #[.int .u64 (n64 x0), .int .u64 (n64 m0), .slice A0 L0.length c0, .int .u64 (n64 x1), .int .u64 (n64 m1), .slice A1 L1.length c1] ∧ Blk (w1.alloc (.cells #[.int .i64 l.a, .int .i64 l.b, .int .i64 l.t, .int .i64 l.s, .int .i64 l.f, .int .i64 l.st, .int .i64 l.n, .int .i64 l.h] 33)) w1.heap.size 33 #[.int .i64 l.a, .int .i64 l.b, .int .i64 l.t, .int .i64 l.s, .int .i64 l.f, .int .i64 l.st, .int .i64 l.n, .int .i64 l.h]) := Lib.hid ⟨(X0.out.1.also o1).alloc _, (X0.out.2.to (o1.block _ X0.out.2.lt id)).alloc _, Blk.new _ _ _⟩
  clear o1 q0 q1 HROW
  have e0 := X1.out.2.2.cell 0
  have e1 := X1.out.2.2.cell 1
  go_wp2_with fail
  obtain ⟨lb, hlb⟩ : ∃ lb, w1.heap.size = lb := ⟨_, rfl⟩
  rw [hlb] at X1 ⊢
  clear hlb e0 e1
  revert X1
  generalize (w1.alloc (.cells #[.int .i64 l.a, .int .i64 l.b, .int .i64 l.t, .int .i64 l.s, .int .i64 l.f, .int .i64 l.st, .int .i64 l.n, .int .i64 l.h] 33)) = u0
  intro X1
  have HST : Hid (∃ bt : Int, (∀ W, Calls Tryz.prog 27 #[.int .i64 l.a, .int .i64 l.b] W fun e w' => e = .returned (.tuple #[.int .i64 (258 * l.a + l.b * l.a), .int .i64 bt, .int .i64 0]) ∧ W = w') ∧ bt = ((byE l []).length : Int)) := Lib.hid ⟨261 * l.a + l.b * (2 * l.a + 1), fun W => nsteps_yes l.a l.b (by have := HLI.out.1.a1; omega) (by have := HLI.out.1.a4; omega) (by have := HLI.out.1.b1; omega) (by have := HLI.out.1.b16; omega) W, by rw [byE_len]; push_cast; simp; omega⟩
  obtain ⟨bt, hst, hbt⟩ := HST.out
  refine (hst _).mono ?_
  clear hst HST
  rintro e w' ⟨rfl, rfl⟩
  rw [hbt]
  clear hbt
  obtain ⟨T, hT⟩ : ∃ T, byE l [] = T := ⟨_, rfl⟩
  rw [hT]
  have HT : Hid (byE l [] = T ∧ 1 ≤ T.length ∧ T.length ≤ 8000) := Lib.hid ⟨hT, by rw [← hT, byE_len]; have := HLI.out.1.a1; omega, by rw [← hT, byE_len]; have h1 := HLI.out.1.a4; have h2 := Nat.mul_le_mul HLI.out.1.b16 (show 2 * l.a + 1 ≤ 9 by omega); simp; omega⟩
  clear hT
  go_wp2_with fail
  have X2 : Hid (Off Nob u0 (u0.alloc (.cells #[.slice none 0 0, .slice none 0 0] 77)) ∧ Blk (u0.alloc (.cells #[.slice none 0 0, .slice none 0 0] 77)) u0.heap.size 77 #[.slice none 0 0, .slice none 0 0]) := Lib.hid ⟨(Off.refl _ _).alloc _, Blk.new _ _ _⟩
  obtain ⟨tb, htb⟩ : ∃ tb, u0.heap.size = tb := ⟨_, rfl⟩
  have HTB := Lib.hid htb
  rw [htb] at X2 ⊢
  clear htb
  revert X2
  generalize (u0.alloc (.cells #[.slice none 0 0, .slice none 0 0] 77)) = y0
  intro X2
  have Y0 := Lib.hid X2.out.1
  have TB0 := Lib.hid X2.out.2
  clear X2
  refine wp_loop_rounds 3 ?_
  have GC : Hid (∀ W, Off Nob u0 W → W.cell? ⟨w.heap.size, 0, none⟩ = some (.int .u64 (n64 x0)) ∧ W.cell? ⟨w.heap.size, 1, none⟩ = some (.int .u64 (n64 m0)) ∧ W.cell? ⟨w.heap.size, 2, none⟩ = some (.slice A0 L0.length c0) ∧ W.cell? ⟨w.heap.size, 3, none⟩ = some (.int .u64 (n64 x1)) ∧ W.cell? ⟨w.heap.size, 4, none⟩ = some (.int .u64 (n64 m1)) ∧ W.cell? ⟨w.heap.size, 5, none⟩ = some (.slice A1 L1.length c1) ∧ W.cell? ⟨lb, 0, none⟩ = some (.int .i64 l.a) ∧ W.cell? ⟨lb, 1, none⟩ = some (.int .i64 l.b) ∧ W.cell? ⟨lb, 2, none⟩ = some (.int .i64 l.t) ∧ W.cell? ⟨lb, 3, none⟩ = some (.int .i64 l.s) ∧ W.cell? ⟨lb, 4, none⟩ = some (.int .i64 l.f) ∧ W.cell? ⟨lb, 5, none⟩ = some (.int .i64 l.st) ∧ W.cell? ⟨lb, 6, none⟩ = some (.int .i64 l.n) ∧ W.cell? ⟨lb, 7, none⟩ = some (.int .i64 l.h)) := Lib.hid (fun W o => by
    have h1 := X1.out.2.1.to (o.block _ X1.out.2.1.lt id)
    have h2 := X1.out.2.2.to (o.block _ X1.out.2.2.lt id)
    exact ⟨h1.cell 0, h1.cell 1, h1.cell 2, h1.cell 3, h1.cell 4, h1.cell 5, h2.cell 0, h2.cell 1, h2.cell 2, h2.cell 3, h2.cell 4, h2.cell 5, h2.cell 6, h2.cell 7⟩)
  rw [rounds_succ]
  obtain ⟨x_0, x_1, x_2, x_3, x_4, x_5, l_0, l_1, l_2, l_3, l_4, l_5, l_6, l_7⟩ := GC.out _ (Y0.out)
  have hb0 : Hid (∀ V, Off Nob u0 V → Calls Tryz.prog 21 #[.int .i64 Z, .int .i64 ((Z : Int) - (L0.length : Int)), .slice A0 L0.length c0] V fun e w' => ∃ p r C E, e = .returned (.tuple #[.pointer (some ⟨p, 0, none⟩), .pointer (some ⟨r, 0, none⟩)]) ∧ Both V w' p r C E ∧ C.length = Z ∧ E.length ≤ L0.length) := Lib.hid (fun V o => both_any Z HLI.out.2.2.2 (by have := HLI.out.2.2.1; omega) _ (by have := HLI.out.2.2.1; omega) L0 g0 V _ (HR.out.1.keepT (X1.out.1.also o)))
  have ws : IntKind.i64.wrap ((Z : Int) - (L0.length : Int)) = (Z : Int) - (L0.length : Int) := IntWalk.i64_in _ (by have := HLI.out.2.2.1; omega)
  go_wp2_with fail
  go_region_held3 (fun W => W.cell? ⟨w.heap.size, 2, none⟩ = some (.slice A0 L0.length c0))
    (first | with_reducible assumption | go_keep)
    (first
      | (go_at_call 21; refine (hb0.out _ Y0.out.drew).mono ?_; rintro e a0 ⟨p0, r0, C0, E0, rfl, hq, hcn, hen⟩; have B0 := Lib.hid (And.intro hq (And.intro hcn hen)); clear hq hcn hen ws hb0 x_0 x_1 x_2 x_3 x_4 x_5 l_0 l_1 l_2 l_3 l_4 l_5 l_6 l_7; obtain ⟨x_0, x_1, x_2, x_3, x_4, x_5, l_0, l_1, l_2, l_3, l_4, l_5, l_6, l_7⟩ := GC.out _ (Y0.out.drew.also B0.out.1.old)))
  obtain ⟨F0, har, hct⟩ := B0.out.1.ar
  have AR0 := Lib.hid (And.intro har hct)
  clear har hct
  go_wp2_with fail
  refine (steps_any AR0.out.1).mono ?_
  rintro e w' ⟨rfl, rfl⟩
  go_wp2_with fail
  have HBY0 : Hid (Calls Tryz.prog 16 #[.pointer (some ⟨p0, 0, none⟩), .agg #[.int .i64 l.a, .int .i64 l.b, .int .i64 l.t, .int .i64 l.s, .int .i64 l.f, .int .i64 l.st, .int .i64 l.n, .int .i64 l.h], .int .u64 (n64 x0), .int .u64 (n64 (ofM m0))] a0.drew fun e w' => e = .returned (.int .i64 0) ∧ ArTo a0 F0 p0 (byC l x0 (ofM m0) C0) (byE l E0) w') := Lib.hid (by
    have h2 := HLI.out.1.a4
    have h3 := Nat.mul_le_mul HLI.out.1.b16 (show 2 * l.a + 1 ≤ 9 by omega)
    have h4 := B0.out.2.2
    have hm : isM (ofM m0) = true := by unfold ofM; exact isM_msk _
    refine (nbyte_any l x0 (ofM m0) hm a0.drew F0 p0 C0 E0 AR0.out.1.drew (by rw [B0.out.2.1]; exact HLI.out.2.1) (by rw [B0.out.2.1]; exact HLI.out.1) (by omega)).mono ?_
    rintro e w' ⟨rfl, z⟩
    exact ⟨rfl, ArTo.pre AR0.out.1 (Off.drew (Off.refl _ _)) z⟩)
  go_region_held3 (fun W => W.cell? ⟨w.heap.size, 0, none⟩ = some (.int .u64 (n64 x0)) ∧ W.cell? ⟨w.heap.size, 1, none⟩ = some (.int .u64 (n64 m0)) ∧ W.cell? ⟨lb, 0, none⟩ = some (.int .i64 l.a) ∧ W.cell? ⟨lb, 1, none⟩ = some (.int .i64 l.b) ∧ W.cell? ⟨lb, 2, none⟩ = some (.int .i64 l.t) ∧ W.cell? ⟨lb, 3, none⟩ = some (.int .i64 l.s) ∧ W.cell? ⟨lb, 4, none⟩ = some (.int .i64 l.f) ∧ W.cell? ⟨lb, 5, none⟩ = some (.int .i64 l.st) ∧ W.cell? ⟨lb, 6, none⟩ = some (.int .i64 l.n) ∧ W.cell? ⟨lb, 7, none⟩ = some (.int .i64 l.h))
    (first | with_reducible assumption | go_keep)
    (first
      | (go_at_call 33; refine (rof_any m0 _).mono ?_; rintro e w' ⟨rfl, rfl⟩)
      | (go_at_call 16; refine HBY0.out.mono ?_; rintro e d0 ⟨rfl, z⟩; have Z0 := Lib.hid z; clear z HBY0 x_0 x_1 x_2 x_3 x_4 x_5 l_0 l_1 l_2 l_3 l_4 l_5 l_6 l_7; obtain ⟨x_0, x_1, x_2, x_3, x_4, x_5, l_0, l_1, l_2, l_3, l_4, l_5, l_6, l_7⟩ := GC.out _ (Y0.out.drew.also (AR0.out.2 _ _ _ Z0.out).old)))
  have HSI0 : Hid (Calls Tryz.prog 34 #[.pointer (some ⟨p0, 0, none⟩), .int .i64 E0.length] d0 (NewE2 d0 T)) := Lib.hid (by
    have h := since_ok Z0.out.1 E0.length (by rw [byE_len]; omega)
    rw [byE_drop, HT.out.1] at h
    exact h)
  go_wp2_with fail
  refine HSI0.out.mono ?_
  rintro e s0 ⟨u, rfl, hu, o3⟩
  have hu2 := Rd.own (F := fun k => d0.heap.size ≤ k) hu (fun k hk => (hu.lt k hk).1)
  obtain ⟨Au, cq0, rfl, _, _, hc3⟩ := hu2
  obtain ⟨bq0, oq0, rfl, hf3, hl3, hx3⟩ := hc3 (by have := HT.out.2.1; omega)
  have QS0 := Lib.hid (((Off.drew (Off.refl Nob y0)).also (AR0.out.2 _ _ _ Z0.out).old).also o3)
  have YS0 := Lib.hid (Y0.out.also QS0.out)
  have tlt : tb < d0.heap.size := Nat.lt_of_lt_of_le TB0.out.lt ((Off.drew (Off.refl Nob y0)).also (AR0.out.2 _ _ _ Z0.out).old).size
  have TS0 := Lib.hid (TB0.out.to (QS0.out.block _ TB0.out.lt id))
  have RL0 : Hid (∀ W, Off (fun k => k = tb) s0 W → ∀ j v, (evs T)[j]? = some v → W.cell? ⟨bq0, oq0 + j, none⟩ = some v) := Lib.hid (fun W o j v hv => (World.cell?_of_block (a := ⟨bq0, oq0 + j, none⟩) (o.block bq0 hl3 (by omega))).trans (hx3 j v hv))
  clear hu o3 hc3 hf3 hl3 hx3 tlt HSI0
  clear x_0 x_1 x_2 x_3 x_4 x_5 l_0 l_1 l_2 l_3 l_4 l_5 l_6 l_7
  have tc := TS0.out.cell 0
  have tf := TS0.out.frozen 0
  have TB1 : Hid (Blk (s0.setCell ⟨tb, 0, none⟩ (.slice (some ⟨bq0, oq0, none⟩) T.length cq0)) tb 77 #[.slice (some ⟨bq0, oq0, none⟩) T.length cq0, .slice none 0 0]) := Lib.hid (TS0.out.put 0 _)
  have OC0 := Lib.hid (off_cell s0 ⟨tb, 0, none⟩ (.slice (some ⟨bq0, oq0, none⟩) T.length cq0))
  have Y1 := Lib.hid (YS0.out.put (p := ⟨tb, 0, none⟩) (.inr (by rw [HTB.out]; exact Nat.le_refl _)) (.slice (some ⟨bq0, oq0, none⟩) T.length cq0))
  have tn := TB1.out.cell 0
  go_wp2_with fail
  clear tc tf tn
  revert TB1 OC0 Y1
  generalize s0.setCell ⟨tb, 0, none⟩ (.slice (some ⟨bq0, oq0, none⟩) T.length cq0) = y1
  intro TB1 OC0 Y1
  rw [rounds_succ]
  obtain ⟨x_0, x_1, x_2, x_3, x_4, x_5, l_0, l_1, l_2, l_3, l_4, l_5, l_6, l_7⟩ := GC.out _ (Y1.out)
  have hb1 : Hid (∀ V, Off Nob u0 V → Calls Tryz.prog 21 #[.int .i64 Z, .int .i64 ((Z : Int) - (L1.length : Int)), .slice A1 L1.length c1] V fun e w' => ∃ p r C E, e = .returned (.tuple #[.pointer (some ⟨p, 0, none⟩), .pointer (some ⟨r, 0, none⟩)]) ∧ Both V w' p r C E ∧ C.length = Z ∧ E.length ≤ L1.length) := Lib.hid (fun V o => both_any Z HLI.out.2.2.2 (by have := HLI.out.2.2.1; omega) _ (by have := HLI.out.2.2.1; omega) L1 g1 V _ (HR.out.2.keepT (X1.out.1.also o)))
  have ws : IntKind.i64.wrap ((Z : Int) - (L1.length : Int)) = (Z : Int) - (L1.length : Int) := IntWalk.i64_in _ (by have := HLI.out.2.2.1; omega)
  go_wp2_with fail
  go_region_held3 (fun W => W.cell? ⟨w.heap.size, 5, none⟩ = some (.slice A1 L1.length c1))
    (first | with_reducible assumption | go_keep)
    (first
      | (go_at_call 21; refine (hb1.out _ Y1.out.drew).mono ?_; rintro e a1 ⟨p1, r1, C1, E1, rfl, hq, hcn, hen⟩; have B1 := Lib.hid (And.intro hq (And.intro hcn hen)); clear hq hcn hen ws hb1 x_0 x_1 x_2 x_3 x_4 x_5 l_0 l_1 l_2 l_3 l_4 l_5 l_6 l_7; obtain ⟨x_0, x_1, x_2, x_3, x_4, x_5, l_0, l_1, l_2, l_3, l_4, l_5, l_6, l_7⟩ := GC.out _ (Y1.out.drew.also B1.out.1.old)))
  obtain ⟨F1, har, hct⟩ := B1.out.1.ar
  have AR1 := Lib.hid (And.intro har hct)
  clear har hct
  go_wp2_with fail
  refine (steps_any AR1.out.1).mono ?_
  rintro e w' ⟨rfl, rfl⟩
  go_wp2_with fail
  have HBY1 : Hid (Calls Tryz.prog 16 #[.pointer (some ⟨p1, 0, none⟩), .agg #[.int .i64 l.a, .int .i64 l.b, .int .i64 l.t, .int .i64 l.s, .int .i64 l.f, .int .i64 l.st, .int .i64 l.n, .int .i64 l.h], .int .u64 (n64 x1), .int .u64 (n64 (ofM m1))] a1.drew fun e w' => e = .returned (.int .i64 0) ∧ ArTo a1 F1 p1 (byC l x1 (ofM m1) C1) (byE l E1) w') := Lib.hid (by
    have h2 := HLI.out.1.a4
    have h3 := Nat.mul_le_mul HLI.out.1.b16 (show 2 * l.a + 1 ≤ 9 by omega)
    have h4 := B1.out.2.2
    have hm : isM (ofM m1) = true := by unfold ofM; exact isM_msk _
    refine (nbyte_any l x1 (ofM m1) hm a1.drew F1 p1 C1 E1 AR1.out.1.drew (by rw [B1.out.2.1]; exact HLI.out.2.1) (by rw [B1.out.2.1]; exact HLI.out.1) (by omega)).mono ?_
    rintro e w' ⟨rfl, z⟩
    exact ⟨rfl, ArTo.pre AR1.out.1 (Off.drew (Off.refl _ _)) z⟩)
  go_region_held3 (fun W => W.cell? ⟨w.heap.size, 3, none⟩ = some (.int .u64 (n64 x1)) ∧ W.cell? ⟨w.heap.size, 4, none⟩ = some (.int .u64 (n64 m1)) ∧ W.cell? ⟨lb, 0, none⟩ = some (.int .i64 l.a) ∧ W.cell? ⟨lb, 1, none⟩ = some (.int .i64 l.b) ∧ W.cell? ⟨lb, 2, none⟩ = some (.int .i64 l.t) ∧ W.cell? ⟨lb, 3, none⟩ = some (.int .i64 l.s) ∧ W.cell? ⟨lb, 4, none⟩ = some (.int .i64 l.f) ∧ W.cell? ⟨lb, 5, none⟩ = some (.int .i64 l.st) ∧ W.cell? ⟨lb, 6, none⟩ = some (.int .i64 l.n) ∧ W.cell? ⟨lb, 7, none⟩ = some (.int .i64 l.h))
    (first | with_reducible assumption | go_keep)
    (first
      | (go_at_call 33; refine (rof_any m1 _).mono ?_; rintro e w' ⟨rfl, rfl⟩)
      | (go_at_call 16; refine HBY1.out.mono ?_; rintro e d1 ⟨rfl, z⟩; have Z1 := Lib.hid z; clear z HBY1 x_0 x_1 x_2 x_3 x_4 x_5 l_0 l_1 l_2 l_3 l_4 l_5 l_6 l_7; obtain ⟨x_0, x_1, x_2, x_3, x_4, x_5, l_0, l_1, l_2, l_3, l_4, l_5, l_6, l_7⟩ := GC.out _ (Y1.out.drew.also (AR1.out.2 _ _ _ Z1.out).old)))
  have HSI1 : Hid (Calls Tryz.prog 34 #[.pointer (some ⟨p1, 0, none⟩), .int .i64 E1.length] d1 (NewE2 d1 T)) := Lib.hid (by
    have h := since_ok Z1.out.1 E1.length (by rw [byE_len]; omega)
    rw [byE_drop, HT.out.1] at h
    exact h)
  go_wp2_with fail
  refine HSI1.out.mono ?_
  rintro e s1 ⟨u, rfl, hu, o3⟩
  have hu2 := Rd.own (F := fun k => d1.heap.size ≤ k) hu (fun k hk => (hu.lt k hk).1)
  obtain ⟨Au, cq1, rfl, _, _, hc3⟩ := hu2
  obtain ⟨bq1, oq1, rfl, hf3, hl3, hx3⟩ := hc3 (by have := HT.out.2.1; omega)
  have QS1 := Lib.hid (((Off.drew (Off.refl Nob y1)).also (AR1.out.2 _ _ _ Z1.out).old).also o3)
  have YS1 := Lib.hid (Y1.out.also QS1.out)
  have tlt : tb < d1.heap.size := Nat.lt_of_lt_of_le TB1.out.lt ((Off.drew (Off.refl Nob y1)).also (AR1.out.2 _ _ _ Z1.out).old).size
  have TS1 := Lib.hid (TB1.out.to (QS1.out.block _ TB1.out.lt id))
  have RL1 : Hid (∀ W, Off (fun k => k = tb) s1 W → ∀ j v, (evs T)[j]? = some v → W.cell? ⟨bq1, oq1 + j, none⟩ = some v) := Lib.hid (fun W o j v hv => (World.cell?_of_block (a := ⟨bq1, oq1 + j, none⟩) (o.block bq1 hl3 (by omega))).trans (hx3 j v hv))
  clear hu o3 hc3 hf3 hl3 hx3 tlt HSI1
  clear x_0 x_1 x_2 x_3 x_4 x_5 l_0 l_1 l_2 l_3 l_4 l_5 l_6 l_7
  have tc := TS1.out.cell 1
  have tf := TS1.out.frozen 1
  have TB2 : Hid (Blk (s1.setCell ⟨tb, 1, none⟩ (.slice (some ⟨bq1, oq1, none⟩) T.length cq1)) tb 77 #[.slice (some ⟨bq0, oq0, none⟩) T.length cq0, .slice (some ⟨bq1, oq1, none⟩) T.length cq1]) := Lib.hid (TS1.out.put 1 _)
  have OC1 := Lib.hid (off_cell s1 ⟨tb, 1, none⟩ (.slice (some ⟨bq1, oq1, none⟩) T.length cq1))
  have Y2 := Lib.hid (YS1.out.put (p := ⟨tb, 1, none⟩) (.inr (by rw [HTB.out]; exact Nat.le_refl _)) (.slice (some ⟨bq1, oq1, none⟩) T.length cq1))
  have tn := TB2.out.cell 1
  go_wp2_with fail
  clear tc tf tn
  revert TB2 OC1 Y2
  generalize s1.setCell ⟨tb, 1, none⟩ (.slice (some ⟨bq1, oq1, none⟩) T.length cq1) = y2
  intro TB2 OC1 Y2
  rw [rounds_succ]
  have t0 := TB2.out.cell 0
  have t1 := TB2.out.cell 1
  go_wp2_with fail
  have HSE := Lib.hid (sameEvents_some y2 bq0 oq0 cq0 bq1 oq1 cq1 T.length T T rfl rfl (by have := HT.out.2.2; unfold maxLen; omega) (RL0.out y2 ((OC0.out.also (Off.ofNob QS1.out)).also OC1.out)) (RL1.out y2 OC1.out))
  have hse : sameEB T T = true := by unfold sameEB; simp
  rw [hse] at HSE
  refine HSE.out.mono ?_
  rintro e y3 ⟨rfl, o3⟩
  have Y3 := Lib.hid (Y2.out.also o3)
  clear o3
  go_wp2_with fail
  refine (shown_true _ (tz_keep HZ.out (X1.out.1.also Y3.out))).mono ?_
  rintro e y4 ⟨rfl, o4⟩
  have Y4 := Lib.hid ((X1.out.1.also Y3.out).also o4)
  clear o4
  go_wp2_with fail
  go_ret
  exact ⟨rfl, Y4.out⟩
theorem engineBlind_long0 {w : World} (hZ : TzT w) (a0 b0 : Int) (x0 m0 x1 m1 : BitVec 64) (A0 A1 : Option Addr) (n0 n1 c0 c1 : Nat) (h : 400 < n0) :
    Calls Tryz.prog 7 #[.int .u8 a0, .int .u8 b0, .agg #[.int .u64 (n64 x0), .int .u64 (n64 m0), .slice A0 n0 c0, .int .u64 (n64 x1), .int .u64 (n64 m1), .slice A1 n1 c1]] w fun e w' => e = .returned (.bool true) ∧ Off Nob w w' := by
  have X0 : Hid (Off Nob w (w.alloc (.cells #[.int .u64 (n64 x0), .int .u64 (n64 m0), .slice A0 n0 c0, .int .u64 (n64 x1), .int .u64 (n64 m1), .slice A1 n1 c1] 75)) ∧ Blk (w.alloc (.cells #[.int .u64 (n64 x0), .int .u64 (n64 m0), .slice A0 n0 c0, .int .u64 (n64 x1), .int .u64 (n64 m1), .slice A1 n1 c1] 75)) w.heap.size 75 #[.int .u64 (n64 x0), .int .u64 (n64 m0), .slice A0 n0 c0, .int .u64 (n64 x1), .int .u64 (n64 m1), .slice A1 n1 c1]) := Lib.hid ⟨(Off.refl _ _).alloc _, Blk.new _ _ _⟩
  have HS := Lib.hid (shown_true _ (tz_keep hZ X0.out.1))
  have d0 : decide ((400 : Int) < (n0 : Int)) = true := decide_eq_true (by omega)
  have q0 := X0.out.2.cell 2
  have q1 := X0.out.2.cell 5
  clear hZ
  go_enter Tryz.func7, Tryz.ntmps7
  go_wp2_with fail
  refine HS.out.mono ?_
  rintro e w' ⟨rfl, o⟩
  have HO := Lib.hid o
  clear o
  go_wp2_with fail
  go_ret
  exact ⟨rfl, X0.out.1.also HO.out⟩
theorem engineBlind_long1 {w : World} (hZ : TzT w) (a0 b0 : Int) (x0 m0 x1 m1 : BitVec 64) (A0 A1 : Option Addr) (n0 n1 c0 c1 : Nat) (h0 : ¬ 400 < n0) (h : 400 < n1) :
    Calls Tryz.prog 7 #[.int .u8 a0, .int .u8 b0, .agg #[.int .u64 (n64 x0), .int .u64 (n64 m0), .slice A0 n0 c0, .int .u64 (n64 x1), .int .u64 (n64 m1), .slice A1 n1 c1]] w fun e w' => e = .returned (.bool true) ∧ Off Nob w w' := by
  have X0 : Hid (Off Nob w (w.alloc (.cells #[.int .u64 (n64 x0), .int .u64 (n64 m0), .slice A0 n0 c0, .int .u64 (n64 x1), .int .u64 (n64 m1), .slice A1 n1 c1] 75)) ∧ Blk (w.alloc (.cells #[.int .u64 (n64 x0), .int .u64 (n64 m0), .slice A0 n0 c0, .int .u64 (n64 x1), .int .u64 (n64 m1), .slice A1 n1 c1] 75)) w.heap.size 75 #[.int .u64 (n64 x0), .int .u64 (n64 m0), .slice A0 n0 c0, .int .u64 (n64 x1), .int .u64 (n64 m1), .slice A1 n1 c1]) := Lib.hid ⟨(Off.refl _ _).alloc _, Blk.new _ _ _⟩
  have HS := Lib.hid (shown_true _ (tz_keep hZ X0.out.1))
  have d0 : decide ((400 : Int) < (n0 : Int)) = false := decide_eq_false (by omega)
  have d1 : decide ((400 : Int) < (n1 : Int)) = true := decide_eq_true (by omega)
  have q0 := X0.out.2.cell 2
  have q1 := X0.out.2.cell 5
  clear hZ
  go_enter Tryz.func7, Tryz.ntmps7
  go_wp2_with fail
  refine HS.out.mono ?_
  rintro e w' ⟨rfl, o⟩
  have HO := Lib.hid o
  clear o
  go_wp2_with fail
  go_ret
  exact ⟨rfl, X0.out.1.also HO.out⟩
theorem rd_len {w : World} {F : Nat → Prop} {v : Value} {n : Nat} {L : List (BitVec 64)} (h : Rd w F 1 v n (u64s L)) : L.length = n ∧ ∃ A c, v = .slice A n c := by
  obtain ⟨A, c, rfl, _, hl, _⟩ := h
  rw [length_u64s] at hl
  exact ⟨by omega, A, c, rfl⟩
theorem engineBlind_walk {w : World} (hZ : TzT w) (a0 : Int) (ha : 0 ≤ a0 ∧ a0 < 256) (b0 : Int) (hb : 0 ≤ b0 ∧ b0 < 256) (x0 m0 x1 m1 : BitVec 64) {z z2 : Value} {n n2 : Nat} {L L2 : List (BitVec 64)} (r1 : Rd w (Old w) 1 z n (u64s L)) (r2 : Rd w (Old w) 1 z2 n2 (u64s L2)) :
    Calls Tryz.prog 7 #[.int .u8 a0, .int .u8 b0, .agg #[.int .u64 (n64 x0), .int .u64 (n64 m0), z, .int .u64 (n64 x1), .int .u64 (n64 m1), z2]] w fun e w' => e = .returned (.bool true) ∧ Off Nob w w' := by
  obtain ⟨h1, A, c, rfl⟩ := rd_len r1
  obtain ⟨h2, A2, c2, rfl⟩ := rd_len r2
  by_cases g0 : 400 < n
  · exact engineBlind_long0 hZ a0 b0 x0 m0 x1 m1 A A2 n n2 c c2 g0
  · by_cases g1 : 400 < n2
    · exact engineBlind_long1 hZ a0 b0 x0 m0 x1 m1 A A2 n n2 c c2 g0 g1
    · exact engineBlind_ok hZ a0 b0 ⟨ha.1, by omega⟩ ⟨hb.1, by omega⟩ x0 m0 x1 m1 A A2 n n2 c c2 L L2 (r1.mono (fun _ _ => trivial)) (r2.mono (fun _ _ => trivial)) h1 h2 (by omega) (by omega)
end Go.Proofs.YtkflicifngohcaaGreatDoor
