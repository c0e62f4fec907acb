/-
  dragnetlaw21.EngineClears returns true.
-/
import Derived.Test.YtkflicifngohcaaGreatDoorJ48
namespace Go.Proofs.YtkflicifngohcaaGreatDoor
open Go.RowKit
set_option linter.unusedVariables false
set_option linter.unusedSimpArgs false
set_option maxRecDepth 100000
set_option maxHeartbeats 8000000 in
theorem engineClears_out {w : World} (hZ : TzT w) (AI AT AS AF B0 B1 : Option Addr) (ci ct cs cf c0 c1 : Nat) (ids : List Int) (wd : Int) (T S Fi L L2 : List Nat) (ho : OSet w (.slice AI ids.length ci) (.slice AT T.length ct) (.slice AS S.length cs) (.slice AF Fi.length cf) ids wd T S Fi) (z : Int) (hz : setErr ids wd T S Fi = z) (hx : L.length ≤ 12 → L2.length ≤ 12 → z ≠ 0) :
    Calls Tryz.prog 3 #[.agg #[.slice AI ids.length ci, .int .i64 wd, .slice AT T.length ct, .slice AS S.length cs, .slice AF Fi.length cf], .agg #[.slice B0 L.length c0, .slice B1 L2.length c1]] w fun e w' => e = .returned (.bool true) ∧ Off Nob w w' := by
  have X0 : Hid (Off Nob w ((w.alloc (.cells #[.slice AI ids.length ci, .int .i64 wd, .slice AT T.length ct, .slice AS S.length cs, .slice AF Fi.length cf] 25)).alloc (.cells #[.slice B0 L.length c0, .slice B1 L2.length c1] 27)) ∧ Blk ((w.alloc (.cells #[.slice AI ids.length ci, .int .i64 wd, .slice AT T.length ct, .slice AS S.length cs, .slice AF Fi.length cf] 25)).alloc (.cells #[.slice B0 L.length c0, .slice B1 L2.length c1] 27)) w.heap.size 25 #[.slice AI ids.length ci, .int .i64 wd, .slice AT T.length ct, .slice AS S.length cs, .slice AF Fi.length cf] ∧ Blk ((w.alloc (.cells #[.slice AI ids.length ci, .int .i64 wd, .slice AT T.length ct, .slice AS S.length cs, .slice AF Fi.length cf] 25)).alloc (.cells #[.slice B0 L.length c0, .slice B1 L2.length c1] 27)) (w.heap.size + 1) 27 #[.slice B0 L.length c0, .slice B1 L2.length c1]) := Lib.hid ⟨((Off.refl _ _).alloc _).alloc _, (Blk.new _ _ _).alloc _, blk_second _ _ _ _⟩
  have HZ := Lib.hid hZ
  have HOS := Lib.hid ho
  clear hZ ho
  have HZE := Lib.hid hz
  have HX := Lib.hid hx
  clear hz hx
  go_enter Tryz.func3, Tryz.ntmps3
  go_wp2_with fail
  revert X0
  generalize ((w.alloc (.cells #[.slice AI ids.length ci, .int .i64 wd, .slice AT T.length ct, .slice AS S.length cs, .slice AF Fi.length cf] 25)).alloc (.cells #[.slice B0 L.length c0, .slice B1 L2.length c1] 27)) = w0
  intro X0
  have GC : Hid (∀ W, Off Nob w0 W → W.cell? ⟨w.heap.size, 0, none⟩ = some (.slice AI ids.length ci) ∧ W.cell? ⟨w.heap.size, 1, none⟩ = some (.int .i64 wd) ∧ W.cell? ⟨w.heap.size, 2, none⟩ = some (.slice AT T.length ct) ∧ W.cell? ⟨w.heap.size, 3, none⟩ = some (.slice AS S.length cs) ∧ W.cell? ⟨w.heap.size, 4, none⟩ = some (.slice AF Fi.length cf) ∧ W.cell? ⟨w.heap.size + 1, 0, none⟩ = some (.slice B0 L.length c0) ∧ W.cell? ⟨w.heap.size + 1, 1, none⟩ = some (.slice B1 L2.length c1)) := Lib.hid (fun W o => by
    have h1 := X0.out.2.1.to (o.block _ X0.out.2.1.lt id)
    have h2 := X0.out.2.2.to (o.block _ X0.out.2.2.lt id)
    exact ⟨h1.cell 0, h1.cell 1, h1.cell 2, h1.cell 3, h1.cell 4, h2.cell 0, h2.cell 1⟩)
  refine (large_is AI AT AS AF ids.length T.length S.length Fi.length ci ct cs cf wd _).mono ?_
  rintro e v0 ⟨⟨q, rfl, hq⟩, o1⟩
  have Y0 := Lib.hid o1
  have HQ := Lib.hid hq
  clear o1 hq
  cases q
  case true =>
    go_wp2_with fail
    refine (shown_true _ (tz_keep HZ.out (X0.out.1.also Y0.out))).mono ?_
    rintro e vz ⟨rfl, oz⟩
    have YZ := Lib.hid ((X0.out.1.also Y0.out).also oz)
    clear oz
    go_wp2_with fail
    go_ret
    exact ⟨rfl, YZ.out⟩
  case false =>
    obtain ⟨s_0, s_1, s_2, s_3, s_4, b_0, b_1⟩ := GC.out _ (Y0.out)
    by_cases g0 : 12 < L.length
    · have d0 : decide ((12 : Int) < (L.length : Int)) = true := decide_eq_true (by omega)
      clear g0
      go_wp2_with fail
      refine (shown_true _ (tz_keep HZ.out (X0.out.1.also Y0.out))).mono ?_
      rintro e vz ⟨rfl, oz⟩
      have YZ := Lib.hid ((X0.out.1.also Y0.out).also oz)
      clear oz
      go_wp2_with fail
      go_ret
      exact ⟨rfl, YZ.out⟩
    · have d0 : decide ((12 : Int) < (L.length : Int)) = false := decide_eq_false (by omega)
      by_cases g1 : 12 < L2.length
      · have d1 : decide ((12 : Int) < (L2.length : Int)) = true := decide_eq_true (by omega)
        clear g0 g1
        go_wp2_with fail
        refine (shown_true _ (tz_keep HZ.out (X0.out.1.also Y0.out))).mono ?_
        rintro e vz ⟨rfl, oz⟩
        have YZ := Lib.hid ((X0.out.1.also Y0.out).also oz)
        clear oz
        go_wp2_with fail
        go_ret
        exact ⟨rfl, YZ.out⟩
      · have d1 : decide ((12 : Int) < (L2.length : Int)) = false := decide_eq_false (by omega)
        have hne : z ≠ 0 := HX.out (by omega) (by omega)
        have dz : decide (z = 0) = false := decide_eq_false hne
        have hlim := HQ.out rfl
        have HCK := Lib.hid (r_Check ids wd T S Fi v0 _ _ _ _ (HOS.out.setV (X0.out.1.also Y0.out) (by omega) (by omega) (by omega) (by omega)))
        rw [HZE.out] at HCK
        clear g0 g1 hlim
        go_wp2_with fail
        refine HCK.out.mono ?_
        rintro e v1 ⟨rfl, o1⟩
        have Y1 := Lib.hid (Y0.out.also o1)
        clear o1
        go_wp2_with fail
        refine (shown_true _ (tz_keep HZ.out (X0.out.1.also Y1.out))).mono ?_
        rintro e vz ⟨rfl, oz⟩
        have YZ := Lib.hid ((X0.out.1.also Y1.out).also oz)
        clear oz
        go_wp2_with fail
        go_ret
        exact ⟨rfl, YZ.out⟩
set_option maxHeartbeats 8000000 in
theorem engineClears_ok {w : World} (hZ : TzT w) (AI AT AS AF B0 B1 : Option Addr) (ci ct cs cf c0 c1 : Nat) (ids : List Int) (W : Nat) (T S Fi L L2 : List Nat) (ho : OSet w (.slice AI ids.length ci) (.slice AT T.length ct) (.slice AS S.length cs) (.slice AF Fi.length cf) ids (W : Int) T S Fi) (hz : setErr ids (W : Int) T S Fi = 0) (g0 : L.length ≤ 12) (g1 : L2.length ≤ 12) (hL : ∀ z ∈ L, z < 256) (hL2 : ∀ z ∈ L2, z < 256) (r0 : Rd w (fun _ => True) 1 (.slice B0 L.length c0) L.length (bytesV L)) (r1 : Rd w (fun _ => True) 1 (.slice B1 L2.length c1) L2.length (bytesV L2)) :
    Calls Tryz.prog 3 #[.agg #[.slice AI ids.length ci, .int .i64 (W : Int), .slice AT T.length ct, .slice AS S.length cs, .slice AF Fi.length cf], .agg #[.slice B0 L.length c0, .slice B1 L2.length c1]] w fun e w' => e = .returned (.bool true) ∧ Off Nob w w' := by
  have X0 : Hid (Off Nob w ((w.alloc (.cells #[.slice AI ids.length ci, .int .i64 (W : Int), .slice AT T.length ct, .slice AS S.length cs, .slice AF Fi.length cf] 25)).alloc (.cells #[.slice B0 L.length c0, .slice B1 L2.length c1] 27)) ∧ Blk ((w.alloc (.cells #[.slice AI ids.length ci, .int .i64 (W : Int), .slice AT T.length ct, .slice AS S.length cs, .slice AF Fi.length cf] 25)).alloc (.cells #[.slice B0 L.length c0, .slice B1 L2.length c1] 27)) w.heap.size 25 #[.slice AI ids.length ci, .int .i64 (W : Int), .slice AT T.length ct, .slice AS S.length cs, .slice AF Fi.length cf] ∧ Blk ((w.alloc (.cells #[.slice AI ids.length ci, .int .i64 (W : Int), .slice AT T.length ct, .slice AS S.length cs, .slice AF Fi.length cf] 25)).alloc (.cells #[.slice B0 L.length c0, .slice B1 L2.length c1] 27)) (w.heap.size + 1) 27 #[.slice B0 L.length c0, .slice B1 L2.length c1]) := Lib.hid ⟨((Off.refl _ _).alloc _).alloc _, (Blk.new _ _ _).alloc _, blk_second _ _ _ _⟩
  have HZ := Lib.hid hZ
  have HOS := Lib.hid ho
  clear hZ ho
  have HZE := Lib.hid hz
  have HRL := Lib.hid (And.intro r0 r1)
  have HLL := Lib.hid (And.intro hL (And.intro hL2 (And.intro g0 g1)))
  have hset := setErr_ok hz
  obtain ⟨hi1, hi16, _, ⟨Wx, hWx, w1, w4, hlt, hls, hlf, _⟩, _⟩ := hset
  obtain rfl : Wx = W := by omega
  have HW := Lib.hid (And.intro w1 (And.intro w4 (And.intro hi1 hi16)))
  have d0 : decide ((12 : Int) < (L.length : Int)) = false := decide_eq_false (by omega)
  have d1 : decide ((12 : Int) < (L2.length : Int)) = false := decide_eq_false (by omega)
  clear hz r0 r1 hL hL2 g0 g1 hWx w1 w4 hi1 hi16 hlt hls hlf
  go_enter Tryz.func3, Tryz.ntmps3
  go_wp2_with fail
  revert X0
  generalize ((w.alloc (.cells #[.slice AI ids.length ci, .int .i64 (Wx : Int), .slice AT T.length ct, .slice AS S.length cs, .slice AF Fi.length cf] 25)).alloc (.cells #[.slice B0 L.length c0, .slice B1 L2.length c1] 27)) = w0
  intro X0
  have GC : Hid (∀ W, Off Nob w0 W → W.cell? ⟨w.heap.size, 0, none⟩ = some (.slice AI ids.length ci) ∧ W.cell? ⟨w.heap.size, 1, none⟩ = some (.int .i64 (Wx : Int)) ∧ W.cell? ⟨w.heap.size, 2, none⟩ = some (.slice AT T.length ct) ∧ W.cell? ⟨w.heap.size, 3, none⟩ = some (.slice AS S.length cs) ∧ W.cell? ⟨w.heap.size, 4, none⟩ = some (.slice AF Fi.length cf) ∧ W.cell? ⟨w.heap.size + 1, 0, none⟩ = some (.slice B0 L.length c0) ∧ W.cell? ⟨w.heap.size + 1, 1, none⟩ = some (.slice B1 L2.length c1)) := Lib.hid (fun W o => by
    have h1 := X0.out.2.1.to (o.block _ X0.out.2.1.lt id)
    have h2 := X0.out.2.2.to (o.block _ X0.out.2.2.lt id)
    exact ⟨h1.cell 0, h1.cell 1, h1.cell 2, h1.cell 3, h1.cell 4, h2.cell 0, h2.cell 1⟩)
  refine (large_is AI AT AS AF ids.length T.length S.length Fi.length ci ct cs cf (Wx : Int) _).mono ?_
  rintro e v0 ⟨⟨q, rfl, hq⟩, o1⟩
  have Y0 := Lib.hid o1
  have HQ := Lib.hid hq
  clear o1 hq
  cases q
  case true =>
    go_wp2_with fail
    refine (shown_true _ (tz_keep HZ.out (X0.out.1.also Y0.out))).mono ?_
    rintro e vz ⟨rfl, oz⟩
    have YZ := Lib.hid ((X0.out.1.also Y0.out).also oz)
    clear oz
    go_wp2_with fail
    go_ret
    exact ⟨rfl, YZ.out⟩
  case false =>
    obtain ⟨s_0, s_1, s_2, s_3, s_4, b_0, b_1⟩ := GC.out _ (Y0.out)
    have hlim := HQ.out rfl
    have HSV : Hid (∀ V, Off Nob w V → SetV V (.slice AI ids.length ci) (.slice AT T.length ct) (.slice AS S.length cs) (.slice AF Fi.length cf) ids (Wx : Int) T S Fi) := Lib.hid (fun V o => HOS.out.setV o (by omega) (by omega) (by omega) (by omega))
    have HCK := Lib.hid (r_Check ids (Wx : Int) T S Fi v0 _ _ _ _ (HSV.out _ (X0.out.1.also Y0.out)))
    rw [HZE.out] at HCK
    clear hlim HQ
    go_wp2_with fail
    refine HCK.out.mono ?_
    rintro e v1 ⟨rfl, o1⟩
    have Y1 := Lib.hid (Y0.out.also o1)
    clear o1 HCK s_0 s_1 s_2 s_3 s_4 b_0 b_1
    obtain ⟨s_0, s_1, s_2, s_3, s_4, b_0, b_1⟩ := GC.out _ (Y1.out)
    have HROW := Lib.hid (row_okN Wx ids.length HW.out.1 HW.out.2.1 HW.out.2.2.1 HW.out.2.2.2 v1)
    go_wp2_with fail
    refine HROW.out.mono ?_
    rintro e w1 ⟨rfl, o1⟩
    have Y2 := Lib.hid (Y1.out.also o1)
    clear o1 HROW s_0 s_1 s_2 s_3 s_4 b_0 b_1
    have HLI := Lib.hid (And.intro (rowN_in Wx ids.length HW.out.1 HW.out.2.1 HW.out.2.2.1 HW.out.2.2.2) (And.intro (rowN_ok Wx ids.length HW.out.1 HW.out.2.1 HW.out.2.2.1 HW.out.2.2.2) (And.intro (rowZ_le Wx ids.length HW.out.2.1 HW.out.2.2.2) (And.intro (show 1 ≤ rowZ Wx ids.length by have := HW.out.1; unfold rowZ; omega) (And.intro (rowN_seq Wx ids.length) (show (rowN Wx ids.length).h + (rowN Wx ids.length).b = rowZ Wx ids.length from rfl))))))
    have HAB : Hid (Wx = (rowN Wx ids.length).a ∧ ids.length = (rowN Wx ids.length).b) := Lib.hid ⟨rfl, rfl⟩
    revert HLI HAB
    generalize rowN Wx ids.length = l
    generalize rowZ Wx ids.length = Z
    intro HLI HAB
    obtain ⟨ha, hb⟩ := HAB.out
    subst ha
    have HB := Lib.hid hb
    clear hb HAB
    have X1 : Hid (Off Nob w (w1.alloc (.cells #[.int .i64 l.a, .int .i64 l.b, .int .i64 l.t, .int .i64 l.s, .int .i64 l.f, .int .i64 l.st, .int .i64 l.n, .int .i64 l.h] 33)) ∧ Off Nob w0 (w1.alloc (.cells #[.int .i64 l.a, .int .i64 l.b, .int .i64 l.t, .int .i64 l.s, .int .i64 l.f, .int .i64 l.st, .int .i64 l.n, .int .i64 l.h] 33)) ∧ Blk (w1.alloc (.cells #[.int .i64 l.a, .int .i64 l.b, .int .i64 l.t, .int .i64 l.s, .int .i64 l.f, .int .i64 l.st, .int .i64 l.n, .int .i64 l.h] 33)) w1.heap.size 33 #[.int .i64 l.a, .int .i64 l.b, .int .i64 l.t, .int .i64 l.s, .int .i64 l.f, .int .i64 l.st, .int .i64 l.n, .int .i64 l.h]) := Lib.hid ⟨(X0.out.1.also Y2.out).alloc _, Y2.out.alloc _, Blk.new _ _ _⟩
    go_wp2_with fail
    obtain ⟨lb, hlb⟩ : ∃ lb, w1.heap.size = lb := ⟨_, rfl⟩
    rw [hlb] at X1 ⊢
    clear hlb
    revert X1
    generalize (w1.alloc (.cells #[.int .i64 l.a, .int .i64 l.b, .int .i64 l.t, .int .i64 l.s, .int .i64 l.f, .int .i64 l.st, .int .i64 l.n, .int .i64 l.h] 33)) = u0
    intro X1
    have GD : Hid (∀ W, Off Nob u0 W → W.cell? ⟨w.heap.size, 0, none⟩ = some (.slice AI ids.length ci) ∧ W.cell? ⟨w.heap.size, 1, none⟩ = some (.int .i64 l.a) ∧ W.cell? ⟨w.heap.size, 2, none⟩ = some (.slice AT T.length ct) ∧ W.cell? ⟨w.heap.size, 3, none⟩ = some (.slice AS S.length cs) ∧ W.cell? ⟨w.heap.size, 4, none⟩ = some (.slice AF Fi.length cf) ∧ W.cell? ⟨w.heap.size + 1, 0, none⟩ = some (.slice B0 L.length c0) ∧ W.cell? ⟨w.heap.size + 1, 1, none⟩ = some (.slice B1 L2.length c1) ∧ W.cell? ⟨lb, 0, none⟩ = some (.int .i64 l.a) ∧ W.cell? ⟨lb, 1, none⟩ = some (.int .i64 l.b) ∧ W.cell? ⟨lb, 2, none⟩ = some (.int .i64 l.t) ∧ W.cell? ⟨lb, 3, none⟩ = some (.int .i64 l.s) ∧ W.cell? ⟨lb, 4, none⟩ = some (.int .i64 l.f) ∧ W.cell? ⟨lb, 5, none⟩ = some (.int .i64 l.st) ∧ W.cell? ⟨lb, 6, none⟩ = some (.int .i64 l.n) ∧ W.cell? ⟨lb, 7, none⟩ = some (.int .i64 l.h)) := Lib.hid (fun W o => by
      obtain ⟨s_0, s_1, s_2, s_3, s_4, b_0, b_1⟩ := GC.out W (X1.out.2.1.also o)
      have h2 := X1.out.2.2.to (o.block _ X1.out.2.2.lt id)
      exact ⟨s_0, s_1, s_2, s_3, s_4, b_0, b_1, h2.cell 0, h2.cell 1, h2.cell 2, h2.cell 3, h2.cell 4, h2.cell 5, h2.cell 6, h2.cell 7⟩)
    clear GC
    have GC := GD
    clear GD
    refine (new_ok Z _ HLI.out.2.2.2.1 (by have := HLI.out.2.2.1; omega)).mono ?_
    rintro e u1 ⟨p, rfl, Fp, hp1, hp2, hp3⟩
    have HP := Lib.hid (And.intro hp1 (And.intro hp2 hp3))
    clear hp1 hp2 hp3
    go_wp2_with fail
    refine (new_ok Z _ HLI.out.2.2.2.1 (by have := HLI.out.2.2.1; omega)).mono ?_
    rintro e u2 ⟨r, rfl, Fr, hp1, hp2, hp3⟩
    have HT : Hid (Twin u0 u2 [] p r (List.replicate Z 0) [] (List.replicate Z 0) []) := Lib.hid (Twin.ofTwo HP.out.1 HP.out.2.1 HP.out.2.2 hp1 hp2 hp3)
    clear hp1 hp2 hp3 HP
    obtain ⟨s_0, s_1, s_2, s_3, s_4, b_0, b_1, l_0, l_1, l_2, l_3, l_4, l_5, l_6, l_7⟩ := GC.out _ (HT.out.old)
    have HOLD : Hid (∀ V, Off Nob u0 V → ∀ F : Nat → Prop, (∀ k, F k → u0.heap.size ≤ k) → SetV V (.slice AI ids.length ci) (.slice AT T.length ct) (.slice AS S.length cs) (.slice AF Fi.length cf) ids (l.a : Int) T S Fi ∧ Rd V (fun k => ¬ F k) 1 (.slice AT T.length ct) T.length (wordsV T) ∧ Rd V (fun k => ¬ F k) 1 (.slice AS S.length cs) S.length (wordsV S) ∧ Rd V (fun k => ¬ F k) 1 (.slice AF Fi.length cf) Fi.length (wordsV Fi) ∧ TzT V) := Lib.hid (fun V o F hF => by
      have ow := X1.out.1.also o
      have hs := X1.out.1.size
      have hn : ∀ k, Old w k → ¬ F k := fun k hk h => by have := hF k h; unfold Old at hk; omega
      exact ⟨HSV.out V ow, (HOS.out.t.mono hn).keep ow (fun _ _ h => h), (HOS.out.s.mono hn).keep ow (fun _ _ h => h), (HOS.out.f.mono hn).keep ow (fun _ _ h => h), tz_keep HZ.out ow⟩)
    have HZL : Hid ((List.replicate Z (0 : BitVec 64)).length = Z) := Lib.hid (List.length_replicate ..)
    obtain ⟨C0, hC0⟩ : ∃ C0, List.replicate Z (0 : BitVec 64) = C0 := ⟨_, rfl⟩
    rw [hC0] at HT HZL
    clear hC0
    have HS1 : Hid (∀ V E', Off Nob u0 V → Twin u0 V [] p r C0 [] C0 E' → Calls Tryz.prog 15 #[.pointer (some ⟨p, 0, none⟩), .agg #[.int .i64 l.a, .int .i64 l.b, .int .i64 l.t, .int .i64 l.s, .int .i64 l.f, .int .i64 l.st, .int .i64 l.n, .int .i64 l.h], .agg #[.slice AI ids.length ci, .int .i64 l.a, .slice AT T.length ct, .slice AS S.length cs, .slice AF Fi.length cf]] V fun e w' => (e = .returned (.int .i64 0)) ∧ Twin u0 w' [] p r (suC l T S Fi C0) (suE l) C0 E') := Lib.hid (fun V E' o h => by
      refine h.firstQ (Q := fun e w' => e = .returned (.int .i64 0)) (fun F ha hF => ?_)
      obtain ⟨q1, q2, q3, q4, q5⟩ := HOLD.out V o F hF
      have k := nsetup_any l V F p C0 [] ha (by rw [HZL.out]; exact HLI.out.2.1) (by rw [HZL.out]; exact HLI.out.1) (by have h1 := HLI.out.1.a4; have h2 := Nat.mul_le_mul HLI.out.1.b16 HLI.out.1.a4; simp; omega) _ _ _ _ ids T S Fi q1 HZE.out HB.out q2 q3 q4 q5
      rwa [List.nil_append] at k)
    have HS2 : Hid (∀ V, Off Nob u0 V → Twin u0 V [] p r (suC l T S Fi C0) (suE l) C0 [] → Calls Tryz.prog 15 #[.pointer (some ⟨r, 0, none⟩), .agg #[.int .i64 l.a, .int .i64 l.b, .int .i64 l.t, .int .i64 l.s, .int .i64 l.f, .int .i64 l.st, .int .i64 l.n, .int .i64 l.h], .agg #[.slice AI ids.length ci, .int .i64 l.a, .slice AT T.length ct, .slice AS S.length cs, .slice AF Fi.length cf]] V fun e w' => (e = .returned (.int .i64 0)) ∧ Twin u0 w' [] p r (suC l T S Fi C0) (suE l) (suC l T S Fi C0) (suE l)) := Lib.hid (fun V o h => by
      refine h.secondQ (Q := fun e w' => e = .returned (.int .i64 0)) (fun F ha hF => ?_)
      obtain ⟨q1, q2, q3, q4, q5⟩ := HOLD.out V o F hF
      have k := nsetup_any l V F r C0 [] ha (by rw [HZL.out]; exact HLI.out.2.1) (by rw [HZL.out]; exact HLI.out.1) (by have h1 := HLI.out.1.a4; have h2 := Nat.mul_le_mul HLI.out.1.b16 HLI.out.1.a4; simp; omega) _ _ _ _ ids T S Fi q1 HZE.out HB.out q2 q3 q4 q5
      rwa [List.nil_append] at k)
    go_wp2_with fail
    refine (HS1.out _ _ HT.out.old HT.out).mono ?_
    rintro e u3 ⟨rfl, h⟩
    have HT3 := Lib.hid h
    clear h HT s_0 s_1 s_2 s_3 s_4 b_0 b_1 l_0 l_1 l_2 l_3 l_4 l_5 l_6 l_7
    obtain ⟨s_0, s_1, s_2, s_3, s_4, b_0, b_1, l_0, l_1, l_2, l_3, l_4, l_5, l_6, l_7⟩ := GC.out _ (HT3.out.old)
    go_wp2_with fail
    refine (HS2.out _ HT3.out.old HT3.out).mono ?_
    rintro e u4 ⟨rfl, h⟩
    have HSE : Hid ((suE l).length ≤ 1100) := Lib.hid (by have h1 := HLI.out.1.a4; have h2 := Nat.mul_le_mul HLI.out.1.b16 HLI.out.1.a4; rw [suE_len]; omega)
    have HSC : Hid ((suC l T S Fi C0).length = Z) := Lib.hid (by rw [suC_len]; exact HZL.out)
    have HAG : Hid (∀ C : List (BitVec 64), C.length = Z → (∀ i, i < l.st → C.getD i 0 = (suC l T S Fi C0).getD i 0) → AgreeTo (clC l C) (suC l T S Fi C0) l.n) := Lib.hid (fun C hc hlow => clear_agree HLI.out.2.2.2.2.1 (by rw [hc]; exact HSC.out.symm) (by rw [HZL.out]; exact HLI.out.1.hst) hlow)
    have HT4 := Lib.hid h
    clear h HT3 HS1 HS2 s_0 s_1 s_2 s_3 s_4 b_0 b_1 l_0 l_1 l_2 l_3 l_4 l_5 l_6 l_7
    revert HSE HSC HAG HT4
    generalize suC l T S Fi C0 = D0
    generalize suE l = E0
    intro HSE HSC HAG HT4
    have HBB : Hid (∀ W, Off Nob u0 W → (∀ k, k < L.length → ∃ b o, B0 = some ⟨b, o, none⟩ ∧ W.cell? ⟨b, o + k, none⟩ = some (.int .u8 ((L.getD k 0 : Nat) : Int))) ∧ (∀ k, k < L2.length → ∃ b o, B1 = some ⟨b, o, none⟩ ∧ W.cell? ⟨b, o + k, none⟩ = some (.int .u8 ((L2.getD k 0 : Nat) : Int)))) := Lib.hid (fun W o => by
      obtain ⟨_, _, e1, h1⟩ := bytes_cells HRL.out.1
      obtain ⟨_, _, e2, h2⟩ := bytes_cells HRL.out.2
      cases e1
      cases e2
      exact ⟨h1 _ (X1.out.1.also o), h2 _ (X1.out.1.also o)⟩)
    have HBY : Hid (∀ (V : World) (x : Nat) (g : Nat) (F : Nat → Prop) (C : List (BitVec 64)) (E : List Ev), x < 256 → C.length = Z → E.length ≤ 40000 → Ar V F g C E → Calls Tryz.prog 16 #[.pointer (some ⟨g, 0, none⟩), .agg #[.int .i64 l.a, .int .i64 l.b, .int .i64 l.t, .int .i64 l.s, .int .i64 l.f, .int .i64 l.st, .int .i64 l.n, .int .i64 l.h], .int .u64 (x : Int), .int .u64 18446744073709551615] V fun e w' => e = .returned (.int .i64 0) ∧ ArTo V F g (byC l (BitVec.ofNat 64 x) onesB C) (byE l E) w') := Lib.hid (fun V x g F C E hx hc he ha => by
      have h2 := HLI.out.1.a4
      have h3 := Nat.mul_le_mul HLI.out.1.b16 (show 2 * l.a + 1 ≤ 9 by omega)
      have k := nbyte_any l (BitVec.ofNat 64 x) onesB isM_onesB V F g C E ha (by rw [hc]; exact HLI.out.2.1) (by rw [hc]; exact HLI.out.1) (by omega)
      rw [n64_ofNat x hx, n64_onesB] at k
      exact k)
    have HBE : Hid (∀ E : List Ev, (byE l E).length ≤ E.length + 1188) := Lib.hid (fun E => by
      have h2 := HLI.out.1.a4
      have h3 := Nat.mul_le_mul HLI.out.1.b16 (show 2 * l.a + 1 ≤ 9 by omega)
      rw [byE_len]
      omega)
    go_wp2_with fail
    go_loopw [11] (fun q wr => ∃ (k : Nat) (C : List (BitVec 64)) (E : List Ev), q = .int .i64 (k : Int) ∧ k ≤ L.length ∧ Twin u0 wr [] p r C E D0 E0 ∧ C.length = Z ∧ (∀ i, i < l.st → C.getD i 0 = D0.getD i 0) ∧ E.length ≤ 1100 + 1188 * k) (fun q wr => L.length - (intOf q).toNat)
    case atStart => exact ⟨0, _, _, rfl, Nat.zero_le _, HT4.out, HSC.out, fun _ _ => rfl, HSE.out⟩
    case round =>
      obtain ⟨k, C, E, rfl, hk, ht, hcn, hlow, hen⟩ := hrel
      have HR := Lib.hid (And.intro ht (And.intro hcn (And.intro hlow hen)))
      clear ht hcn hlow hen HT4
      obtain ⟨s_0, s_1, s_2, s_3, s_4, b_0, b_1, l_0, l_1, l_2, l_3, l_4, l_5, l_6, l_7⟩ := GC.out _ (HR.out.1.old)
      by_cases hlt : k < L.length
      · have d1 : decide ((k : Int) < (L.length : Int)) = true := decide_eq_true (by omega)
        obtain ⟨b, o, hB0, ck⟩ := (HBB.out _ HR.out.1.old).1 k hlt
        subst hB0
        have HX : Hid (L.getD k 0 < 256) := Lib.hid (HLL.out.1 _ (getN_of hlt))
        obtain ⟨x, hx⟩ : ∃ x, L.getD k 0 = x := ⟨_, rfl⟩
        have HEL : Hid (∀ W, Off Nob u0 W → W.cell? ⟨b, o + k, none⟩ = some (.int .u8 (x : Int))) := Lib.hid (fun W ow => by
          obtain ⟨b', o', hB', ck'⟩ := (HBB.out _ ow).1 k hlt
          cases hB'
          rw [← hx]
          exact ck')
        rw [hx] at ck HX
        clear hx
        have wx : IntKind.u64.wrap (x : Int) = (x : Int) := IntWalk.u64_in _ (by have := HX.out; omega)
        have hk12 : k ≤ 12 := by have := HLL.out.2.2.1; omega
        have HK := Lib.hid hk12
        have HCB : Hid (∀ V, Off Nob wr V → Calls Tryz.prog 16 #[.pointer (some ⟨p, 0, none⟩), .agg #[.int .i64 l.a, .int .i64 l.b, .int .i64 l.t, .int .i64 l.s, .int .i64 l.f, .int .i64 l.st, .int .i64 l.n, .int .i64 l.h], .int .u64 (x : Int), .int .u64 18446744073709551615] V fun e w' => e = .returned (.int .i64 0) ∧ Twin u0 w' [] p r (byC l (BitVec.ofNat 64 x) onesB C) (byE l E) D0 E0) := Lib.hid (fun V o => (HR.out.1.off o).firstQ (Q := fun e w' => e = .returned (.int .i64 0)) (fun F ha hF => HBY.out V x p F C E HX.out HR.out.2.1 (by have := HR.out.2.2.2; have := HK.out; omega) ha))
        go_wp2_with fail
        go_region_held3 (fun W => W.cell? ⟨w.heap.size + 1, 0, none⟩ = some (.slice (some ⟨b, o, none⟩) L.length c0) ∧ W.cell? ⟨b, o + k, none⟩ = some (.int .u8 (x : Int)) ∧ W.cell? ⟨lb, 0, none⟩ = some (.int .i64 l.a) ∧ W.cell? ⟨lb, 1, none⟩ = some (.int .i64 l.b) ∧ W.cell? ⟨lb, 2, none⟩ = some (.int .i64 l.t) ∧ W.cell? ⟨lb, 3, none⟩ = some (.int .i64 l.s) ∧ W.cell? ⟨lb, 4, none⟩ = some (.int .i64 l.f) ∧ W.cell? ⟨lb, 5, none⟩ = some (.int .i64 l.st) ∧ W.cell? ⟨lb, 6, none⟩ = some (.int .i64 l.n) ∧ W.cell? ⟨lb, 7, none⟩ = some (.int .i64 l.h))
          (first | with_reducible assumption | go_keep)
          (first
            | (go_at_call 16; refine (HCB.out _ (Off.refl _ _).drew).mono ?_; rintro e a1 ⟨rfl, hz⟩; have HN := Lib.hid hz; clear hz s_0 s_1 s_2 s_3 s_4 b_0 b_1 l_0 l_1 l_2 l_3 l_4 l_5 l_6 l_7 ck; obtain ⟨s_0, s_1, s_2, s_3, s_4, b_0, b_1, l_0, l_1, l_2, l_3, l_4, l_5, l_6, l_7⟩ := GC.out _ (HN.out.old); have ck := HEL.out _ HN.out.old))
        go_wp2_with fail
        go_roundw
        case rel => exact ⟨k + 1, _, _, rfl, by omega, HN.out, by rw [byC_len]; exact HR.out.2.1, fun i hi => by rw [byC_low HLI.out.2.2.2.2.1 hi]; exact HR.out.2.2.1 i hi, by have := HBE.out E; have := HR.out.2.2.2; omega⟩
        case measure => simp [intOf]; omega
      · obtain rfl : k = L.length := by omega
        clear d0
        have HCL : Hid (∀ V, Off Nob wr V → Calls Tryz.prog 17 #[.pointer (some ⟨p, 0, none⟩), .agg #[.int .i64 l.a, .int .i64 l.b, .int .i64 l.t, .int .i64 l.s, .int .i64 l.f, .int .i64 l.st, .int .i64 l.n, .int .i64 l.h]] V fun e w' => e = .returned (.int .i64 0) ∧ Twin u0 w' [] p r (clC l C) (E ++ clE l) D0 E0) := Lib.hid (fun V o => (HR.out.1.off o).firstQ (Q := fun e w' => e = .returned (.int .i64 0)) (fun F ha hF => nclear_any l V F p C E ha (by rw [HR.out.2.1]; exact HLI.out.2.1) (by rw [HR.out.2.1]; exact HLI.out.1) (by have := HR.out.2.2.2; have := HLL.out.2.2.1; have := HLI.out.1.a4; omega)))
        go_wp2_with fail
        refine (HCL.out _ (Off.refl _ _)).mono ?_
        rintro e u5 ⟨rfl, h⟩
        have HT5 := Lib.hid h
        have HCC : Hid ((clC l C).length = Z) := Lib.hid (by rw [clC_len]; exact HR.out.2.1)
        have HAG2 : Hid (AgreeTo (clC l C) D0 l.n) := Lib.hid (HAG.out C HR.out.2.1 HR.out.2.2.1)
        have HE5 : Hid ((E ++ clE l).length ≤ 16000) := Lib.hid (by have h1 := HR.out.2.2.2; have h2 := HLL.out.2.2.1; have h3 := HLI.out.1.a4; rw [List.length_append, clE, putE_len]; omega)
        have HSZ : Hid (stL l (clC l C) l.a = List.replicate l.a 0) := Lib.hid (stL_clear (by rw [HR.out.2.1]; exact HLI.out.1.hst))
        clear h HCL HAG HR s_0 s_1 s_2 s_3 s_4 b_0 b_1 l_0 l_1 l_2 l_3 l_4 l_5 l_6 l_7
        revert HT5 HCC HAG2 HE5 HSZ
        generalize clC l C = C5
        generalize E ++ clE l = E5
        intro HT5 HCC HAG2 HE5 HSZ
        obtain ⟨s_0, s_1, s_2, s_3, s_4, b_0, b_1, l_0, l_1, l_2, l_3, l_4, l_5, l_6, l_7⟩ := GC.out _ (HT5.out.old)
        have HST : Hid (∀ V, Off Nob u5 V → Calls Tryz.prog 18 #[.pointer (some ⟨p, 0, none⟩), .agg #[.int .i64 l.a, .int .i64 l.b, .int .i64 l.t, .int .i64 l.s, .int .i64 l.f, .int .i64 l.st, .int .i64 l.n, .int .i64 l.h]] V fun e w' => (∃ v, e = .returned (.tuple #[v, .int .i64 0]) ∧ Rd w' (fun _ => True) 1 v l.a (wordsV (List.replicate l.a 0))) ∧ Twin u0 w' [] p r C5 (ldE l.st E5 l.a) D0 E0) := Lib.hid (fun V o => (HT5.out.off o).firstQ (Q := fun e w' => ∃ v, e = .returned (.tuple #[v, .int .i64 0]) ∧ Rd w' (fun _ => True) 1 v l.a (wordsV (List.replicate l.a 0))) (fun F ha hF => (nstate_any l V F p C5 E5 ha (by rw [HCC.out]; exact HLI.out.2.1) (by rw [HCC.out]; exact HLI.out.1) (by have := HE5.out; have := HLI.out.1.a4; omega)).mono (fun e w' h => by
          obtain ⟨⟨v, h1, h2⟩, h3⟩ := h
          rw [HSZ.out, zeros_words] at h2
          exact ⟨⟨v, h1, h2.any⟩, h3⟩)))
        go_wp2_with fail
        refine (HST.out _ (Off.refl _ _)).mono ?_
        rintro e u6 ⟨⟨v, rfl, hv⟩, h⟩
        have HT6 := Lib.hid h
        have HV := Lib.hid hv
        have HE6 : Hid ((ldE l.st E5 l.a).length ≤ 16004) := Lib.hid (by rw [length_ldE]; have := HE5.out; have := HLI.out.1.a4; omega)
        clear h hv HST HT5 HE5 HSZ s_0 s_1 s_2 s_3 s_4 b_0 b_1 l_0 l_1 l_2 l_3 l_4 l_5 l_6 l_7
        revert HT6 HE6
        generalize ldE l.st E5 l.a = E6
        intro HT6 HE6
        obtain ⟨s_0, s_1, s_2, s_3, s_4, b_0, b_1, l_0, l_1, l_2, l_3, l_4, l_5, l_6, l_7⟩ := GC.out _ (HT6.out.old)
        have hms := make_any l.a HLI.out.1.a1 HLI.out.1.a4
        have HSM : Hid (∀ V, Off Nob (u6.alloc (.cells (List.replicate l.a (Value.int .u64 0)).toArray 41)) V → Calls Tryz.prog 19 #[v, .slice (some ⟨u6.heap.size, 0, none⟩) l.a l.a] V (RetV V (.bool true))) := Lib.hid (fun V o => by
          have hl : (List.replicate l.a 0).length = l.a := List.length_replicate ..
          have k1 := HV.out.keepT ((Off.alloc (Off.refl _ _) _).also o)
          have k2 : Rd V (fun _ => True) 1 (.slice (some ⟨u6.heap.size, 0, none⟩) l.a l.a) l.a (wordsV (List.replicate l.a 0)) := by
            have h4 := HLI.out.1.a4
            have e : List.replicate l.a (Value.int .u64 0) = wordsV (List.replicate l.a 0) := by simp [wordsV]
            rw [e] at o
            exact (Rd.newT u6 41 (wordsV (List.replicate l.a 0)) 1 l.a (by simp [wordsV]) (by unfold maxLen; omega)).keepT o
          have k := r_same (List.replicate l.a 0) (List.replicate l.a 0) (by have := HLI.out.1.a4; rw [hl]; omega) (by have := HLI.out.1.a4; rw [hl]; omega) V v _ (by rw [hl]; exact k1) (by rw [hl]; exact k2)
          rwa [decide_eq_true rfl] at k)
        go_wp2_with fail
        refine (HSM.out _ (Off.refl _ _)).mono ?_
        rintro e u7 ⟨rfl, o7⟩
        have HT7 := Lib.hid (HT6.out.off ((Off.alloc (Off.refl _ _) _).also o7))
        clear HT6 HSM HV hms o7 s_0 s_1 s_2 s_3 s_4 b_0 b_1 l_0 l_1 l_2 l_3 l_4 l_5 l_6 l_7
        go_wp2_with fail
        go_loopw [13] (fun q wr => ∃ (k : Nat) (C : List (BitVec 64)) (E : List Ev) (C' : List (BitVec 64)) (E' : List Ev), q = .int .i64 (k : Int) ∧ k ≤ L2.length ∧ Twin u0 wr [] p r C E C' E' ∧ C.length = Z ∧ C'.length = Z ∧ AgreeTo C C' l.n ∧ E.length ≤ 16004 + 1188 * k ∧ E'.length ≤ 16004 + 1188 * k) (fun q wr => L2.length - (intOf q).toNat)
        case atStart => exact ⟨0, _, _, _, _, rfl, Nat.zero_le _, HT7.out, HCC.out, HSC.out, HAG2.out, HE6.out, by have := HSE.out; omega⟩
        case round =>
          obtain ⟨j, X, EX, Y, EY, rfl, hj, ht, hxn, hyn, hag, hex, hey⟩ := hrel
          have HR := Lib.hid (And.intro ht (And.intro hxn (And.intro hyn (And.intro hag (And.intro hex hey)))))
          clear ht hxn hyn hag hex hey HT7
          obtain ⟨s_0, s_1, s_2, s_3, s_4, b_0, b_1, l_0, l_1, l_2, l_3, l_4, l_5, l_6, l_7⟩ := GC.out _ (HR.out.1.old)
          by_cases hlt : j < L2.length
          · have d1 : decide ((j : Int) < (L2.length : Int)) = true := decide_eq_true (by omega)
            obtain ⟨b, o, hB1, ck⟩ := (HBB.out _ HR.out.1.old).2 j hlt
            subst hB1
            have HX : Hid (L2.getD j 0 < 256) := Lib.hid (HLL.out.2.1 _ (getN_of hlt))
            obtain ⟨x, hx⟩ : ∃ x, L2.getD j 0 = x := ⟨_, rfl⟩
            have HEL : Hid (∀ W, Off Nob u0 W → W.cell? ⟨b, o + j, none⟩ = some (.int .u8 (x : Int))) := Lib.hid (fun W ow => by
              obtain ⟨b', o', hB', ck'⟩ := (HBB.out _ ow).2 j hlt
              cases hB'
              rw [← hx]
              exact ck')
            rw [hx] at ck HX
            clear hx
            have wx : IntKind.u64.wrap (x : Int) = (x : Int) := IntWalk.u64_in _ (by have := HX.out; omega)
            have hj12 : j ≤ 12 := by have := HLL.out.2.2.2; omega
            have HJ := Lib.hid hj12
            have HC1 : Hid (∀ V, Off Nob wr V → Calls Tryz.prog 16 #[.pointer (some ⟨p, 0, none⟩), .agg #[.int .i64 l.a, .int .i64 l.b, .int .i64 l.t, .int .i64 l.s, .int .i64 l.f, .int .i64 l.st, .int .i64 l.n, .int .i64 l.h], .int .u64 (x : Int), .int .u64 18446744073709551615] V fun e w' => e = .returned (.int .i64 0) ∧ Twin u0 w' [] p r (byC l (BitVec.ofNat 64 x) onesB X) (byE l EX) Y EY) := Lib.hid (fun V o => (HR.out.1.off o).firstQ (Q := fun e w' => e = .returned (.int .i64 0)) (fun F ha hF => HBY.out V x p F X EX HX.out HR.out.2.1 (by have := HR.out.2.2.2.2.1; have := HJ.out; omega) ha))
            have HC2 : Hid (∀ V X EX, Twin u0 V [] p r X EX Y EY → Calls Tryz.prog 16 #[.pointer (some ⟨r, 0, none⟩), .agg #[.int .i64 l.a, .int .i64 l.b, .int .i64 l.t, .int .i64 l.s, .int .i64 l.f, .int .i64 l.st, .int .i64 l.n, .int .i64 l.h], .int .u64 (x : Int), .int .u64 18446744073709551615] V fun e w' => e = .returned (.int .i64 0) ∧ Twin u0 w' [] p r X EX (byC l (BitVec.ofNat 64 x) onesB Y) (byE l EY)) := Lib.hid (fun V X EX h => h.secondQ (Q := fun e w' => e = .returned (.int .i64 0)) (fun F ha hF => HBY.out V x r F Y EY HX.out HR.out.2.2.1 (by have := HR.out.2.2.2.2.2; have := HJ.out; omega) ha))
            go_wp2_with fail
            go_region_held3 (fun W => W.cell? ⟨w.heap.size + 1, 1, none⟩ = some (.slice (some ⟨b, o, none⟩) L2.length c1) ∧ W.cell? ⟨b, o + j, none⟩ = some (.int .u8 (x : Int)) ∧ W.cell? ⟨lb, 0, none⟩ = some (.int .i64 l.a) ∧ W.cell? ⟨lb, 1, none⟩ = some (.int .i64 l.b) ∧ W.cell? ⟨lb, 2, none⟩ = some (.int .i64 l.t) ∧ W.cell? ⟨lb, 3, none⟩ = some (.int .i64 l.s) ∧ W.cell? ⟨lb, 4, none⟩ = some (.int .i64 l.f) ∧ W.cell? ⟨lb, 5, none⟩ = some (.int .i64 l.st) ∧ W.cell? ⟨lb, 6, none⟩ = some (.int .i64 l.n) ∧ W.cell? ⟨lb, 7, none⟩ = some (.int .i64 l.h))
              (first | with_reducible assumption | go_keep)
              (first
                | (go_at_call 16; refine (HC1.out _ (Off.refl _ _).drew).mono ?_; rintro e a1 ⟨rfl, hz⟩; have HN1 := Lib.hid hz; clear hz HC1 s_0 s_1 s_2 s_3 s_4 b_0 b_1 l_0 l_1 l_2 l_3 l_4 l_5 l_6 l_7 ck; obtain ⟨s_0, s_1, s_2, s_3, s_4, b_0, b_1, l_0, l_1, l_2, l_3, l_4, l_5, l_6, l_7⟩ := GC.out _ (HN1.out.old); have ck := HEL.out _ HN1.out.old)
                | (go_at_call 16; refine (HC2.out _ _ _ HN1.out).mono ?_; rintro e a2 ⟨rfl, hz⟩; have HN2 := Lib.hid hz; clear hz HC2 s_0 s_1 s_2 s_3 s_4 b_0 b_1 l_0 l_1 l_2 l_3 l_4 l_5 l_6 l_7 ck; obtain ⟨s_0, s_1, s_2, s_3, s_4, b_0, b_1, l_0, l_1, l_2, l_3, l_4, l_5, l_6, l_7⟩ := GC.out _ (HN2.out.old); have ck := HEL.out _ HN2.out.old))
            have HEQ : Hid (byC l (BitVec.ofNat 64 x) onesB X = byC l (BitVec.ofNat 64 x) onesB Y) := Lib.hid (byC_agree HLI.out.2.2.2.2.1 HR.out.2.2.2.1 (by rw [HR.out.2.1, ← HLI.out.2.2.2.2.2]; exact Nat.le_refl _))
            have HDL : Hid ((byC l (BitVec.ofNat 64 x) onesB Y).length = Z) := Lib.hid (by rw [byC_len]; exact HR.out.2.2.1)
            have HE1 : Hid ((byE l EX).length ≤ 16004 + 1188 * (j + 1) ∧ (byE l EY).length ≤ 16004 + 1188 * (j + 1)) := Lib.hid (by have := HBE.out EX; have := HBE.out EY; have := HR.out.2.2.2.2.1; have := HR.out.2.2.2.2.2; omega)
            rw [HEQ.out] at HN2
            clear HN1 HEQ HR
            revert HN2 HDL HE1
            generalize byC l (BitVec.ofNat 64 x) onesB Y = D
            generalize byE l EX = EX1
            generalize byE l EY = EY1
            intro HN2 HDL HE1
            obtain ⟨F1, ha1⟩ := HN2.out.ar1
            have HCA := Lib.hid (cells_ok ha1)
            clear ha1
            go_wp2_with fail
            refine HCA.out.mono ?_
            rintro e a3 ⟨v1, rfl, ow1, o1⟩
            have HRD1 := Lib.hid (NewU.rd ow1).any
            obtain ⟨g1, cap1, rfl, hc1, hm1⟩ := own_some ow1 (by rw [HDL.out]; exact HLI.out.2.2.2.1)
            have HN3 := Lib.hid (HN2.out.off o1)
            clear ow1 o1 HCA s_0 s_1 s_2 s_3 s_4 b_0 b_1 l_0 l_1 l_2 l_3 l_4 l_5 l_6 l_7 ck HN2
            obtain ⟨F2, ha2⟩ := HN3.out.ar2
            have HCB := Lib.hid (cells_ok ha2)
            clear ha2
            go_wp2_with fail
            refine HCB.out.mono ?_
            rintro e a4 ⟨v2, rfl, ow2, o2⟩
            have HRD2 := Lib.hid (NewU.rd ow2).any
            have HRD3 := Lib.hid (HRD1.out.keepT o2)
            obtain ⟨g2, cap2, rfl, hc2, hm2⟩ := own_some ow2 (by rw [HDL.out]; exact HLI.out.2.2.2.1)
            have HN4 := Lib.hid (HN3.out.off o2)
            clear ow2 o2 HCB HN3 HRD1
            obtain ⟨s_0, s_1, s_2, s_3, s_4, b_0, b_1, l_0, l_1, l_2, l_3, l_4, l_5, l_6, l_7⟩ := GC.out _ (HN4.out.old)
            rw [HDL.out] at hc1 hc2 HRD2 HRD3 ⊢
            rw [u64s_words] at HRD2 HRD3
            have hst : l.st < Z := by have := HLI.out.1.hst; have := HLI.out.1.a1; omega
            have i0 : (0 : Int) ≤ (l.st : Int) := by omega
            have i1 : (l.st : Int) ≤ (Z : Int) := by omega
            have i2 : (Z : Int) ≤ (cap1 : Int) := by omega
            have i3 : (Z : Int) ≤ (cap2 : Int) := by omega
            have i4 : (l.st : Int) ≤ (cap1 : Int) := by omega
            have i5 : (l.st : Int) ≤ (cap2 : Int) := by omega
            have hne1 : ¬ cap1 = l.st := by omega
            have hne2 : ¬ cap2 = l.st := by omega
            have HSM : Hid (∀ V, Off Nob a4 V → Calls Tryz.prog 19 #[.slice (some ⟨g1, l.st, none⟩) (Z - l.st) (cap1 - l.st), .slice (some ⟨g2, l.st, none⟩) (Z - l.st) (cap2 - l.st)] V (RetV V (.bool true))) := Lib.hid (fun V o => by
              have hl : ((D.map BitVec.toNat).drop l.st).length ≤ 4096 := by rw [List.length_drop, List.length_map, HDL.out]; have := HLI.out.2.2.1; omega
              have k := r_same ((D.map BitVec.toNat).drop l.st) ((D.map BitVec.toNat).drop l.st) hl hl V (.slice (some ⟨g1, l.st, none⟩) (Z - l.st) (cap1 - l.st)) (.slice (some ⟨g2, l.st, none⟩) (Z - l.st) (cap2 - l.st)) (by have h := Rd.from_ (HRD3.out.keepT o) l.st (Nat.le_of_lt hst) (cap1 - l.st); rwa [Nat.zero_add] at h) (by have h := Rd.from_ (HRD2.out.keepT o) l.st (Nat.le_of_lt hst) (cap2 - l.st); rwa [Nat.zero_add] at h)
              rwa [decide_eq_true rfl] at k)
            go_wp2_with fail
            go_region_held3 (fun W => W.cell? ⟨lb, 5, none⟩ = some (.int .i64 l.st))
              (first | with_reducible assumption | go_keep)
              (first
                | (go_at_call 19; refine (HSM.out _ (Off.refl _ _).drew).mono ?_; rintro e a5 ⟨rfl, hz⟩; have HN5 := Lib.hid (HN4.out.off ((Off.refl _ _).drew.also hz)); clear hz s_0 s_1 s_2 s_3 s_4 b_0 b_1 l_0 l_1 l_2 l_3 l_4 l_5 l_6 l_7; obtain ⟨s_0, s_1, s_2, s_3, s_4, b_0, b_1, l_0, l_1, l_2, l_3, l_4, l_5, l_6, l_7⟩ := GC.out _ (HN5.out.old)))
            go_wp2_with fail
            all_goals (
              go_roundw
              case rel => exact ⟨j + 1, D, _, D, _, rfl, by omega, HN5.out, HDL.out, HDL.out, AgreeTo.of_eq rfl _, HE1.out.1, HE1.out.2⟩
              case measure => simp [intOf]; omega)
          · obtain rfl : j = L2.length := by omega
            go_wp2_with fail
            refine (shown_true _ (tz_keep HZ.out (X1.out.1.also HR.out.1.old))).mono ?_
            rintro e vz ⟨rfl, oz⟩
            have YZ := Lib.hid ((X1.out.1.also HR.out.1.old).also oz)
            clear oz
            go_wp2_with fail
            go_ret
            exact ⟨rfl, YZ.out⟩
theorem engineClears_walk {w : World} (hZ : TzT w) {VI VT VS VF u u2 : Value} {ids : List Int} {wd : Int} {T S Fi L L2 : List Nat} (ho : OSet w VI VT VS VF ids wd T S Fi) (r0 : Rd w (Old w) 1 u L.length (bytesV L)) (hL : ∀ z ∈ L, z < 256) (r1 : Rd w (Old w) 1 u2 L2.length (bytesV L2)) (hL2 : ∀ z ∈ L2, z < 256) :
    Calls Tryz.prog 3 #[.agg #[VI, .int .i64 wd, VT, VS, VF], .agg #[u, u2]] w fun e w' => e = .returned (.bool true) ∧ Off Nob w w' := by
  obtain ⟨AI, ci, rfl, _⟩ := ho.i.form
  obtain ⟨AT, ct, rfl, _⟩ := ho.t.form
  obtain ⟨AS, cs, rfl, _⟩ := ho.s.form
  obtain ⟨AF, cf, rfl, _⟩ := ho.f.form
  obtain ⟨B0, c0, rfl, _⟩ := r0.form
  obtain ⟨B1, c1, rfl, _⟩ := r1.form
  by_cases h : L.length ≤ 12 ∧ L2.length ≤ 12 ∧ setErr ids wd T S Fi = 0
  · obtain ⟨g0, g1, hz⟩ := h
    obtain ⟨_, _, _, ⟨W, rfl, _⟩, _⟩ := setErr_ok hz
    exact engineClears_ok hZ AI AT AS AF B0 B1 ci ct cs cf c0 c1 ids W T S Fi L L2 ho hz g0 g1 hL hL2 r0.any r1.any
  · exact engineClears_out hZ AI AT AS AF B0 B1 ci ct cs cf c0 c1 ids wd T S Fi L L2 ho _ rfl (fun g0 g1 hz => h ⟨g0, g1, hz⟩)
end Go.Proofs.YtkflicifngohcaaGreatDoor
