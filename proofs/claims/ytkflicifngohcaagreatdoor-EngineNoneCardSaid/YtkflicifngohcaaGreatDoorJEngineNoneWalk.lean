/-
  dragnetlaw21.EngineNone returns true.
-/
import Derived.Test.YtkflicifngohcaaGreatDoorJ45
import Derived.Test.YtkflicifngohcaaGreatDoorJ40
import Derived.Deep.RegionHeld3
namespace Go.Proofs.YtkflicifngohcaaGreatDoor
open Go.RowKit
set_option linter.unusedVariables false
set_option linter.unusedSimpArgs false
set_option maxRecDepth 100000
set_option maxHeartbeats 1000000 in
theorem large_any (A0 A1 A2 A3 : Option Addr) (n0 n1 n2 n3 k0 k1 k2 k3 : Nat) (wd : Int) (w : World) : Calls Tryz.prog 10 #[.agg #[.slice A0 n0 k0, .int .i64 wd, .slice A1 n1 k1, .slice A2 n2 k2, .slice A3 n3 k3]] w fun e w' => (∃ q, e = .returned (.bool q)) ∧ Off Nob w w' := by
  have X0 : Hid (Off Nob w (w.alloc (.cells #[.slice A0 n0 k0, .int .i64 wd, .slice A1 n1 k1, .slice A2 n2 k2, .slice A3 n3 k3] 25)) ∧ Blk (w.alloc (.cells #[.slice A0 n0 k0, .int .i64 wd, .slice A1 n1 k1, .slice A2 n2 k2, .slice A3 n3 k3] 25)) w.heap.size 25 #[.slice A0 n0 k0, .int .i64 wd, .slice A1 n1 k1, .slice A2 n2 k2, .slice A3 n3 k3]) := Lib.hid ⟨(Off.refl _ _).alloc _, Blk.new _ _ _⟩
  have s0 := X0.out.2.cell 0
  have s2 := X0.out.2.cell 2
  have s3 := X0.out.2.cell 3
  have s4 := X0.out.2.cell 4
  by_cases h0 : (20 : Int) < (n0 : Int)
  · have d0 := decide_eq_true h0
    clear h0
    go_enter Tryz.func10, Tryz.ntmps10
    go_wp2_with fail
    go_ret
    exact ⟨⟨_, rfl⟩, X0.out.1⟩
  · have d0 := decide_eq_false h0
    clear h0
    by_cases h1 : (1100 : Int) < (n1 : Int)
    · have d1 := decide_eq_true h1
      clear h1
      go_enter Tryz.func10, Tryz.ntmps10
      go_wp2_with fail
      go_ret
      exact ⟨⟨_, rfl⟩, X0.out.1⟩
    · have d1 := decide_eq_false h1
      clear h1
      by_cases h2 : (10 : Int) < (n2 : Int)
      · have d2 := decide_eq_true h2
        clear h2
        go_enter Tryz.func10, Tryz.ntmps10
        go_wp2_with fail
        go_ret
        exact ⟨⟨_, rfl⟩, X0.out.1⟩
      · have d2 := decide_eq_false h2
        clear h2
        by_cases h3 : (100 : Int) < (n3 : Int)
        · have d3 := decide_eq_true h3
          clear h3
          go_enter Tryz.func10, Tryz.ntmps10
          go_wp2_with fail
          go_ret
          exact ⟨⟨_, rfl⟩, X0.out.1⟩
        · have d3 := decide_eq_false h3
          clear h3
          go_enter Tryz.func10, Tryz.ntmps10
          go_wp2_with fail
          go_ret
          exact ⟨⟨_, rfl⟩, X0.out.1⟩
set_option maxHeartbeats 2000000 in
theorem engineNone_ok {w : World} (hZ : TzT w) (l : Lay) (A0 A1 A2 A3 : Option Addr) (n0 n1 n2 n3 k0 k1 k2 k3 : Nat) (wd xa xb : Int) :
    Calls Tryz.prog 9 #[.agg #[.int .i64 l.a, .int .i64 l.b, .int .i64 l.t, .int .i64 l.s, .int .i64 l.f, .int .i64 l.st, .int .i64 l.n, .int .i64 l.h], .agg #[.slice A0 n0 k0, .int .i64 wd, .slice A1 n1 k1, .slice A2 n2 k2, .slice A3 n3 k3], .agg #[.int .u64 xa, .int .u64 xb]] w fun e w' => e = .returned (.bool true) ∧ Off Nob w w' := by
  have X0 : Hid (Off Nob w (((w.alloc (.cells #[.int .i64 l.a, .int .i64 l.b, .int .i64 l.t, .int .i64 l.s, .int .i64 l.f, .int .i64 l.st, .int .i64 l.n, .int .i64 l.h] 33)).alloc (.cells #[.slice A0 n0 k0, .int .i64 wd, .slice A1 n1 k1, .slice A2 n2 k2, .slice A3 n3 k3] 25)).alloc (.cells #[.int .u64 xa, .int .u64 xb] 84)) ∧ Blk (((w.alloc (.cells #[.int .i64 l.a, .int .i64 l.b, .int .i64 l.t, .int .i64 l.s, .int .i64 l.f, .int .i64 l.st, .int .i64 l.n, .int .i64 l.h] 33)).alloc (.cells #[.slice A0 n0 k0, .int .i64 wd, .slice A1 n1 k1, .slice A2 n2 k2, .slice A3 n3 k3] 25)).alloc (.cells #[.int .u64 xa, .int .u64 xb] 84)) w.heap.size 33 #[.int .i64 l.a, .int .i64 l.b, .int .i64 l.t, .int .i64 l.s, .int .i64 l.f, .int .i64 l.st, .int .i64 l.n, .int .i64 l.h] ∧ Blk (((w.alloc (.cells #[.int .i64 l.a, .int .i64 l.b, .int .i64 l.t, .int .i64 l.s, .int .i64 l.f, .int .i64 l.st, .int .i64 l.n, .int .i64 l.h] 33)).alloc (.cells #[.slice A0 n0 k0, .int .i64 wd, .slice A1 n1 k1, .slice A2 n2 k2, .slice A3 n3 k3] 25)).alloc (.cells #[.int .u64 xa, .int .u64 xb] 84)) (w.heap.size + 1) 25 #[.slice A0 n0 k0, .int .i64 wd, .slice A1 n1 k1, .slice A2 n2 k2, .slice A3 n3 k3] ∧ Blk (((w.alloc (.cells #[.int .i64 l.a, .int .i64 l.b, .int .i64 l.t, .int .i64 l.s, .int .i64 l.f, .int .i64 l.st, .int .i64 l.n, .int .i64 l.h] 33)).alloc (.cells #[.slice A0 n0 k0, .int .i64 wd, .slice A1 n1 k1, .slice A2 n2 k2, .slice A3 n3 k3] 25)).alloc (.cells #[.int .u64 xa, .int .u64 xb] 84)) (w.heap.size + 2) 84 #[.int .u64 xa, .int .u64 xb]) := Lib.hid ⟨(((Off.refl _ _).alloc _).alloc _).alloc _, ((Blk.new _ _ _).alloc _).alloc _, (blk_second _ _ _ _).alloc _, by
    have := Blk.new ((w.alloc (.cells #[.int .i64 l.a, .int .i64 l.b, .int .i64 l.t, .int .i64 l.s, .int .i64 l.f, .int .i64 l.st, .int .i64 l.n, .int .i64 l.h] 33)).alloc (.cells #[.slice A0 n0 k0, .int .i64 wd, .slice A1 n1 k1, .slice A2 n2 k2, .slice A3 n3 k3] 25)) 84 #[.int .u64 xa, .int .u64 xb]
    simpa using this⟩
  have HZ := Lib.hid hZ
  clear hZ
  go_enter Tryz.func9, Tryz.ntmps9
  go_wp2_with fail
  revert X0
  generalize (((w.alloc (.cells #[.int .i64 l.a, .int .i64 l.b, .int .i64 l.t, .int .i64 l.s, .int .i64 l.f, .int .i64 l.st, .int .i64 l.n, .int .i64 l.h] 33)).alloc (.cells #[.slice A0 n0 k0, .int .i64 wd, .slice A1 n1 k1, .slice A2 n2 k2, .slice A3 n3 k3] 25)).alloc (.cells #[.int .u64 xa, .int .u64 xb] 84)) = w0
  intro X0
  have GC : Hid (∀ W, Off Nob w0 W → W.cell? ⟨w.heap.size, 0, none⟩ = some (.int .i64 l.a) ∧ W.cell? ⟨w.heap.size, 1, none⟩ = some (.int .i64 l.b) ∧ W.cell? ⟨w.heap.size, 2, none⟩ = some (.int .i64 l.t) ∧ W.cell? ⟨w.heap.size, 3, none⟩ = some (.int .i64 l.s) ∧ W.cell? ⟨w.heap.size, 4, none⟩ = some (.int .i64 l.f) ∧ W.cell? ⟨w.heap.size, 5, none⟩ = some (.int .i64 l.st) ∧ W.cell? ⟨w.heap.size, 6, none⟩ = some (.int .i64 l.n) ∧ W.cell? ⟨w.heap.size, 7, none⟩ = some (.int .i64 l.h) ∧ W.cell? ⟨w.heap.size + 1, 0, none⟩ = some (.slice A0 n0 k0) ∧ W.cell? ⟨w.heap.size + 1, 1, none⟩ = some (.int .i64 wd) ∧ W.cell? ⟨w.heap.size + 1, 2, none⟩ = some (.slice A1 n1 k1) ∧ W.cell? ⟨w.heap.size + 1, 3, none⟩ = some (.slice A2 n2 k2) ∧ W.cell? ⟨w.heap.size + 1, 4, none⟩ = some (.slice A3 n3 k3) ∧ W.cell? ⟨w.heap.size + 2, 0, none⟩ = some (.int .u64 xa) ∧ W.cell? ⟨w.heap.size + 2, 1, none⟩ = some (.int .u64 xb)) := Lib.hid (fun W o => by
    have h1 := X0.out.2.1.to (o.block _ X0.out.2.1.lt id)
    have h2 := X0.out.2.2.1.to (o.block _ X0.out.2.2.1.lt id)
    have h3 := X0.out.2.2.2.to (o.block _ X0.out.2.2.2.lt id)
    exact ⟨h1.cell 0, h1.cell 1, h1.cell 2, h1.cell 3, h1.cell 4, h1.cell 5, h1.cell 6, h1.cell 7, h2.cell 0, h2.cell 1, h2.cell 2, h2.cell 3, h2.cell 4, h3.cell 0, h3.cell 1⟩)
  refine (large_any A0 A1 A2 A3 n0 n1 n2 n3 k0 k1 k2 k3 wd _).mono ?_
  rintro e v0 ⟨⟨q, rfl⟩, o1⟩
  have Y0 := Lib.hid o1
  clear o1
  obtain ⟨hc1, hc2⟩ := noE_ne l
  cases q
  case true =>
    go_wp2_with fail
    refine (shown_true _ (tz_keep HZ.out (X0.out.1.also Y0.out))).mono ?_
    rintro e v1 ⟨rfl, o1⟩
    have Y1 := Lib.hid (Y0.out.also o1)
    clear o1
    go_wp2_with fail
    go_ret
    exact ⟨rfl, X0.out.1.also Y1.out⟩
  case false =>
    obtain ⟨c0, c1, c2, c3, c4, c5, c6, c7, s0, s1, s2, s3, s4, x0, x1⟩ := GC.out _ Y0.out
    go_wp2_with fail
    refine wp_loop_rounds 3 ?_
    rw [rounds_succ]
    have HA : Hid (∀ W, Off Nob w0 W → NoA W (.pointer none)) := Lib.hid (fun _ _ => .inl rfl)
    have HB : Hid (∀ W, Off Nob w0 W → NoR W (.pointer none)) := Lib.hid (fun _ _ => .inl rfl)
    go_wp2_with fail
    refine (nstate_no l (HA.out _ Y0.out)).mono ?_
    rintro e v1 ⟨rfl, o1⟩
    have Y1 := Lib.hid (Y0.out.also o1)
    clear o1 Y0
    clear c0 c1 c2 c3 c4 c5 c6 c7 s0 s1 s2 s3 s4 x0 x1
    obtain ⟨c0, c1, c2, c3, c4, c5, c6, c7, s0, s1, s2, s3, s4, x0, x1⟩ := GC.out _ Y1.out
    go_wp2_with fail
    refine (rstate_no l (HB.out _ Y1.out)).mono ?_
    rintro e v2 ⟨rfl, o1⟩
    have Y2 := Lib.hid (Y1.out.also o1)
    clear o1 Y1
    clear c0 c1 c2 c3 c4 c5 c6 c7 s0 s1 s2 s3 s4 x0 x1
    obtain ⟨c0, c1, c2, c3, c4, c5, c6, c7, s0, s1, s2, s3, s4, x0, x1⟩ := GC.out _ Y2.out
    go_wp2_with fail
    go_region_held3 (fun W => W.cell? ⟨w.heap.size, 0, none⟩ = some (.int .i64 l.a) ∧ W.cell? ⟨w.heap.size, 1, none⟩ = some (.int .i64 l.b) ∧ W.cell? ⟨w.heap.size, 2, none⟩ = some (.int .i64 l.t) ∧ W.cell? ⟨w.heap.size, 3, none⟩ = some (.int .i64 l.s) ∧ W.cell? ⟨w.heap.size, 4, none⟩ = some (.int .i64 l.f) ∧ W.cell? ⟨w.heap.size, 5, none⟩ = some (.int .i64 l.st) ∧ W.cell? ⟨w.heap.size, 6, none⟩ = some (.int .i64 l.n) ∧ W.cell? ⟨w.heap.size, 7, none⟩ = some (.int .i64 l.h) ∧ W.cell? ⟨w.heap.size + 1, 0, none⟩ = some (.slice A0 n0 k0) ∧ W.cell? ⟨w.heap.size + 1, 1, none⟩ = some (.int .i64 wd) ∧ W.cell? ⟨w.heap.size + 1, 2, none⟩ = some (.slice A1 n1 k1) ∧ W.cell? ⟨w.heap.size + 1, 3, none⟩ = some (.slice A2 n2 k2) ∧ W.cell? ⟨w.heap.size + 1, 4, none⟩ = some (.slice A3 n3 k3) ∧ W.cell? ⟨w.heap.size + 2, 0, none⟩ = some (.int .u64 xa) ∧ W.cell? ⟨w.heap.size + 2, 1, none⟩ = some (.int .u64 xb))
      (first | with_reducible assumption | go_keep)
      (first
        | (go_at_call 15; refine (nsetup_no l A0 A1 A2 A3 n0 n1 n2 n3 k0 k1 k2 k3 wd (HA.out _ (Y2.out.drew))).mono ?_; rintro e v3 ⟨rfl, o1⟩; have Y3 := Lib.hid ((Y2.out.drew).also o1); clear o1 Y2; obtain ⟨c0, c1, c2, c3, c4, c5, c6, c7, s0, s1, s2, s3, s4, x0, x1⟩ := GC.out _ Y3.out)
        | (go_at_call 23; refine (rsetup_no l A0 A1 A2 A3 n0 n1 n2 n3 k0 k1 k2 k3 wd (HB.out _ Y3.out)).mono ?_; rintro e v4 ⟨rfl, o1⟩; have Y4 := Lib.hid (Y3.out.also o1); clear o1 Y3; obtain ⟨c0, c1, c2, c3, c4, c5, c6, c7, s0, s1, s2, s3, s4, x0, x1⟩ := GC.out _ Y4.out)
        | (go_at_call 17; refine (nclear_no l (HA.out _ Y4.out)).mono ?_; rintro e v5 ⟨rfl, o1⟩; have Y5 := Lib.hid (Y4.out.also o1); clear o1 Y4; obtain ⟨c0, c1, c2, c3, c4, c5, c6, c7, s0, s1, s2, s3, s4, x0, x1⟩ := GC.out _ Y5.out)
        | (go_at_call 22; refine (rclear_no l (HB.out _ Y5.out)).mono ?_; rintro e v6 ⟨rfl, o1⟩; have Y6 := Lib.hid (Y5.out.also o1); clear o1 Y5; obtain ⟨c0, c1, c2, c3, c4, c5, c6, c7, s0, s1, s2, s3, s4, x0, x1⟩ := GC.out _ Y6.out)
        | (go_at_call 16; refine (nbyte_no l xa xb (HA.out _ Y6.out)).mono ?_; rintro e v7 ⟨rfl, o1⟩; have Y7 := Lib.hid (Y6.out.also o1); clear o1 Y6; obtain ⟨c0, c1, c2, c3, c4, c5, c6, c7, s0, s1, s2, s3, s4, x0, x1⟩ := GC.out _ Y7.out)
        | (go_at_call 25; refine (rbyte_no l xa xb (HB.out _ Y7.out)).mono ?_; rintro e v8 ⟨rfl, o1⟩; have Y8 := Lib.hid (Y7.out.also o1); clear o1 Y7; obtain ⟨c0, c1, c2, c3, c4, c5, c6, c7, s0, s1, s2, s3, s4, x0, x1⟩ := GC.out _ Y8.out))
    go_wp2_with fail
    clear HA HB
    rw [rounds_succ]
    clear c0 c1 c2 c3 c4 c5 c6 c7 s0 s1 s2 s3 s4 x0 x1
    have YB := Lib.hid ((Y8.out.alloc (.cells #[.slice none 0 0, .int .i64 0, .slice none 0 0, .slice none 0 0, .nilFunc] 91)).alloc (.cells #[.slice none 0 0, .slice none 0 0, .slice none 0 0] 93))
    have BA := Lib.hid ((Blk.new v8 91 #[.slice none 0 0, .int .i64 0, .slice none 0 0, .slice none 0 0, .nilFunc]).alloc (.cells #[.slice none 0 0, .slice none 0 0, .slice none 0 0] 93))
    have BB : Hid (Blk ((v8.alloc (.cells #[.slice none 0 0, .int .i64 0, .slice none 0 0, .slice none 0 0, .nilFunc] 91)).alloc (.cells #[.slice none 0 0, .slice none 0 0, .slice none 0 0] 93)) (v8.heap.size + 1) 93 #[.slice none 0 0, .slice none 0 0, .slice none 0 0]) := Lib.hid (blk_second _ _ _ _)
    obtain ⟨c0, c1, c2, c3, c4, c5, c6, c7, s0, s1, s2, s3, s4, x0, x1⟩ := GC.out _ YB.out
    go_wp2_with fail
    revert YB BA BB c0 c1 c2 c3 c4 c5 c6 c7 s0 s1 s2 s3 s4 x0 x1
    generalize ((v8.alloc (.cells #[.slice none 0 0, .int .i64 0, .slice none 0 0, .slice none 0 0, .nilFunc] 91)).alloc (.cells #[.slice none 0 0, .slice none 0 0, .slice none 0 0] 93)) = u0
    intro YB BA BB c0 c1 c2 c3 c4 c5 c6 c7 s0 s1 s2 s3 s4 x0 x1
    have GC2 : Hid (∀ W, Off Nob u0 W → W.cell? ⟨w.heap.size, 0, none⟩ = some (.int .i64 l.a) ∧ W.cell? ⟨w.heap.size, 1, none⟩ = some (.int .i64 l.b) ∧ W.cell? ⟨w.heap.size, 2, none⟩ = some (.int .i64 l.t) ∧ W.cell? ⟨w.heap.size, 3, none⟩ = some (.int .i64 l.s) ∧ W.cell? ⟨w.heap.size, 4, none⟩ = some (.int .i64 l.f) ∧ W.cell? ⟨w.heap.size, 5, none⟩ = some (.int .i64 l.st) ∧ W.cell? ⟨w.heap.size, 6, none⟩ = some (.int .i64 l.n) ∧ W.cell? ⟨w.heap.size, 7, none⟩ = some (.int .i64 l.h) ∧ W.cell? ⟨w.heap.size + 1, 0, none⟩ = some (.slice A0 n0 k0) ∧ W.cell? ⟨w.heap.size + 1, 1, none⟩ = some (.int .i64 wd) ∧ W.cell? ⟨w.heap.size + 1, 2, none⟩ = some (.slice A1 n1 k1) ∧ W.cell? ⟨w.heap.size + 1, 3, none⟩ = some (.slice A2 n2 k2) ∧ W.cell? ⟨w.heap.size + 1, 4, none⟩ = some (.slice A3 n3 k3) ∧ W.cell? ⟨w.heap.size + 2, 0, none⟩ = some (.int .u64 xa) ∧ W.cell? ⟨w.heap.size + 2, 1, none⟩ = some (.int .u64 xb)) := Lib.hid (fun W o => GC.out _ (YB.out.also o))
    clear GC
    have GC := GC2
    clear GC2
    have HA := Lib.hid (fun (W : World) (o : Off Nob u0 W) => NoA.keep (.inr ⟨_, rfl, BA.out⟩) o)
    have HB := Lib.hid (fun (W : World) (o : Off Nob u0 W) => NoR.keep (.inr ⟨_, rfl, BB.out⟩) o)
    clear Y8
    have Y9 := Lib.hid (Off.refl Nob u0)
    refine (nstate_no l (HA.out _ Y9.out)).mono ?_
    rintro e v9 ⟨rfl, o1⟩
    have Y10 := Lib.hid (Y9.out.also o1)
    clear o1 Y9
    clear c0 c1 c2 c3 c4 c5 c6 c7 s0 s1 s2 s3 s4 x0 x1
    obtain ⟨c0, c1, c2, c3, c4, c5, c6, c7, s0, s1, s2, s3, s4, x0, x1⟩ := GC.out _ Y10.out
    go_wp2_with fail
    refine (rstate_no l (HB.out _ Y10.out)).mono ?_
    rintro e v10 ⟨rfl, o1⟩
    have Y11 := Lib.hid (Y10.out.also o1)
    clear o1 Y10
    clear c0 c1 c2 c3 c4 c5 c6 c7 s0 s1 s2 s3 s4 x0 x1
    obtain ⟨c0, c1, c2, c3, c4, c5, c6, c7, s0, s1, s2, s3, s4, x0, x1⟩ := GC.out _ Y11.out
    go_wp2_with fail
    go_region_held3 (fun W => W.cell? ⟨w.heap.size, 0, none⟩ = some (.int .i64 l.a) ∧ W.cell? ⟨w.heap.size, 1, none⟩ = some (.int .i64 l.b) ∧ W.cell? ⟨w.heap.size, 2, none⟩ = some (.int .i64 l.t) ∧ W.cell? ⟨w.heap.size, 3, none⟩ = some (.int .i64 l.s) ∧ W.cell? ⟨w.heap.size, 4, none⟩ = some (.int .i64 l.f) ∧ W.cell? ⟨w.heap.size, 5, none⟩ = some (.int .i64 l.st) ∧ W.cell? ⟨w.heap.size, 6, none⟩ = some (.int .i64 l.n) ∧ W.cell? ⟨w.heap.size, 7, none⟩ = some (.int .i64 l.h) ∧ W.cell? ⟨w.heap.size + 1, 0, none⟩ = some (.slice A0 n0 k0) ∧ W.cell? ⟨w.heap.size + 1, 1, none⟩ = some (.int .i64 wd) ∧ W.cell? ⟨w.heap.size + 1, 2, none⟩ = some (.slice A1 n1 k1) ∧ W.cell? ⟨w.heap.size + 1, 3, none⟩ = some (.slice A2 n2 k2) ∧ W.cell? ⟨w.heap.size + 1, 4, none⟩ = some (.slice A3 n3 k3) ∧ W.cell? ⟨w.heap.size + 2, 0, none⟩ = some (.int .u64 xa) ∧ W.cell? ⟨w.heap.size + 2, 1, none⟩ = some (.int .u64 xb))
      (first | with_reducible assumption | go_keep)
      (first
        | (go_at_call 15; refine (nsetup_no l A0 A1 A2 A3 n0 n1 n2 n3 k0 k1 k2 k3 wd (HA.out _ (Y11.out.drew))).mono ?_; rintro e v11 ⟨rfl, o1⟩; have Y12 := Lib.hid ((Y11.out.drew).also o1); clear o1 Y11; obtain ⟨c0, c1, c2, c3, c4, c5, c6, c7, s0, s1, s2, s3, s4, x0, x1⟩ := GC.out _ Y12.out)
        | (go_at_call 23; refine (rsetup_no l A0 A1 A2 A3 n0 n1 n2 n3 k0 k1 k2 k3 wd (HB.out _ Y12.out)).mono ?_; rintro e v12 ⟨rfl, o1⟩; have Y13 := Lib.hid (Y12.out.also o1); clear o1 Y12; obtain ⟨c0, c1, c2, c3, c4, c5, c6, c7, s0, s1, s2, s3, s4, x0, x1⟩ := GC.out _ Y13.out)
        | (go_at_call 17; refine (nclear_no l (HA.out _ Y13.out)).mono ?_; rintro e v13 ⟨rfl, o1⟩; have Y14 := Lib.hid (Y13.out.also o1); clear o1 Y13; obtain ⟨c0, c1, c2, c3, c4, c5, c6, c7, s0, s1, s2, s3, s4, x0, x1⟩ := GC.out _ Y14.out)
        | (go_at_call 22; refine (rclear_no l (HB.out _ Y14.out)).mono ?_; rintro e v14 ⟨rfl, o1⟩; have Y15 := Lib.hid (Y14.out.also o1); clear o1 Y14; obtain ⟨c0, c1, c2, c3, c4, c5, c6, c7, s0, s1, s2, s3, s4, x0, x1⟩ := GC.out _ Y15.out)
        | (go_at_call 16; refine (nbyte_no l xa xb (HA.out _ Y15.out)).mono ?_; rintro e v15 ⟨rfl, o1⟩; have Y16 := Lib.hid (Y15.out.also o1); clear o1 Y15; obtain ⟨c0, c1, c2, c3, c4, c5, c6, c7, s0, s1, s2, s3, s4, x0, x1⟩ := GC.out _ Y16.out)
        | (go_at_call 25; refine (rbyte_no l xa xb (HB.out _ Y16.out)).mono ?_; rintro e v16 ⟨rfl, o1⟩; have Y17 := Lib.hid (Y16.out.also o1); clear o1 Y16; obtain ⟨c0, c1, c2, c3, c4, c5, c6, c7, s0, s1, s2, s3, s4, x0, x1⟩ := GC.out _ Y17.out))
    go_wp2_with fail
    clear HA HB
    rw [rounds_succ]
    go_wp2_with fail
    refine (shown_true _ (tz_keep HZ.out ((X0.out.1.also YB.out).also Y17.out))).mono ?_
    rintro e vz ⟨rfl, o1⟩
    have YZ := Lib.hid (((X0.out.1.also YB.out).also Y17.out).also o1)
    clear o1
    go_wp2_with fail
    go_ret
    exact ⟨rfl, YZ.out⟩
theorem lay_of {ls : List Value} (hl : ls.length = 8) (hk : ∀ f j κ, kindAt Tryz.prog f 33 j = some κ → ∃ u, ls[j]? = some u ∧ okV κ u) : ∃ l : Lay, ls.toArray = #[.int .i64 l.a, .int .i64 l.b, .int .i64 l.t, .int .i64 l.s, .int .i64 l.f, .int .i64 l.st, .int .i64 l.n, .int .i64 l.h] := by
  match ls, hl with
  | [a, b, c, d, e, f, g, h], _ =>
    obtain ⟨u0, e0, x0, f0, _⟩ := hk 3 0 (some .i64) (by kernel_rfl)
    obtain ⟨u1, e1, x1, f1, _⟩ := hk 3 1 (some .i64) (by kernel_rfl)
    obtain ⟨u2, e2, x2, f2, _⟩ := hk 3 2 (some .i64) (by kernel_rfl)
    obtain ⟨u3, e3, x3, f3, _⟩ := hk 3 3 (some .i64) (by kernel_rfl)
    obtain ⟨u4, e4, x4, f4, _⟩ := hk 3 4 (some .i64) (by kernel_rfl)
    obtain ⟨u5, e5, x5, f5, _⟩ := hk 3 5 (some .i64) (by kernel_rfl)
    obtain ⟨u6, e6, x6, f6, _⟩ := hk 3 6 (some .i64) (by kernel_rfl)
    obtain ⟨u7, e7, x7, f7, _⟩ := hk 3 7 (some .i64) (by kernel_rfl)
    obtain rfl : a = u0 := by simpa using e0
    subst f0
    obtain rfl : b = u1 := by simpa using e1
    subst f1
    obtain rfl : c = u2 := by simpa using e2
    subst f2
    obtain rfl : d = u3 := by simpa using e3
    subst f3
    obtain rfl : e = u4 := by simpa using e4
    subst f4
    obtain rfl : f = u5 := by simpa using e5
    subst f5
    obtain rfl : g = u6 := by simpa using e6
    subst f6
    obtain rfl : h = u7 := by simpa using e7
    subst f7
    exact ⟨⟨x0, x1, x2, x3, x4, x5, x6, x7⟩, rfl⟩
theorem engineNone_walk {w : World} (hZ : TzT w) (ls : List Value) (hl : ls.length = 8) (hk : ∀ f j κ, kindAt Tryz.prog f 33 j = some κ → ∃ u, ls[j]? = some u ∧ okV κ u) (A0 A1 A2 A3 : Option Addr) (n0 n1 n2 n3 k0 k1 k2 k3 : Nat) (wd : Int) (a b : BitVec 64) :
    Calls Tryz.prog 9 #[.agg ls.toArray, .agg #[.slice A0 n0 k0, .int .i64 wd, .slice A1 n1 k1, .slice A2 n2 k2, .slice A3 n3 k3], .agg #[.int .u64 (n64 a), .int .u64 (n64 b)]] w fun e w' => e = .returned (.bool true) ∧ Off Nob w w' := by
  obtain ⟨l, e⟩ := lay_of hl hk
  rw [e]
  exact engineNone_ok hZ l A0 A1 A2 A3 n0 n1 n2 n3 k0 k1 k2 k3 wd (n64 a) (n64 b)
end Go.Proofs.YtkflicifngohcaaGreatDoor
