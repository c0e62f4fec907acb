/-
  The functions of engine, and of its specification, at arenas that are none: nil, or zero.
-/
import Derived.Test.YtkflicifngohcaaGreatDoorJ38
namespace Go.Proofs.YtkflicifngohcaaGreatDoor
open Go.RowKit
set_option linter.unusedVariables false
set_option linter.unusedSimpArgs false
set_option maxRecDepth 100000
/-- An arena of the program's that is none. -/
def NoA (w : World) (v : Value) : Prop := v = .pointer none ∨ ∃ g, v = .pointer (some ⟨g, 0, none⟩) ∧ Blk w g 91 #[.slice none 0 0, .int .i64 0, .slice none 0 0, .slice none 0 0, .nilFunc]
/-- One of the specification's. -/
def NoR (w : World) (v : Value) : Prop := v = .pointer none ∨ ∃ g, v = .pointer (some ⟨g, 0, none⟩) ∧ Blk w g 93 #[.slice none 0 0, .slice none 0 0, .slice none 0 0]
theorem NoA.keep {w w' : World} {v : Value} (h : NoA w v) (o : Off Nob w w') : NoA w' v := h.elim .inl (fun ⟨g, e, hb⟩ => .inr ⟨g, e, hb.to (o.block _ hb.lt id)⟩)
theorem NoR.keep {w w' : World} {v : Value} (h : NoR w v) (o : Off Nob w w') : NoR w' v := h.elim .inl (fun ⟨g, e, hb⟩ => .inr ⟨g, e, hb.to (o.block _ hb.lt id)⟩)
theorem none_no {w : World} {v : Value} (h : NoA w v) : Calls Tryz.prog 56 #[v] w fun e w' => e = .returned (.bool true) ∧ w = w' := by
  rcases h with rfl | ⟨g, rfl, hb⟩
  · exact none_nil w
  · have c4 : w.cell? ⟨g, 4, none⟩ = some .nilFunc := hb.cell 4
    have hq : (binOp .eql 89 .nilFunc .nilFunc).run Tryz.prog w = .ok (.bool true) w := by kernel_rfl
    clear hb
    go_enter Tryz.func56, Tryz.ntmps56
    go_wp2
    go_ret
    exact ⟨rfl, rfl⟩
theorem has_no {w : World} {v : Value} (h : NoA w v) (x k : Int) : Calls Tryz.prog 87 #[v, .int .i64 x, .int .i64 k] w fun e w' => e = .returned (.int .i64 1) ∧ w = w' := by
  have HN := Lib.hid (none_no h)
  clear h
  go_enter Tryz.func87, Tryz.ntmps87
  go_wp2_with (go_at_call 56; refine HN.out.mono ?_; rintro e w' ⟨rfl, rfl⟩)
  go_ret
  exact ⟨rfl, rfl⟩
theorem rhas_no {w : World} {v : Value} (h : NoR w v) (x k : Int) : Calls Tryz.prog 102 #[v, .int .i64 x, .int .i64 k] w fun e w' => e = .returned (.int .i64 1) ∧ w = w' := by
  rcases h with rfl | ⟨g, rfl, hb⟩
  · exact rhas_nil w x k
  · have c0 : w.cell? ⟨g, 0, none⟩ = some (.slice none 0 0) := hb.cell 0
    have HN : Hid (Calls Tryz.prog 103 #[.pointer (some ⟨g, 0, none⟩)] w fun e w' => e = .returned (.bool true) ∧ w = w') := Lib.hid (by
      clear hb
      go_enter Tryz.func103, Tryz.ntmps103
      go_wp2
      go_ret
      exact ⟨rfl, rfl⟩)
    clear hb c0
    go_enter Tryz.func102, Tryz.ntmps102
    go_wp2_with (go_at_call 103; refine HN.out.mono ?_; rintro e w' ⟨rfl, rfl⟩)
    go_ret
    exact ⟨rfl, rfl⟩
/-- The error at an arena that is none. -/
def noE (l : Lay) : Int := if 1 ≤ l.a ∧ l.a ≤ 4 ∧ 1 ≤ l.b ∧ l.b ≤ 16 then 1 else 7
theorem noE_ne (l : Lay) : (noE l == 0) = false ∧ (noE l != 0) = true := by unfold noE; split <;> exact ⟨rfl, rfl⟩
set_option maxHeartbeats 2000000 in
theorem begin_no (l : Lay) {w : World} {v : Value} (h : NoA w v) (steps : Int) (fn : Fn) (bs caps : Array Value) :
    Calls Tryz.prog 40 #[v, .agg #[.int .i64 l.a, .int .i64 l.b, .int .i64 l.t, .int .i64 l.s, .int .i64 l.f, .int .i64 l.st, .int .i64 l.n, .int .i64 l.h], .int .i64 steps, .func fn bs caps] w fun e w' => e = .returned (.tuple #[.pointer none, .int .i64 (noE l)]) ∧ Off Nob w w' := by
  have HA : Hid (∀ W, Off Nob w W → NoA W v) := Lib.hid (fun W o => h.keep o)
  clear h
  have X0 : Hid (Off Nob w (w.alloc (.cells #[.int .i64 l.a, .int .i64 l.b, .int .i64 l.t, .int .i64 l.s, .int .i64 l.f, .int .i64 l.st, .int .i64 l.n, .int .i64 l.h] 33)) ∧ Blk (w.alloc (.cells #[.int .i64 l.a, .int .i64 l.b, .int .i64 l.t, .int .i64 l.s, .int .i64 l.f, .int .i64 l.st, .int .i64 l.n, .int .i64 l.h] 33)) w.heap.size 33 #[.int .i64 l.a, .int .i64 l.b, .int .i64 l.t, .int .i64 l.s, .int .i64 l.f, .int .i64 l.st, .int .i64 l.n, .int .i64 l.h]) := Lib.hid ⟨(Off.refl _ _).alloc _, Blk.new _ _ _⟩
  have GC : Hid (∀ W, Off Nob (w.alloc (.cells #[.int .i64 l.a, .int .i64 l.b, .int .i64 l.t, .int .i64 l.s, .int .i64 l.f, .int .i64 l.st, .int .i64 l.n, .int .i64 l.h] 33)) W → W.cell? ⟨w.heap.size, 0, none⟩ = some (.int .i64 l.a) ∧ W.cell? ⟨w.heap.size, 1, none⟩ = some (.int .i64 l.b) ∧ W.cell? ⟨w.heap.size, 2, none⟩ = some (.int .i64 l.t) ∧ W.cell? ⟨w.heap.size, 3, none⟩ = some (.int .i64 l.s) ∧ W.cell? ⟨w.heap.size, 4, none⟩ = some (.int .i64 l.f) ∧ W.cell? ⟨w.heap.size, 5, none⟩ = some (.int .i64 l.st) ∧ W.cell? ⟨w.heap.size, 6, none⟩ = some (.int .i64 l.n) ∧ W.cell? ⟨w.heap.size, 7, none⟩ = some (.int .i64 l.h)) := Lib.hid (fun W o => by
    have h := X0.out.2.to (o.block _ X0.out.2.lt id)
    exact ⟨h.cell 0, h.cell 1, h.cell 2, h.cell 3, h.cell 4, h.cell 5, h.cell 6, h.cell 7⟩)
  by_cases hr : 1 ≤ l.a ∧ l.a ≤ 4 ∧ 1 ≤ l.b ∧ l.b ≤ 16
  · have HE : Hid (noE l = 1) := Lib.hid (if_pos hr)
    obtain ⟨a1, a4, b1, b16⟩ := hr
    have hba0 : 0 ≤ l.b * l.a := Int.mul_nonneg (by omega) (by omega)
    have hba1 : l.b * l.a ≤ 64 := by
      have : l.a = 1 ∨ l.a = 2 ∨ l.a = 3 ∨ l.a = 4 := by omega
      rcases this with e | e | e | e <;> rw [e] <;> omega
    have HR : Hid (∀ W, Calls Tryz.prog 74 #[.int .i64 l.a, .int .i64 l.b] W fun e w' => e = .returned (.bool true) ∧ W = w') := Lib.hid (fun W => nright_yes l.a l.b a1 a4 b1 b16 W)
    obtain ⟨q, hq⟩ : ∃ q, l.b * l.a = q := ⟨_, rfl⟩
    rw [HE.out]
    go_enter Tryz.func40, Tryz.ntmps40
    go_wp2_with fail
    revert X0 GC
    generalize (w.alloc (.cells #[.int .i64 l.a, .int .i64 l.b, .int .i64 l.t, .int .i64 l.s, .int .i64 l.f, .int .i64 l.st, .int .i64 l.n, .int .i64 l.h] 33)) = w0
    intro X0 GC
    refine (HR.out _).mono ?_
    rintro e w1 ⟨rfl, rfl⟩
    obtain ⟨c0, c1, c2, c3, c4, c5, c6, c7⟩ := GC.out _ (Off.refl _ _)
    go_wp2_with fail
    clear c0 c1 c2 c3 c4 c5 c6 c7
    obtain ⟨N, hN⟩ : ∃ N, w0.heap.size = N := ⟨_, rfl⟩
    have X1 : Hid (Off Nob w (w0.alloc (.cells #[.int .i64 l.t, .int .i64 (256 * l.a), .int .i64 l.s, .int .i64 l.a, .int .i64 l.f, .int .i64 q, .int .i64 l.st, .int .i64 l.a, .int .i64 l.n, .int .i64 l.a, .int .i64 l.h, .int .i64 l.b] 155)) ∧ Blk (w0.alloc (.cells #[.int .i64 l.t, .int .i64 (256 * l.a), .int .i64 l.s, .int .i64 l.a, .int .i64 l.f, .int .i64 q, .int .i64 l.st, .int .i64 l.a, .int .i64 l.n, .int .i64 l.a, .int .i64 l.h, .int .i64 l.b] 155)) N 155 #[.int .i64 l.t, .int .i64 (256 * l.a), .int .i64 l.s, .int .i64 l.a, .int .i64 l.f, .int .i64 q, .int .i64 l.st, .int .i64 l.a, .int .i64 l.n, .int .i64 l.a, .int .i64 l.h, .int .i64 l.b]) := Lib.hid ⟨X0.out.1.alloc _, by rw [← hN]; exact Blk.new _ _ _⟩
    rw [hN]
    revert X1
    generalize w0.alloc (.cells #[.int .i64 l.t, .int .i64 (256 * l.a), .int .i64 l.s, .int .i64 l.a, .int .i64 l.f, .int .i64 q, .int .i64 l.st, .int .i64 l.a, .int .i64 l.n, .int .i64 l.a, .int .i64 l.h, .int .i64 l.b] 155) = w1
    intro X1
    clear hN
    refine wp_loop_rounds 1 ?_
    rw [rounds_succ]
    have e0 := X1.out.2.cell 0
    have e1 := X1.out.2.cell 1
    have X2 := Lib.hid (X1.out.1.alloc (.cells #[.int .i64 l.t, .int .i64 (256 * l.a)] 155))
    have x0 := (Blk.new w1 155 #[.int .i64 l.t, .int .i64 (256 * l.a)]).cell 0
    have x1 := (Blk.new w1 155 #[.int .i64 l.t, .int .i64 (256 * l.a)]).cell 1
    go_wp2_with fail
    refine (has_no (HA.out _ X2.out) _ _).mono ?_
    rintro e w2 ⟨rfl, rfl⟩
    go_wp2_with fail
    go_ret2
    exact ⟨rfl, X2.out⟩
  · have HE : Hid (noE l = 7) := Lib.hid (if_neg hr)
    have HR : Hid (∀ W, Calls Tryz.prog 74 #[.int .i64 l.a, .int .i64 l.b] W fun e w' => e = .returned (.bool false) ∧ W = w') := Lib.hid (fun W => nright_no l.a l.b hr W)
    rw [HE.out]
    clear hr
    go_enter Tryz.func40, Tryz.ntmps40
    go_wp2_with fail
    revert X0 GC
    generalize (w.alloc (.cells #[.int .i64 l.a, .int .i64 l.b, .int .i64 l.t, .int .i64 l.s, .int .i64 l.f, .int .i64 l.st, .int .i64 l.n, .int .i64 l.h] 33)) = w0
    intro X0 GC
    refine (HR.out _).mono ?_
    rintro e w1 ⟨rfl, rfl⟩
    go_wp2_with fail
    go_ret2
    exact ⟨rfl, X0.out.1⟩
set_option maxHeartbeats 2000000 in
theorem rparts_yes (l : Lay) (a1 : 1 ≤ l.a) (a4 : l.a ≤ 4) (b1 : 1 ≤ l.b) (b16 : l.b ≤ 16) (w : World) :
    Calls Tryz.prog 101 #[.agg #[.int .i64 l.a, .int .i64 l.b, .int .i64 l.t, .int .i64 l.s, .int .i64 l.f, .int .i64 l.st, .int .i64 l.n, .int .i64 l.h]] w fun e w' => ∃ g, e = .returned (.slice (some ⟨g, 0, none⟩) 6 6) ∧ Blk w' g 171 #[.int .i64 l.t, .int .i64 (256 * l.a), .int .i64 l.s, .int .i64 l.a, .int .i64 l.f, .int .i64 (l.b * l.a), .int .i64 l.st, .int .i64 l.a, .int .i64 l.n, .int .i64 l.a, .int .i64 l.h, .int .i64 l.b] ∧ Off Nob w w' := by
  have hba0 : 0 ≤ l.b * l.a := Int.mul_nonneg (by omega) (by omega)
  have hba1 : l.b * l.a ≤ 64 := by
    have : l.a = 1 ∨ l.a = 2 ∨ l.a = 3 ∨ l.a = 4 := by omega
    rcases this with e | e | e | e <;> rw [e] <;> omega
  obtain ⟨q, hq⟩ : ∃ q, l.b * l.a = q := ⟨_, rfl⟩
  have HQ := Lib.hid hq
  have X0 : Hid (Off Nob w (w.alloc (.cells #[.int .i64 l.a, .int .i64 l.b, .int .i64 l.t, .int .i64 l.s, .int .i64 l.f, .int .i64 l.st, .int .i64 l.n, .int .i64 l.h] 33)) ∧ Blk (w.alloc (.cells #[.int .i64 l.a, .int .i64 l.b, .int .i64 l.t, .int .i64 l.s, .int .i64 l.f, .int .i64 l.st, .int .i64 l.n, .int .i64 l.h] 33)) w.heap.size 33 #[.int .i64 l.a, .int .i64 l.b, .int .i64 l.t, .int .i64 l.s, .int .i64 l.f, .int .i64 l.st, .int .i64 l.n, .int .i64 l.h]) := Lib.hid ⟨(Off.refl _ _).alloc _, Blk.new _ _ _⟩
  have c0 := X0.out.2.cell 0
  have c1 := X0.out.2.cell 1
  have c2 := X0.out.2.cell 2
  have c3 := X0.out.2.cell 3
  have c4 := X0.out.2.cell 4
  have c5 := X0.out.2.cell 5
  have c6 := X0.out.2.cell 6
  have c7 := X0.out.2.cell 7
  go_enter Tryz.func101, Tryz.ntmps101
  go_wp2_with fail
  go_ret
  exact ⟨_, rfl, by rw [HQ.out]; exact blk_second _ _ _ _, X0.out.1.alloc _⟩
set_option maxHeartbeats 2000000 in
theorem rasked_no (l : Lay) {w : World} {v : Value} (h : NoR w v) :
    Calls Tryz.prog 61 #[v, .agg #[.int .i64 l.a, .int .i64 l.b, .int .i64 l.t, .int .i64 l.s, .int .i64 l.f, .int .i64 l.st, .int .i64 l.n, .int .i64 l.h]] w fun e w' => e = .returned (.int .i64 (noE l)) ∧ Off Nob w w' := by
  have HA : Hid (∀ W, Off Nob w W → NoR W v) := Lib.hid (fun W o => h.keep o)
  clear h
  have X0 : Hid (Off Nob w (w.alloc (.cells #[.int .i64 l.a, .int .i64 l.b, .int .i64 l.t, .int .i64 l.s, .int .i64 l.f, .int .i64 l.st, .int .i64 l.n, .int .i64 l.h] 33)) ∧ Blk (w.alloc (.cells #[.int .i64 l.a, .int .i64 l.b, .int .i64 l.t, .int .i64 l.s, .int .i64 l.f, .int .i64 l.st, .int .i64 l.n, .int .i64 l.h] 33)) w.heap.size 33 #[.int .i64 l.a, .int .i64 l.b, .int .i64 l.t, .int .i64 l.s, .int .i64 l.f, .int .i64 l.st, .int .i64 l.n, .int .i64 l.h]) := Lib.hid ⟨(Off.refl _ _).alloc _, Blk.new _ _ _⟩
  have GC : Hid (∀ W, Off Nob (w.alloc (.cells #[.int .i64 l.a, .int .i64 l.b, .int .i64 l.t, .int .i64 l.s, .int .i64 l.f, .int .i64 l.st, .int .i64 l.n, .int .i64 l.h] 33)) W → W.cell? ⟨w.heap.size, 0, none⟩ = some (.int .i64 l.a) ∧ W.cell? ⟨w.heap.size, 1, none⟩ = some (.int .i64 l.b) ∧ W.cell? ⟨w.heap.size, 2, none⟩ = some (.int .i64 l.t) ∧ W.cell? ⟨w.heap.size, 3, none⟩ = some (.int .i64 l.s) ∧ W.cell? ⟨w.heap.size, 4, none⟩ = some (.int .i64 l.f) ∧ W.cell? ⟨w.heap.size, 5, none⟩ = some (.int .i64 l.st) ∧ W.cell? ⟨w.heap.size, 6, none⟩ = some (.int .i64 l.n) ∧ W.cell? ⟨w.heap.size, 7, none⟩ = some (.int .i64 l.h)) := Lib.hid (fun W o => by
    have h := X0.out.2.to (o.block _ X0.out.2.lt id)
    exact ⟨h.cell 0, h.cell 1, h.cell 2, h.cell 3, h.cell 4, h.cell 5, h.cell 6, h.cell 7⟩)
  by_cases hr : 1 ≤ l.a ∧ l.a ≤ 4 ∧ 1 ≤ l.b ∧ l.b ≤ 16
  · have HE : Hid (noE l = 1) := Lib.hid (if_pos hr)
    obtain ⟨a1, a4, b1, b16⟩ := hr
    have HR : Hid (∀ W, Calls Tryz.prog 75 #[.int .i64 l.a, .int .i64 l.b] W fun e w' => e = .returned (.bool true) ∧ W = w') := Lib.hid (fun W => rright_yes l.a l.b a1 a4 b1 b16 W)
    have HP := Lib.hid (rparts_yes l a1 a4 b1 b16)
    clear a1 a4 b1 b16
    rw [HE.out]
    go_enter Tryz.func61, Tryz.ntmps61
    go_wp2_with fail
    revert X0 GC
    generalize (w.alloc (.cells #[.int .i64 l.a, .int .i64 l.b, .int .i64 l.t, .int .i64 l.s, .int .i64 l.f, .int .i64 l.st, .int .i64 l.n, .int .i64 l.h] 33)) = w0
    intro X0 GC
    refine (HR.out _).mono ?_
    rintro e w1 ⟨rfl, rfl⟩
    obtain ⟨c0, c1, c2, c3, c4, c5, c6, c7⟩ := GC.out _ (Off.refl _ _)
    go_wp2_with fail
    clear c0 c1 c2 c3 c4 c5 c6 c7
    refine (HP.out _).mono ?_
    rintro e w1 ⟨g, rfl, hb, o1⟩
    have X1 := Lib.hid (And.intro (X0.out.1.also o1) hb)
    clear hb o1
    go_wp2_with fail
    refine wp_loop_rounds 1 ?_
    rw [rounds_succ]
    have e0 := X1.out.2.cell 0
    have e1 := X1.out.2.cell 1
    go_wp2_with fail
    have HH : Hid (∀ W, Off Nob w1 W → Calls Tryz.prog 102 #[v, .int .i64 l.t, .int .i64 (256 * l.a)] W fun e w' => e = .returned (.int .i64 1) ∧ W = w') := Lib.hid (fun W o => rhas_no (HA.out _ (X1.out.1.also o)) _ _)
    have HD := Lib.hid ((Off.refl Nob w1).drew)
    go_region_held3 (fun W => W.cell? ⟨g, 0, none⟩ = some (.int .i64 l.t) ∧ W.cell? ⟨g, 1, none⟩ = some (.int .i64 (256 * l.a)))
      (first | with_reducible assumption | go_keep)
      (first
        | (go_at_call 102; refine (HH.out _ HD.out).mono ?_; rintro e w2 ⟨rfl, rfl⟩))
    go_wp2_with fail
    go_ret
    exact ⟨rfl, X1.out.1.also HD.out⟩
  · have HE : Hid (noE l = 7) := Lib.hid (if_neg hr)
    have HR : Hid (∀ W, Calls Tryz.prog 75 #[.int .i64 l.a, .int .i64 l.b] W fun e w' => e = .returned (.bool false) ∧ W = w') := Lib.hid (fun W => rright_no l.a l.b hr W)
    rw [HE.out]
    clear hr
    go_enter Tryz.func61, Tryz.ntmps61
    go_wp2_with fail
    revert X0 GC
    generalize (w.alloc (.cells #[.int .i64 l.a, .int .i64 l.b, .int .i64 l.t, .int .i64 l.s, .int .i64 l.f, .int .i64 l.st, .int .i64 l.n, .int .i64 l.h] 33)) = w0
    intro X0 GC
    refine (HR.out _).mono ?_
    rintro e w1 ⟨rfl, rfl⟩
    go_wp2_with fail
    go_ret
    exact ⟨rfl, X0.out.1⟩
set_option maxHeartbeats 2000000 in
theorem nstate_no (l : Lay)  {w : World} {v : Value} (h : NoA w v) :
    Calls Tryz.prog 18 #[v, .agg #[.int .i64 l.a, .int .i64 l.b, .int .i64 l.t, .int .i64 l.s, .int .i64 l.f, .int .i64 l.st, .int .i64 l.n, .int .i64 l.h]] w fun e w' => e = .returned (.tuple #[.slice none 0 0, .int .i64 (noE l)]) ∧ Off Nob w w' := by
  have hmf : ∀ (fn : Fn) (first cap : Array Value) (w : World), (Instr.makeFunc fn first cap).run Tryz.prog w = .ok (.func fn first cap) w := fun _ _ _ _ => rfl
  have HA : Hid (∀ W, Off Nob w W → NoA W v) := Lib.hid (fun W o => h.keep o)
  clear h
  go_enter Tryz.func18, Tryz.ntmps18
  go_wp2_with fail
  have X0 : Hid (Off Nob w (w.alloc (.cells #[.int .i64 l.a, .int .i64 l.b, .int .i64 l.t, .int .i64 l.s, .int .i64 l.f, .int .i64 l.st, .int .i64 l.n, .int .i64 l.h] 33)) ∧ Blk (w.alloc (.cells #[.int .i64 l.a, .int .i64 l.b, .int .i64 l.t, .int .i64 l.s, .int .i64 l.f, .int .i64 l.st, .int .i64 l.n, .int .i64 l.h] 33)) w.heap.size 33 #[.int .i64 l.a, .int .i64 l.b, .int .i64 l.t, .int .i64 l.s, .int .i64 l.f, .int .i64 l.st, .int .i64 l.n, .int .i64 l.h]) := Lib.hid ⟨((Off.refl Nob w).alloc _), (show Blk (w.alloc (.cells #[.int .i64 l.a, .int .i64 l.b, .int .i64 l.t, .int .i64 l.s, .int .i64 l.f, .int .i64 l.st, .int .i64 l.n, .int .i64 l.h] 33)) (w.heap.size) 33 #[.int .i64 l.a, .int .i64 l.b, .int .i64 l.t, .int .i64 l.s, .int .i64 l.f, .int .i64 l.st, .int .i64 l.n, .int .i64 l.h] from by
    have := Blk.new w 33 #[.int .i64 l.a, .int .i64 l.b, .int .i64 l.t, .int .i64 l.s, .int .i64 l.f, .int .i64 l.st, .int .i64 l.n, .int .i64 l.h]
    simpa using this)⟩
  revert X0
  generalize (w.alloc (.cells #[.int .i64 l.a, .int .i64 l.b, .int .i64 l.t, .int .i64 l.s, .int .i64 l.f, .int .i64 l.st, .int .i64 l.n, .int .i64 l.h] 33)) = W0
  intro X0
  refine (begin_no l (HA.out _ X0.out.1) _ _ _ _).mono ?_
  rintro e w1 ⟨rfl, o1⟩
  obtain ⟨hc1, hc2⟩ := noE_ne l
  obtain ⟨c, hcE⟩ : ∃ c, noE l = c := ⟨_, rfl⟩
  have HCE := Lib.hid hcE
  rw [hcE] at hc1 hc2 ⊢
  clear hcE
  have X1 := Lib.hid (X0.out.1.also o1)
  go_wp2_with fail
  go_ret2
  exact ⟨by rw [HCE.out]; rfl, X1.out⟩
set_option maxHeartbeats 2000000 in
theorem nclear_no (l : Lay)  {w : World} {v : Value} (h : NoA w v) :
    Calls Tryz.prog 17 #[v, .agg #[.int .i64 l.a, .int .i64 l.b, .int .i64 l.t, .int .i64 l.s, .int .i64 l.f, .int .i64 l.st, .int .i64 l.n, .int .i64 l.h]] w fun e w' => e = .returned (.int .i64 (noE l)) ∧ Off Nob w w' := by
  have hmf : ∀ (fn : Fn) (first cap : Array Value) (w : World), (Instr.makeFunc fn first cap).run Tryz.prog w = .ok (.func fn first cap) w := fun _ _ _ _ => rfl
  have HA : Hid (∀ W, Off Nob w W → NoA W v) := Lib.hid (fun W o => h.keep o)
  clear h
  go_enter_defers Tryz.func17, Tryz.ntmps17
  go_wp2_with fail
  have X0 : Hid (Off Nob w ((w.alloc (.cells #[.int .i64 l.a, .int .i64 l.b, .int .i64 l.t, .int .i64 l.s, .int .i64 l.f, .int .i64 l.st, .int .i64 l.n, .int .i64 l.h] 33)).alloc (.cells #[.int .i64 0] 29)) ∧ Blk ((w.alloc (.cells #[.int .i64 l.a, .int .i64 l.b, .int .i64 l.t, .int .i64 l.s, .int .i64 l.f, .int .i64 l.st, .int .i64 l.n, .int .i64 l.h] 33)).alloc (.cells #[.int .i64 0] 29)) w.heap.size 33 #[.int .i64 l.a, .int .i64 l.b, .int .i64 l.t, .int .i64 l.s, .int .i64 l.f, .int .i64 l.st, .int .i64 l.n, .int .i64 l.h] ∧ Blk ((w.alloc (.cells #[.int .i64 l.a, .int .i64 l.b, .int .i64 l.t, .int .i64 l.s, .int .i64 l.f, .int .i64 l.st, .int .i64 l.n, .int .i64 l.h] 33)).alloc (.cells #[.int .i64 0] 29)) (w.heap.size + 1) 29 #[.int .i64 0]) := Lib.hid ⟨(((Off.refl Nob w).alloc _).alloc _), (Blk.alloc (show Blk (w.alloc (.cells #[.int .i64 l.a, .int .i64 l.b, .int .i64 l.t, .int .i64 l.s, .int .i64 l.f, .int .i64 l.st, .int .i64 l.n, .int .i64 l.h] 33)) (w.heap.size) 33 #[.int .i64 l.a, .int .i64 l.b, .int .i64 l.t, .int .i64 l.s, .int .i64 l.f, .int .i64 l.st, .int .i64 l.n, .int .i64 l.h] from by
    have := Blk.new w 33 #[.int .i64 l.a, .int .i64 l.b, .int .i64 l.t, .int .i64 l.s, .int .i64 l.f, .int .i64 l.st, .int .i64 l.n, .int .i64 l.h]
    simpa using this) _), (show Blk ((w.alloc (.cells #[.int .i64 l.a, .int .i64 l.b, .int .i64 l.t, .int .i64 l.s, .int .i64 l.f, .int .i64 l.st, .int .i64 l.n, .int .i64 l.h] 33)).alloc (.cells #[.int .i64 0] 29)) ((w.heap.size + 1)) 29 #[.int .i64 0] from by
    have := Blk.new (w.alloc (.cells #[.int .i64 l.a, .int .i64 l.b, .int .i64 l.t, .int .i64 l.s, .int .i64 l.f, .int .i64 l.st, .int .i64 l.n, .int .i64 l.h] 33)) 29 #[.int .i64 0]
    simpa using this)⟩
  revert X0
  generalize ((w.alloc (.cells #[.int .i64 l.a, .int .i64 l.b, .int .i64 l.t, .int .i64 l.s, .int .i64 l.f, .int .i64 l.st, .int .i64 l.n, .int .i64 l.h] 33)).alloc (.cells #[.int .i64 0] 29)) = W0
  intro X0
  refine (begin_no l (HA.out _ X0.out.1) _ _ _ _).mono ?_
  rintro e w1 ⟨rfl, o1⟩
  obtain ⟨hc1, hc2⟩ := noE_ne l
  obtain ⟨c, hcE⟩ : ∃ c, noE l = c := ⟨_, rfl⟩
  have HCE := Lib.hid hcE
  rw [hcE] at hc1 hc2 ⊢
  clear hcE
  have R1 := Lib.hid ((X0.out.2.2.to (o1.block _ X0.out.2.2.lt id)).alloc (.cells #[.pointer none] 107))
  have X1 := Lib.hid ((X0.out.1.also o1).alloc (.cells #[.pointer none] 107))
  clear o1
  have r1 := R1.out.cell 0
  have f1 := R1.out.frozen 0
  have R2 := Lib.hid (R1.out.put 0 (.int .i64 c))
  have r2 := R2.out.cell 0
  have f2 := R2.out.frozen 0
  have R3 := Lib.hid (R2.out.put 0 (.int .i64 c))
  have r3 := R3.out.cell 0
  go_wp2_with fail
  simp [bodyPostD, Leaves, settle, results, Tryz.results17, go_sem, r3]
  exact ⟨HCE.out.symm, (X1.out.put (p := ⟨w.heap.size + 1, 0, none⟩) (.inr (Nat.le_add_right _ _)) _).put (p := ⟨w.heap.size + 1, 0, none⟩) (.inr (Nat.le_add_right _ _)) _⟩
set_option maxHeartbeats 2000000 in
theorem nsetup_no (l : Lay) (A0 A1 A2 A3 : Option Addr) (n0 n1 n2 n3 k0 k1 k2 k3 : Nat) (wd : Int) {w : World} {v : Value} (h : NoA w v) :
    Calls Tryz.prog 15 #[v, .agg #[.int .i64 l.a, .int .i64 l.b, .int .i64 l.t, .int .i64 l.s, .int .i64 l.f, .int .i64 l.st, .int .i64 l.n, .int .i64 l.h], .agg #[.slice A0 n0 k0, .int .i64 wd, .slice A1 n1 k1, .slice A2 n2 k2, .slice A3 n3 k3]] w fun e w' => e = .returned (.int .i64 (noE l)) ∧ Off Nob w w' := by
  have hmf : ∀ (fn : Fn) (first cap : Array Value) (w : World), (Instr.makeFunc fn first cap).run Tryz.prog w = .ok (.func fn first cap) w := fun _ _ _ _ => rfl
  have HA : Hid (∀ W, Off Nob w W → NoA W v) := Lib.hid (fun W o => h.keep o)
  clear h
  have HN : Hid (∃ x y z : Int, ∀ W, Calls Tryz.prog 27 #[.int .i64 l.a, .int .i64 l.b] W fun e w' => e = .returned (.tuple #[.int .i64 x, .int .i64 y, .int .i64 z]) ∧ W = w') := Lib.hid (by
    by_cases h : 1 ≤ l.a ∧ l.a ≤ 4 ∧ 1 ≤ l.b ∧ l.b ≤ 16
    · obtain ⟨h0, h1, h2, h3⟩ := h
      exact ⟨_, _, _, fun W => nsteps_yes l.a l.b h0 h1 h2 h3 W⟩
    · exact ⟨_, _, _, fun W => nsteps_no l.a l.b h W⟩)
  obtain ⟨sx, sy, sz, hst⟩ := HN.out
  have HST := Lib.hid hst
  clear hst HN
  go_enter_defers Tryz.func15, Tryz.ntmps15
  go_wp2_with fail
  have X0 : Hid (Off Nob w (((w.alloc (.cells #[.int .i64 l.a, .int .i64 l.b, .int .i64 l.t, .int .i64 l.s, .int .i64 l.f, .int .i64 l.st, .int .i64 l.n, .int .i64 l.h] 33)).alloc (.cells #[.slice A0 n0 k0, .int .i64 wd, .slice A1 n1 k1, .slice A2 n2 k2, .slice A3 n3 k3] 25)).alloc (.cells #[.int .i64 0] 29)) ∧ Blk (((w.alloc (.cells #[.int .i64 l.a, .int .i64 l.b, .int .i64 l.t, .int .i64 l.s, .int .i64 l.f, .int .i64 l.st, .int .i64 l.n, .int .i64 l.h] 33)).alloc (.cells #[.slice A0 n0 k0, .int .i64 wd, .slice A1 n1 k1, .slice A2 n2 k2, .slice A3 n3 k3] 25)).alloc (.cells #[.int .i64 0] 29)) w.heap.size 33 #[.int .i64 l.a, .int .i64 l.b, .int .i64 l.t, .int .i64 l.s, .int .i64 l.f, .int .i64 l.st, .int .i64 l.n, .int .i64 l.h] ∧ Blk (((w.alloc (.cells #[.int .i64 l.a, .int .i64 l.b, .int .i64 l.t, .int .i64 l.s, .int .i64 l.f, .int .i64 l.st, .int .i64 l.n, .int .i64 l.h] 33)).alloc (.cells #[.slice A0 n0 k0, .int .i64 wd, .slice A1 n1 k1, .slice A2 n2 k2, .slice A3 n3 k3] 25)).alloc (.cells #[.int .i64 0] 29)) (w.heap.size + 1) 25 #[.slice A0 n0 k0, .int .i64 wd, .slice A1 n1 k1, .slice A2 n2 k2, .slice A3 n3 k3] ∧ Blk (((w.alloc (.cells #[.int .i64 l.a, .int .i64 l.b, .int .i64 l.t, .int .i64 l.s, .int .i64 l.f, .int .i64 l.st, .int .i64 l.n, .int .i64 l.h] 33)).alloc (.cells #[.slice A0 n0 k0, .int .i64 wd, .slice A1 n1 k1, .slice A2 n2 k2, .slice A3 n3 k3] 25)).alloc (.cells #[.int .i64 0] 29)) (w.heap.size + 2) 29 #[.int .i64 0]) := Lib.hid ⟨((((Off.refl Nob w).alloc _).alloc _).alloc _), (Blk.alloc (Blk.alloc (show Blk (w.alloc (.cells #[.int .i64 l.a, .int .i64 l.b, .int .i64 l.t, .int .i64 l.s, .int .i64 l.f, .int .i64 l.st, .int .i64 l.n, .int .i64 l.h] 33)) (w.heap.size) 33 #[.int .i64 l.a, .int .i64 l.b, .int .i64 l.t, .int .i64 l.s, .int .i64 l.f, .int .i64 l.st, .int .i64 l.n, .int .i64 l.h] from by
    have := Blk.new w 33 #[.int .i64 l.a, .int .i64 l.b, .int .i64 l.t, .int .i64 l.s, .int .i64 l.f, .int .i64 l.st, .int .i64 l.n, .int .i64 l.h]
    simpa using this) _) _), (Blk.alloc (show Blk ((w.alloc (.cells #[.int .i64 l.a, .int .i64 l.b, .int .i64 l.t, .int .i64 l.s, .int .i64 l.f, .int .i64 l.st, .int .i64 l.n, .int .i64 l.h] 33)).alloc (.cells #[.slice A0 n0 k0, .int .i64 wd, .slice A1 n1 k1, .slice A2 n2 k2, .slice A3 n3 k3] 25)) ((w.heap.size + 1)) 25 #[.slice A0 n0 k0, .int .i64 wd, .slice A1 n1 k1, .slice A2 n2 k2, .slice A3 n3 k3] from by
    have := Blk.new (w.alloc (.cells #[.int .i64 l.a, .int .i64 l.b, .int .i64 l.t, .int .i64 l.s, .int .i64 l.f, .int .i64 l.st, .int .i64 l.n, .int .i64 l.h] 33)) 25 #[.slice A0 n0 k0, .int .i64 wd, .slice A1 n1 k1, .slice A2 n2 k2, .slice A3 n3 k3]
    simpa using this) _), (show Blk (((w.alloc (.cells #[.int .i64 l.a, .int .i64 l.b, .int .i64 l.t, .int .i64 l.s, .int .i64 l.f, .int .i64 l.st, .int .i64 l.n, .int .i64 l.h] 33)).alloc (.cells #[.slice A0 n0 k0, .int .i64 wd, .slice A1 n1 k1, .slice A2 n2 k2, .slice A3 n3 k3] 25)).alloc (.cells #[.int .i64 0] 29)) ((w.heap.size + 2)) 29 #[.int .i64 0] from by
    have := Blk.new ((w.alloc (.cells #[.int .i64 l.a, .int .i64 l.b, .int .i64 l.t, .int .i64 l.s, .int .i64 l.f, .int .i64 l.st, .int .i64 l.n, .int .i64 l.h] 33)).alloc (.cells #[.slice A0 n0 k0, .int .i64 wd, .slice A1 n1 k1, .slice A2 n2 k2, .slice A3 n3 k3] 25)) 29 #[.int .i64 0]
    simpa using this)⟩
  revert X0
  generalize (((w.alloc (.cells #[.int .i64 l.a, .int .i64 l.b, .int .i64 l.t, .int .i64 l.s, .int .i64 l.f, .int .i64 l.st, .int .i64 l.n, .int .i64 l.h] 33)).alloc (.cells #[.slice A0 n0 k0, .int .i64 wd, .slice A1 n1 k1, .slice A2 n2 k2, .slice A3 n3 k3] 25)).alloc (.cells #[.int .i64 0] 29)) = W0
  intro X0
  refine (HST.out _).mono ?_
  rintro e w' ⟨rfl, rfl⟩
  have c0 := X0.out.2.1.cell 0
  have c1 := X0.out.2.1.cell 1
  have c2 := X0.out.2.1.cell 2
  have c3 := X0.out.2.1.cell 3
  have c4 := X0.out.2.1.cell 4
  have c5 := X0.out.2.1.cell 5
  have c6 := X0.out.2.1.cell 6
  have c7 := X0.out.2.1.cell 7
  have s0 := X0.out.2.2.1.cell 0
  have s1 := X0.out.2.2.1.cell 1
  have s2 := X0.out.2.2.1.cell 2
  have s3 := X0.out.2.2.1.cell 3
  have s4 := X0.out.2.2.1.cell 4
  have r0 := X0.out.2.2.2.cell 0
  have fr := X0.out.2.2.2.frozen 0
  go_wp2_with fail
  refine (begin_no l (HA.out _ X0.out.1) _ _ _ _).mono ?_
  rintro e w1 ⟨rfl, o1⟩
  obtain ⟨hc1, hc2⟩ := noE_ne l
  obtain ⟨c, hcE⟩ : ∃ c, noE l = c := ⟨_, rfl⟩
  have HCE := Lib.hid hcE
  rw [hcE] at hc1 hc2 ⊢
  clear hcE
  have R1 := Lib.hid ((X0.out.2.2.2.to (o1.block _ X0.out.2.2.2.lt id)).alloc (.cells #[.pointer none] 107))
  have X1 := Lib.hid ((X0.out.1.also o1).alloc (.cells #[.pointer none] 107))
  clear o1
  have r1 := R1.out.cell 0
  have f1 := R1.out.frozen 0
  have R2 := Lib.hid (R1.out.put 0 (.int .i64 c))
  have r2 := R2.out.cell 0
  have f2 := R2.out.frozen 0
  have R3 := Lib.hid (R2.out.put 0 (.int .i64 c))
  have r3 := R3.out.cell 0
  go_wp2_with fail
  simp [bodyPostD, Leaves, settle, results, Tryz.results15, go_sem, r3]
  exact ⟨HCE.out.symm, (X1.out.put (p := ⟨w.heap.size + 2, 0, none⟩) (.inr (Nat.le_add_right _ _)) _).put (p := ⟨w.heap.size + 2, 0, none⟩) (.inr (Nat.le_add_right _ _)) _⟩
set_option maxHeartbeats 2000000 in
theorem nbyte_no (l : Lay) (b m : Int) {w : World} {v : Value} (h : NoA w v) :
    Calls Tryz.prog 16 #[v, .agg #[.int .i64 l.a, .int .i64 l.b, .int .i64 l.t, .int .i64 l.s, .int .i64 l.f, .int .i64 l.st, .int .i64 l.n, .int .i64 l.h], .int .u64 b, .int .u64 m] w fun e w' => e = .returned (.int .i64 (noE l)) ∧ Off Nob w w' := by
  have hmf : ∀ (fn : Fn) (first cap : Array Value) (w : World), (Instr.makeFunc fn first cap).run Tryz.prog w = .ok (.func fn first cap) w := fun _ _ _ _ => rfl
  have HA : Hid (∀ W, Off Nob w W → NoA W v) := Lib.hid (fun W o => h.keep o)
  clear h
  have HN : Hid (∃ x y z : Int, ∀ W, Calls Tryz.prog 27 #[.int .i64 l.a, .int .i64 l.b] W fun e w' => e = .returned (.tuple #[.int .i64 x, .int .i64 y, .int .i64 z]) ∧ W = w') := Lib.hid (by
    by_cases h : 1 ≤ l.a ∧ l.a ≤ 4 ∧ 1 ≤ l.b ∧ l.b ≤ 16
    · obtain ⟨h0, h1, h2, h3⟩ := h
      exact ⟨_, _, _, fun W => nsteps_yes l.a l.b h0 h1 h2 h3 W⟩
    · exact ⟨_, _, _, fun W => nsteps_no l.a l.b h W⟩)
  obtain ⟨sx, sy, sz, hst⟩ := HN.out
  have HST := Lib.hid hst
  clear hst HN
  go_enter_defers Tryz.func16, Tryz.ntmps16
  go_wp2_with fail
  have X0 : Hid (Off Nob w (((w.alloc (.cells #[.int .i64 l.a, .int .i64 l.b, .int .i64 l.t, .int .i64 l.s, .int .i64 l.f, .int .i64 l.st, .int .i64 l.n, .int .i64 l.h] 33)).alloc (.cells #[.int .u64 m] 41)).alloc (.cells #[.int .i64 0] 29)) ∧ Blk (((w.alloc (.cells #[.int .i64 l.a, .int .i64 l.b, .int .i64 l.t, .int .i64 l.s, .int .i64 l.f, .int .i64 l.st, .int .i64 l.n, .int .i64 l.h] 33)).alloc (.cells #[.int .u64 m] 41)).alloc (.cells #[.int .i64 0] 29)) w.heap.size 33 #[.int .i64 l.a, .int .i64 l.b, .int .i64 l.t, .int .i64 l.s, .int .i64 l.f, .int .i64 l.st, .int .i64 l.n, .int .i64 l.h] ∧ Blk (((w.alloc (.cells #[.int .i64 l.a, .int .i64 l.b, .int .i64 l.t, .int .i64 l.s, .int .i64 l.f, .int .i64 l.st, .int .i64 l.n, .int .i64 l.h] 33)).alloc (.cells #[.int .u64 m] 41)).alloc (.cells #[.int .i64 0] 29)) (w.heap.size + 1) 41 #[.int .u64 m] ∧ Blk (((w.alloc (.cells #[.int .i64 l.a, .int .i64 l.b, .int .i64 l.t, .int .i64 l.s, .int .i64 l.f, .int .i64 l.st, .int .i64 l.n, .int .i64 l.h] 33)).alloc (.cells #[.int .u64 m] 41)).alloc (.cells #[.int .i64 0] 29)) (w.heap.size + 2) 29 #[.int .i64 0]) := Lib.hid ⟨((((Off.refl Nob w).alloc _).alloc _).alloc _), (Blk.alloc (Blk.alloc (show Blk (w.alloc (.cells #[.int .i64 l.a, .int .i64 l.b, .int .i64 l.t, .int .i64 l.s, .int .i64 l.f, .int .i64 l.st, .int .i64 l.n, .int .i64 l.h] 33)) (w.heap.size) 33 #[.int .i64 l.a, .int .i64 l.b, .int .i64 l.t, .int .i64 l.s, .int .i64 l.f, .int .i64 l.st, .int .i64 l.n, .int .i64 l.h] from by
    have := Blk.new w 33 #[.int .i64 l.a, .int .i64 l.b, .int .i64 l.t, .int .i64 l.s, .int .i64 l.f, .int .i64 l.st, .int .i64 l.n, .int .i64 l.h]
    simpa using this) _) _), (Blk.alloc (show Blk ((w.alloc (.cells #[.int .i64 l.a, .int .i64 l.b, .int .i64 l.t, .int .i64 l.s, .int .i64 l.f, .int .i64 l.st, .int .i64 l.n, .int .i64 l.h] 33)).alloc (.cells #[.int .u64 m] 41)) ((w.heap.size + 1)) 41 #[.int .u64 m] from by
    have := Blk.new (w.alloc (.cells #[.int .i64 l.a, .int .i64 l.b, .int .i64 l.t, .int .i64 l.s, .int .i64 l.f, .int .i64 l.st, .int .i64 l.n, .int .i64 l.h] 33)) 41 #[.int .u64 m]
    simpa using this) _), (show Blk (((w.alloc (.cells #[.int .i64 l.a, .int .i64 l.b, .int .i64 l.t, .int .i64 l.s, .int .i64 l.f, .int .i64 l.st, .int .i64 l.n, .int .i64 l.h] 33)).alloc (.cells #[.int .u64 m] 41)).alloc (.cells #[.int .i64 0] 29)) ((w.heap.size + 2)) 29 #[.int .i64 0] from by
    have := Blk.new ((w.alloc (.cells #[.int .i64 l.a, .int .i64 l.b, .int .i64 l.t, .int .i64 l.s, .int .i64 l.f, .int .i64 l.st, .int .i64 l.n, .int .i64 l.h] 33)).alloc (.cells #[.int .u64 m] 41)) 29 #[.int .i64 0]
    simpa using this)⟩
  revert X0
  generalize (((w.alloc (.cells #[.int .i64 l.a, .int .i64 l.b, .int .i64 l.t, .int .i64 l.s, .int .i64 l.f, .int .i64 l.st, .int .i64 l.n, .int .i64 l.h] 33)).alloc (.cells #[.int .u64 m] 41)).alloc (.cells #[.int .i64 0] 29)) = W0
  intro X0
  refine (HST.out _).mono ?_
  rintro e w' ⟨rfl, rfl⟩
  have c0 := X0.out.2.1.cell 0
  have c1 := X0.out.2.1.cell 1
  have c2 := X0.out.2.1.cell 2
  have c3 := X0.out.2.1.cell 3
  have c4 := X0.out.2.1.cell 4
  have c5 := X0.out.2.1.cell 5
  have c6 := X0.out.2.1.cell 6
  have c7 := X0.out.2.1.cell 7
  have u0 := X0.out.2.2.1.cell 0
  have r0 := X0.out.2.2.2.cell 0
  have fr := X0.out.2.2.2.frozen 0
  go_wp2_with fail
  refine (begin_no l (HA.out _ X0.out.1) _ _ _ _).mono ?_
  rintro e w1 ⟨rfl, o1⟩
  obtain ⟨hc1, hc2⟩ := noE_ne l
  obtain ⟨c, hcE⟩ : ∃ c, noE l = c := ⟨_, rfl⟩
  have HCE := Lib.hid hcE
  rw [hcE] at hc1 hc2 ⊢
  clear hcE
  have R1 := Lib.hid ((X0.out.2.2.2.to (o1.block _ X0.out.2.2.2.lt id)).alloc (.cells #[.pointer none] 107))
  have X1 := Lib.hid ((X0.out.1.also o1).alloc (.cells #[.pointer none] 107))
  clear o1
  have r1 := R1.out.cell 0
  have f1 := R1.out.frozen 0
  have R2 := Lib.hid (R1.out.put 0 (.int .i64 c))
  have r2 := R2.out.cell 0
  have f2 := R2.out.frozen 0
  have R3 := Lib.hid (R2.out.put 0 (.int .i64 c))
  have r3 := R3.out.cell 0
  go_wp2_with fail
  simp [bodyPostD, Leaves, settle, results, Tryz.results16, go_sem, r3]
  exact ⟨HCE.out.symm, (X1.out.put (p := ⟨w.heap.size + 2, 0, none⟩) (.inr (Nat.le_add_right _ _)) _).put (p := ⟨w.heap.size + 2, 0, none⟩) (.inr (Nat.le_add_right _ _)) _⟩
set_option maxHeartbeats 2000000 in
theorem rstate_no (l : Lay)  {w : World} {v : Value} (h : NoR w v) :
    Calls Tryz.prog 26 #[v, .agg #[.int .i64 l.a, .int .i64 l.b, .int .i64 l.t, .int .i64 l.s, .int .i64 l.f, .int .i64 l.st, .int .i64 l.n, .int .i64 l.h]] w fun e w' => e = .returned (.tuple #[.slice none 0 0, .int .i64 (noE l)]) ∧ Off Nob w w' := by
  have hmf : ∀ (fn : Fn) (first cap : Array Value) (w : World), (Instr.makeFunc fn first cap).run Tryz.prog w = .ok (.func fn first cap) w := fun _ _ _ _ => rfl
  have HA : Hid (∀ W, Off Nob w W → NoR W v) := Lib.hid (fun W o => h.keep o)
  clear h
  go_enter Tryz.func26, Tryz.ntmps26
  go_wp2_with fail
  have X0 : Hid (Off Nob w (w.alloc (.cells #[.int .i64 l.a, .int .i64 l.b, .int .i64 l.t, .int .i64 l.s, .int .i64 l.f, .int .i64 l.st, .int .i64 l.n, .int .i64 l.h] 33)) ∧ Blk (w.alloc (.cells #[.int .i64 l.a, .int .i64 l.b, .int .i64 l.t, .int .i64 l.s, .int .i64 l.f, .int .i64 l.st, .int .i64 l.n, .int .i64 l.h] 33)) w.heap.size 33 #[.int .i64 l.a, .int .i64 l.b, .int .i64 l.t, .int .i64 l.s, .int .i64 l.f, .int .i64 l.st, .int .i64 l.n, .int .i64 l.h]) := Lib.hid ⟨((Off.refl Nob w).alloc _), (show Blk (w.alloc (.cells #[.int .i64 l.a, .int .i64 l.b, .int .i64 l.t, .int .i64 l.s, .int .i64 l.f, .int .i64 l.st, .int .i64 l.n, .int .i64 l.h] 33)) (w.heap.size) 33 #[.int .i64 l.a, .int .i64 l.b, .int .i64 l.t, .int .i64 l.s, .int .i64 l.f, .int .i64 l.st, .int .i64 l.n, .int .i64 l.h] from by
    have := Blk.new w 33 #[.int .i64 l.a, .int .i64 l.b, .int .i64 l.t, .int .i64 l.s, .int .i64 l.f, .int .i64 l.st, .int .i64 l.n, .int .i64 l.h]
    simpa using this)⟩
  revert X0
  generalize (w.alloc (.cells #[.int .i64 l.a, .int .i64 l.b, .int .i64 l.t, .int .i64 l.s, .int .i64 l.f, .int .i64 l.st, .int .i64 l.n, .int .i64 l.h] 33)) = W0
  intro X0
  refine (rasked_no l (HA.out _ X0.out.1)).mono ?_
  rintro e w1 ⟨rfl, o1⟩
  obtain ⟨hc1, hc2⟩ := noE_ne l
  obtain ⟨c, hcE⟩ : ∃ c, noE l = c := ⟨_, rfl⟩
  have HCE := Lib.hid hcE
  rw [hcE] at hc1 hc2 ⊢
  clear hcE
  have X1 := Lib.hid (X0.out.1.also o1)
  go_wp2_with fail
  go_ret2
  exact ⟨by rw [HCE.out]; rfl, X1.out⟩
set_option maxHeartbeats 2000000 in
theorem rclear_no (l : Lay)  {w : World} {v : Value} (h : NoR w v) :
    Calls Tryz.prog 22 #[v, .agg #[.int .i64 l.a, .int .i64 l.b, .int .i64 l.t, .int .i64 l.s, .int .i64 l.f, .int .i64 l.st, .int .i64 l.n, .int .i64 l.h]] w fun e w' => e = .returned (.int .i64 (noE l)) ∧ Off Nob w w' := by
  have hmf : ∀ (fn : Fn) (first cap : Array Value) (w : World), (Instr.makeFunc fn first cap).run Tryz.prog w = .ok (.func fn first cap) w := fun _ _ _ _ => rfl
  have HA : Hid (∀ W, Off Nob w W → NoR W v) := Lib.hid (fun W o => h.keep o)
  clear h
  go_enter Tryz.func22, Tryz.ntmps22
  go_wp2_with fail
  have X0 : Hid (Off Nob w (w.alloc (.cells #[.int .i64 l.a, .int .i64 l.b, .int .i64 l.t, .int .i64 l.s, .int .i64 l.f, .int .i64 l.st, .int .i64 l.n, .int .i64 l.h] 33)) ∧ Blk (w.alloc (.cells #[.int .i64 l.a, .int .i64 l.b, .int .i64 l.t, .int .i64 l.s, .int .i64 l.f, .int .i64 l.st, .int .i64 l.n, .int .i64 l.h] 33)) w.heap.size 33 #[.int .i64 l.a, .int .i64 l.b, .int .i64 l.t, .int .i64 l.s, .int .i64 l.f, .int .i64 l.st, .int .i64 l.n, .int .i64 l.h]) := Lib.hid ⟨((Off.refl Nob w).alloc _), (show Blk (w.alloc (.cells #[.int .i64 l.a, .int .i64 l.b, .int .i64 l.t, .int .i64 l.s, .int .i64 l.f, .int .i64 l.st, .int .i64 l.n, .int .i64 l.h] 33)) (w.heap.size) 33 #[.int .i64 l.a, .int .i64 l.b, .int .i64 l.t, .int .i64 l.s, .int .i64 l.f, .int .i64 l.st, .int .i64 l.n, .int .i64 l.h] from by
    have := Blk.new w 33 #[.int .i64 l.a, .int .i64 l.b, .int .i64 l.t, .int .i64 l.s, .int .i64 l.f, .int .i64 l.st, .int .i64 l.n, .int .i64 l.h]
    simpa using this)⟩
  revert X0
  generalize (w.alloc (.cells #[.int .i64 l.a, .int .i64 l.b, .int .i64 l.t, .int .i64 l.s, .int .i64 l.f, .int .i64 l.st, .int .i64 l.n, .int .i64 l.h] 33)) = W0
  intro X0
  refine (rasked_no l (HA.out _ X0.out.1)).mono ?_
  rintro e w1 ⟨rfl, o1⟩
  obtain ⟨hc1, hc2⟩ := noE_ne l
  obtain ⟨c, hcE⟩ : ∃ c, noE l = c := ⟨_, rfl⟩
  have HCE := Lib.hid hcE
  rw [hcE] at hc1 hc2 ⊢
  clear hcE
  have X1 := Lib.hid (X0.out.1.also o1)
  go_wp2_with fail
  go_ret
  exact ⟨by rw [HCE.out]; rfl, X1.out⟩
set_option maxHeartbeats 2000000 in
theorem rsetup_no (l : Lay) (A0 A1 A2 A3 : Option Addr) (n0 n1 n2 n3 k0 k1 k2 k3 : Nat) (wd : Int) {w : World} {v : Value} (h : NoR w v) :
    Calls Tryz.prog 23 #[v, .agg #[.int .i64 l.a, .int .i64 l.b, .int .i64 l.t, .int .i64 l.s, .int .i64 l.f, .int .i64 l.st, .int .i64 l.n, .int .i64 l.h], .agg #[.slice A0 n0 k0, .int .i64 wd, .slice A1 n1 k1, .slice A2 n2 k2, .slice A3 n3 k3]] w fun e w' => e = .returned (.int .i64 (noE l)) ∧ Off Nob w w' := by
  have hmf : ∀ (fn : Fn) (first cap : Array Value) (w : World), (Instr.makeFunc fn first cap).run Tryz.prog w = .ok (.func fn first cap) w := fun _ _ _ _ => rfl
  have HA : Hid (∀ W, Off Nob w W → NoR W v) := Lib.hid (fun W o => h.keep o)
  clear h
  go_enter Tryz.func23, Tryz.ntmps23
  go_wp2_with fail
  have X0 : Hid (Off Nob w ((w.alloc (.cells #[.int .i64 l.a, .int .i64 l.b, .int .i64 l.t, .int .i64 l.s, .int .i64 l.f, .int .i64 l.st, .int .i64 l.n, .int .i64 l.h] 33)).alloc (.cells #[.slice A0 n0 k0, .int .i64 wd, .slice A1 n1 k1, .slice A2 n2 k2, .slice A3 n3 k3] 25)) ∧ Blk ((w.alloc (.cells #[.int .i64 l.a, .int .i64 l.b, .int .i64 l.t, .int .i64 l.s, .int .i64 l.f, .int .i64 l.st, .int .i64 l.n, .int .i64 l.h] 33)).alloc (.cells #[.slice A0 n0 k0, .int .i64 wd, .slice A1 n1 k1, .slice A2 n2 k2, .slice A3 n3 k3] 25)) w.heap.size 33 #[.int .i64 l.a, .int .i64 l.b, .int .i64 l.t, .int .i64 l.s, .int .i64 l.f, .int .i64 l.st, .int .i64 l.n, .int .i64 l.h] ∧ Blk ((w.alloc (.cells #[.int .i64 l.a, .int .i64 l.b, .int .i64 l.t, .int .i64 l.s, .int .i64 l.f, .int .i64 l.st, .int .i64 l.n, .int .i64 l.h] 33)).alloc (.cells #[.slice A0 n0 k0, .int .i64 wd, .slice A1 n1 k1, .slice A2 n2 k2, .slice A3 n3 k3] 25)) (w.heap.size + 1) 25 #[.slice A0 n0 k0, .int .i64 wd, .slice A1 n1 k1, .slice A2 n2 k2, .slice A3 n3 k3]) := Lib.hid ⟨(((Off.refl Nob w).alloc _).alloc _), (Blk.alloc (show Blk (w.alloc (.cells #[.int .i64 l.a, .int .i64 l.b, .int .i64 l.t, .int .i64 l.s, .int .i64 l.f, .int .i64 l.st, .int .i64 l.n, .int .i64 l.h] 33)) (w.heap.size) 33 #[.int .i64 l.a, .int .i64 l.b, .int .i64 l.t, .int .i64 l.s, .int .i64 l.f, .int .i64 l.st, .int .i64 l.n, .int .i64 l.h] from by
    have := Blk.new w 33 #[.int .i64 l.a, .int .i64 l.b, .int .i64 l.t, .int .i64 l.s, .int .i64 l.f, .int .i64 l.st, .int .i64 l.n, .int .i64 l.h]
    simpa using this) _), (show Blk ((w.alloc (.cells #[.int .i64 l.a, .int .i64 l.b, .int .i64 l.t, .int .i64 l.s, .int .i64 l.f, .int .i64 l.st, .int .i64 l.n, .int .i64 l.h] 33)).alloc (.cells #[.slice A0 n0 k0, .int .i64 wd, .slice A1 n1 k1, .slice A2 n2 k2, .slice A3 n3 k3] 25)) ((w.heap.size + 1)) 25 #[.slice A0 n0 k0, .int .i64 wd, .slice A1 n1 k1, .slice A2 n2 k2, .slice A3 n3 k3] from by
    have := Blk.new (w.alloc (.cells #[.int .i64 l.a, .int .i64 l.b, .int .i64 l.t, .int .i64 l.s, .int .i64 l.f, .int .i64 l.st, .int .i64 l.n, .int .i64 l.h] 33)) 25 #[.slice A0 n0 k0, .int .i64 wd, .slice A1 n1 k1, .slice A2 n2 k2, .slice A3 n3 k3]
    simpa using this)⟩
  revert X0
  generalize ((w.alloc (.cells #[.int .i64 l.a, .int .i64 l.b, .int .i64 l.t, .int .i64 l.s, .int .i64 l.f, .int .i64 l.st, .int .i64 l.n, .int .i64 l.h] 33)).alloc (.cells #[.slice A0 n0 k0, .int .i64 wd, .slice A1 n1 k1, .slice A2 n2 k2, .slice A3 n3 k3] 25)) = W0
  intro X0
  refine (rasked_no l (HA.out _ X0.out.1)).mono ?_
  rintro e w1 ⟨rfl, o1⟩
  obtain ⟨hc1, hc2⟩ := noE_ne l
  obtain ⟨c, hcE⟩ : ∃ c, noE l = c := ⟨_, rfl⟩
  have HCE := Lib.hid hcE
  rw [hcE] at hc1 hc2 ⊢
  clear hcE
  have X1 := Lib.hid (X0.out.1.also o1)
  go_wp2_with fail
  go_ret
  exact ⟨by rw [HCE.out]; rfl, X1.out⟩
set_option maxHeartbeats 2000000 in
theorem rbyte_no (l : Lay) (b m : Int) {w : World} {v : Value} (h : NoR w v) :
    Calls Tryz.prog 25 #[v, .agg #[.int .i64 l.a, .int .i64 l.b, .int .i64 l.t, .int .i64 l.s, .int .i64 l.f, .int .i64 l.st, .int .i64 l.n, .int .i64 l.h], .int .u64 b, .int .u64 m] w fun e w' => e = .returned (.int .i64 (noE l)) ∧ Off Nob w w' := by
  have hmf : ∀ (fn : Fn) (first cap : Array Value) (w : World), (Instr.makeFunc fn first cap).run Tryz.prog w = .ok (.func fn first cap) w := fun _ _ _ _ => rfl
  have HA : Hid (∀ W, Off Nob w W → NoR W v) := Lib.hid (fun W o => h.keep o)
  clear h
  go_enter Tryz.func25, Tryz.ntmps25
  go_wp2_with fail
  have X0 : Hid (Off Nob w (w.alloc (.cells #[.int .i64 l.a, .int .i64 l.b, .int .i64 l.t, .int .i64 l.s, .int .i64 l.f, .int .i64 l.st, .int .i64 l.n, .int .i64 l.h] 33)) ∧ Blk (w.alloc (.cells #[.int .i64 l.a, .int .i64 l.b, .int .i64 l.t, .int .i64 l.s, .int .i64 l.f, .int .i64 l.st, .int .i64 l.n, .int .i64 l.h] 33)) w.heap.size 33 #[.int .i64 l.a, .int .i64 l.b, .int .i64 l.t, .int .i64 l.s, .int .i64 l.f, .int .i64 l.st, .int .i64 l.n, .int .i64 l.h]) := Lib.hid ⟨((Off.refl Nob w).alloc _), (show Blk (w.alloc (.cells #[.int .i64 l.a, .int .i64 l.b, .int .i64 l.t, .int .i64 l.s, .int .i64 l.f, .int .i64 l.st, .int .i64 l.n, .int .i64 l.h] 33)) (w.heap.size) 33 #[.int .i64 l.a, .int .i64 l.b, .int .i64 l.t, .int .i64 l.s, .int .i64 l.f, .int .i64 l.st, .int .i64 l.n, .int .i64 l.h] from by
    have := Blk.new w 33 #[.int .i64 l.a, .int .i64 l.b, .int .i64 l.t, .int .i64 l.s, .int .i64 l.f, .int .i64 l.st, .int .i64 l.n, .int .i64 l.h]
    simpa using this)⟩
  revert X0
  generalize (w.alloc (.cells #[.int .i64 l.a, .int .i64 l.b, .int .i64 l.t, .int .i64 l.s, .int .i64 l.f, .int .i64 l.st, .int .i64 l.n, .int .i64 l.h] 33)) = W0
  intro X0
  refine (rasked_no l (HA.out _ X0.out.1)).mono ?_
  rintro e w1 ⟨rfl, o1⟩
  obtain ⟨hc1, hc2⟩ := noE_ne l
  obtain ⟨c, hcE⟩ : ∃ c, noE l = c := ⟨_, rfl⟩
  have HCE := Lib.hid hcE
  rw [hcE] at hc1 hc2 ⊢
  clear hcE
  have X1 := Lib.hid (X0.out.1.also o1)
  go_wp2_with fail
  go_ret
  exact ⟨by rw [HCE.out]; rfl, X1.out⟩
end Go.Proofs.YtkflicifngohcaaGreatDoor
