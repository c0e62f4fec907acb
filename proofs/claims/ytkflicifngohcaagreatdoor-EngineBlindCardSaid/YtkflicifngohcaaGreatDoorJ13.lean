/-
  engine.begin where nothing is wrong: the machine.
-/
import Derived.Test.YtkflicifngohcaaGreatDoorJ9
import Derived.Test.YtkflicifngohcaaGreatDoorJ12
namespace Go.Proofs.YtkflicifngohcaaGreatDoor
open Go.RowKit
set_option linter.unusedVariables false
set_option linter.unusedSimpArgs false
set_option maxRecDepth 100000
/-- A layout. -/
structure Lay where
  a : Int
  b : Int
  t : Int
  s : Int
  f : Int
  st : Int
  n : Int
  h : Int
def Lay.val (l : Lay) : Value := .agg #[.int .i64 l.a, .int .i64 l.b, .int .i64 l.t, .int .i64 l.s, .int .i64 l.f, .int .i64 l.st, .int .i64 l.n, .int .i64 l.h]
def Lay.cells (l : Lay) : Array Value := #[.int .i64 l.a, .int .i64 l.b, .int .i64 l.t, .int .i64 l.s, .int .i64 l.f, .int .i64 l.st, .int .i64 l.n, .int .i64 l.h]
/-- Its parts. -/
def Lay.parts (l : Lay) : List (Int × Int) := [(l.t, 256 * l.a), (l.s, l.a), (l.f, l.b * l.a), (l.st, l.a), (l.n, l.a), (l.h, l.b)]
/-- Nothing is wrong with it in an arena of so many cells. -/
structure Lay.Ok (l : Lay) (n : Nat) : Prop where
  a1 : 1 ≤ l.a
  a4 : l.a ≤ 4
  b1 : 1 ≤ l.b
  b16 : l.b ≤ 16
  pos : ∀ k, k < 6 → 0 ≤ (pAt l.parts k).1 ∧ 0 ≤ (pAt l.parts k).2 ∧ (pAt l.parts k).1 + (pAt l.parts k).2 ≤ n
  apart : apAll l.parts = true
/-- The machine's cells. -/
def macC (p : Nat) (l : Lay) : Array Value := #[.pointer (some ⟨p, 0, none⟩), .int .i64 l.a, .int .i64 l.b, .int .i64 l.t, .int .i64 l.s, .int .i64 l.f, .int .i64 l.st, .int .i64 l.n, .int .i64 l.h, .int .i64 0]
def MacNew (w : World) (p : Nat) (l : Lay) (e : Ending) (w' : World) : Prop := ∃ g, e = .returned (.tuple #[.pointer (some ⟨g, 0, none⟩), .int .i64 0]) ∧ w.heap.size ≤ g ∧ Blk w' g 112 (macC p l) ∧ Off Nob w w'
theorem rd_blk {W : World} {g n size : Nat} {t : TypeId} {cs : Array Value} (h : Blk W g t cs) (hl : cs.toList.length = n * size) (hn : n ≤ maxLen) : Rd W (fun _ => True) size (.slice (some ⟨g, 0, none⟩) n n) n cs.toList :=
  ⟨_, _, rfl, hn, hl, fun _ => ⟨g, 0, rfl, trivial, h.lt, fun j u hu => by
    rw [Nat.zero_add, h.cell]
    simpa using hu⟩⟩
set_option maxHeartbeats 4000000 in
theorem nbegin_setup (l : Lay) (w : World) (F : Nat → Prop) (p : Nat) (C : List (BitVec 64)) (E : List Ev) (h : Ar w F p C E) (hl : l.Ok C.length) (steps : Int) (h0 : 0 ≤ steps) (h1 : E.length + steps ≤ 8388608) (sa la : Addr)
    (hask : ∀ W, Off Nob w W → Calls Tryz.prog 41 #[.pointer (some sa), .pointer (some la)] W (RetV W (.int .i64 0))) :
    Calls Tryz.prog 40 #[.pointer (some ⟨p, 0, none⟩), l.val, .int .i64 steps, .func (.func 41) #[] #[.pointer (some sa), .pointer (some la)]] w (MacNew w p l) := by
  have hC := h.n2
  have HA : Hid (∀ W, Off Nob w W → Ar W F p C E) := Lib.hid (fun W o => h.keep o (fun _ _ hn => hn))
  have HK := Lib.hid hask
  have HP := Lib.hid hl.pos
  have HAP := Lib.hid hl.apart
  have HR : Hid (∀ W, Calls Tryz.prog 74 #[.int .i64 l.a, .int .i64 l.b] W fun e w' => e = .returned (.bool true) ∧ W = w') := Lib.hid (fun W => nright_yes l.a l.b hl.a1 hl.a4 hl.b1 hl.b16 W)
  have ha1 := hl.a1
  have ha4 := hl.a4
  have hb1 := hl.b1
  have hb16 := hl.b16
  have hba0 : 0 ≤ l.b * l.a := Int.mul_nonneg (by omega) (by omega)
  have hba1 : l.b * l.a ≤ 64 := by
    have : l.a = 1 ∨ l.a = 2 ∨ l.a = 3 ∨ l.a = 4 := by omega
    rcases this with e | e | e | e <;> rw [e] <;> omega
  clear hask hl h
  obtain ⟨a, b, t, s, f, st, n, hh⟩ := l
  simp only at ha1 ha4 hb1 hb16 hba0 hba1
  obtain ⟨q, hq⟩ : ∃ q, b * a = q := ⟨_, rfl⟩
  have HQ := Lib.hid hq
  go_enter Tryz.func40, Tryz.ntmps40
  unfold Lay.val
  go_wp2_with fail
  have X0 : Hid (Off Nob w (w.alloc (.cells #[.int .i64 a, .int .i64 b, .int .i64 t, .int .i64 s, .int .i64 f, .int .i64 st, .int .i64 n, .int .i64 hh] 33)) ∧ Blk (w.alloc (.cells #[.int .i64 a, .int .i64 b, .int .i64 t, .int .i64 s, .int .i64 f, .int .i64 st, .int .i64 n, .int .i64 hh] 33)) w.heap.size 33 #[.int .i64 a, .int .i64 b, .int .i64 t, .int .i64 s, .int .i64 f, .int .i64 st, .int .i64 n, .int .i64 hh]) := Lib.hid ⟨(Off.refl _ _).alloc _, Blk.new _ _ _⟩
  revert X0
  generalize (w.alloc (.cells #[.int .i64 a, .int .i64 b, .int .i64 t, .int .i64 s, .int .i64 f, .int .i64 st, .int .i64 n, .int .i64 hh] 33)) = w0
  intro X0
  refine (HR.out _).mono ?_
  rintro e w1 ⟨rfl, rfl⟩
  have GC : Hid (∀ W, Off Nob w0 W → W.cell? ⟨w.heap.size, 0, none⟩ = some (.int .i64 a) ∧ W.cell? ⟨w.heap.size, 1, none⟩ = some (.int .i64 b) ∧ W.cell? ⟨w.heap.size, 2, none⟩ = some (.int .i64 t) ∧ W.cell? ⟨w.heap.size, 3, none⟩ = some (.int .i64 s) ∧ W.cell? ⟨w.heap.size, 4, none⟩ = some (.int .i64 f) ∧ W.cell? ⟨w.heap.size, 5, none⟩ = some (.int .i64 st) ∧ W.cell? ⟨w.heap.size, 6, none⟩ = some (.int .i64 n) ∧ W.cell? ⟨w.heap.size, 7, none⟩ = some (.int .i64 hh)) := Lib.hid (fun W o => by
    have h := X0.out.2.to (o.block _ X0.out.2.lt id)
    exact ⟨h.cell 0, h.cell 1, h.cell 2, h.cell 3, h.cell 4, h.cell 5, h.cell 6, h.cell 7⟩)
  obtain ⟨c0, c1, c2, c3, c4, c5, c6, c7⟩ := GC.out _ (Off.refl _ _)
  go_wp2_with fail
  clear c0 c1 c2 c3 c4 c5 c6 c7
  obtain ⟨L, hL⟩ : ∃ L, w0.heap.size = L := ⟨_, rfl⟩
  have X1 : Hid (Off Nob w0 (w0.alloc (.cells #[.int .i64 t, .int .i64 (256 * a), .int .i64 s, .int .i64 a, .int .i64 f, .int .i64 q, .int .i64 st, .int .i64 a, .int .i64 n, .int .i64 a, .int .i64 hh, .int .i64 b] 155)) ∧ Blk (w0.alloc (.cells #[.int .i64 t, .int .i64 (256 * a), .int .i64 s, .int .i64 a, .int .i64 f, .int .i64 q, .int .i64 st, .int .i64 a, .int .i64 n, .int .i64 a, .int .i64 hh, .int .i64 b] 155)) L 155 #[.int .i64 t, .int .i64 (256 * a), .int .i64 s, .int .i64 a, .int .i64 f, .int .i64 q, .int .i64 st, .int .i64 a, .int .i64 n, .int .i64 a, .int .i64 hh, .int .i64 b]) := Lib.hid ⟨(Off.refl _ _).alloc _, by rw [← hL]; exact Blk.new _ _ _⟩
  rw [hL]
  revert X1
  generalize w0.alloc (.cells #[.int .i64 t, .int .i64 (256 * a), .int .i64 s, .int .i64 a, .int .i64 f, .int .i64 q, .int .i64 st, .int .i64 a, .int .i64 n, .int .i64 a, .int .i64 hh, .int .i64 b] 155) = w1
  intro X1
  clear hL
  obtain ⟨P, hPe⟩ : ∃ P, Lay.parts ⟨a, b, t, s, f, st, n, hh⟩ = P := ⟨_, rfl⟩
  have HPC : Hid (partC P = (#[.int .i64 t, .int .i64 (256 * a), .int .i64 s, .int .i64 a, .int .i64 f, .int .i64 q, .int .i64 st, .int .i64 a, .int .i64 n, .int .i64 a, .int .i64 hh, .int .i64 b] : Array Value).toList ∧ P.length = 6) := Lib.hid (by rw [← hPe, ← HQ.out]; exact ⟨rfl, rfl⟩)
  rw [hPe] at HP HAP
  clear hPe
  have HC : Hid (∀ W, Off Nob w1 W → ∀ k, k < 6 → W.cell? ⟨L, k * 2, none⟩ = some (.int .i64 (pAt P k).1) ∧ W.cell? ⟨L, k * 2 + 1, none⟩ = some (.int .i64 (pAt P k).2)) := Lib.hid (fun W o k hk => by
    obtain ⟨e1, e2⟩ := partC_at P k (by rw [HPC.out.2]; exact hk)
    rw [HPC.out.1, Nat.mul_comm 2 k] at e1 e2
    have hb := X1.out.2.to (o.block _ X1.out.2.lt id)
    exact ⟨(hb.cell _).trans (by simpa using e1), (hb.cell _).trans (by simpa using e2)⟩)
  go_loopw [59] (fun p wr => ∃ k : Nat, p = .int .i64 (k : Int) ∧ k ≤ 6 ∧ Off Nob w1 wr) (fun p wr => 6 - (intOf p).toNat)
  case atStart => exact ⟨0, rfl, by decide, Off.refl _ _⟩
  case round =>
    obtain ⟨k, rfl, hk, ho⟩ := hrel
    have HO := Lib.hid ho
    clear ho
    by_cases hlt : k < 6
    · have d1 : decide ((k : Int) < 6) = true := decide_eq_true (by omega)
      obtain ⟨c0, c1⟩ := HC.out _ HO.out k hlt
      obtain ⟨z1, z2, z3⟩ := HP.out k hlt
      obtain ⟨x, y, hxy⟩ : ∃ x y, pAt P k = (x, y) := ⟨_, _, rfl⟩
      rw [hxy] at c0 c1 z1 z2 z3
      clear hxy
      have HO2 := Lib.hid (HO.out.alloc (.cells #[.int .i64 x, .int .i64 y] 155))
      have HX := Lib.hid (Blk.new wr 155 #[.int .i64 x, .int .i64 y])
      have x0 := HX.out.cell 0
      have x1 := HX.out.cell 1
      have HH := Lib.hid (has_ok (HA.out _ ((X0.out.1.also X1.out.1).also HO2.out)) x y z1 z2 z3)
      clear z1 z2 z3
      go_wp2_with fail
      refine HH.out.mono ?_
      rintro e w2 ⟨rfl, rfl⟩
      go_wp2_with fail
      go_roundw
      case rel => exact ⟨k + 1, rfl, by omega, HO2.out⟩
      case measure => simp [intOf]; omega
    · obtain rfl : k = 6 := by omega
      go_wp2_with fail
      have HPR := Lib.hid (npairs P (fun k hk => by
        have := HP.out k (by have := HPC.out.2; omega)
        omega) (by rw [HPC.out.2]; decide) (by rw [HPC.out.2]; decide) wr (.slice (some ⟨L, 0, none⟩) 6 6) (by
        rw [HPC.out.2, HPC.out.1]
        exact rd_blk (X1.out.2.to (HO.out.block _ X1.out.2.lt id)) rfl (by decide)) (fun A n c he => by cases he; exact Nat.le_refl _))
      rw [HAP.out] at HPR
      refine HPR.out.mono ?_
      rintro e w2 ⟨rfl, o2⟩
      have Y1 := Lib.hid (HO.out.also o2)
      clear o2 HPR HO
      go_wp2_with fail
      refine (HK.out _ ((X0.out.1.also X1.out.1).also Y1.out)).mono ?_
      rintro e w3 ⟨rfl, o2⟩
      have Y2 := Lib.hid (Y1.out.also o2)
      clear o2 Y1
      have HRM := Lib.hid (room_ok (HA.out _ ((X0.out.1.also X1.out.1).also Y2.out)) steps h0 h1)
      obtain ⟨c0, c1, c2, c3, c4, c5, c6, c7⟩ := GC.out _ (X1.out.1.also Y2.out)
      go_wp2_with fail
      refine HRM.out.mono ?_
      rintro e w4 ⟨rfl, rfl⟩
      go_wp2_with fail
      go_ret2
      exact ⟨_, rfl, Nat.le_trans X0.out.1.size (Nat.le_trans X1.out.1.size Y2.out.size), Blk.new _ _ _, ((X0.out.1.also X1.out.1).also Y2.out).alloc _⟩
set_option maxHeartbeats 4000000 in
theorem nbegin_byte (l : Lay) (w : World) (F : Nat → Prop) (p : Nat) (C : List (BitVec 64)) (E : List Ev) (h : Ar w F p C E) (hl : l.Ok C.length) (steps : Int) (h0 : 0 ≤ steps) (h1 : E.length + steps ≤ 8388608) (ma : Addr)
    (hask : ∀ W, Off Nob w W → Calls Tryz.prog 45 #[.pointer (some ma)] W (RetV W (.int .i64 0))) :
    Calls Tryz.prog 40 #[.pointer (some ⟨p, 0, none⟩), l.val, .int .i64 steps, .func (.func 45) #[] #[.pointer (some ma)]] w (MacNew w p l) := by
  have hC := h.n2
  have HA : Hid (∀ W, Off Nob w W → Ar W F p C E) := Lib.hid (fun W o => h.keep o (fun _ _ hn => hn))
  have HK := Lib.hid hask
  have HP := Lib.hid hl.pos
  have HAP := Lib.hid hl.apart
  have HR : Hid (∀ W, Calls Tryz.prog 74 #[.int .i64 l.a, .int .i64 l.b] W fun e w' => e = .returned (.bool true) ∧ W = w') := Lib.hid (fun W => nright_yes l.a l.b hl.a1 hl.a4 hl.b1 hl.b16 W)
  have ha1 := hl.a1
  have ha4 := hl.a4
  have hb1 := hl.b1
  have hb16 := hl.b16
  have hba0 : 0 ≤ l.b * l.a := Int.mul_nonneg (by omega) (by omega)
  have hba1 : l.b * l.a ≤ 64 := by
    have : l.a = 1 ∨ l.a = 2 ∨ l.a = 3 ∨ l.a = 4 := by omega
    rcases this with e | e | e | e <;> rw [e] <;> omega
  clear hask hl h
  obtain ⟨a, b, t, s, f, st, n, hh⟩ := l
  simp only at ha1 ha4 hb1 hb16 hba0 hba1
  obtain ⟨q, hq⟩ : ∃ q, b * a = q := ⟨_, rfl⟩
  have HQ := Lib.hid hq
  go_enter Tryz.func40, Tryz.ntmps40
  unfold Lay.val
  go_wp2_with fail
  have X0 : Hid (Off Nob w (w.alloc (.cells #[.int .i64 a, .int .i64 b, .int .i64 t, .int .i64 s, .int .i64 f, .int .i64 st, .int .i64 n, .int .i64 hh] 33)) ∧ Blk (w.alloc (.cells #[.int .i64 a, .int .i64 b, .int .i64 t, .int .i64 s, .int .i64 f, .int .i64 st, .int .i64 n, .int .i64 hh] 33)) w.heap.size 33 #[.int .i64 a, .int .i64 b, .int .i64 t, .int .i64 s, .int .i64 f, .int .i64 st, .int .i64 n, .int .i64 hh]) := Lib.hid ⟨(Off.refl _ _).alloc _, Blk.new _ _ _⟩
  revert X0
  generalize (w.alloc (.cells #[.int .i64 a, .int .i64 b, .int .i64 t, .int .i64 s, .int .i64 f, .int .i64 st, .int .i64 n, .int .i64 hh] 33)) = w0
  intro X0
  refine (HR.out _).mono ?_
  rintro e w1 ⟨rfl, rfl⟩
  have GC : Hid (∀ W, Off Nob w0 W → W.cell? ⟨w.heap.size, 0, none⟩ = some (.int .i64 a) ∧ W.cell? ⟨w.heap.size, 1, none⟩ = some (.int .i64 b) ∧ W.cell? ⟨w.heap.size, 2, none⟩ = some (.int .i64 t) ∧ W.cell? ⟨w.heap.size, 3, none⟩ = some (.int .i64 s) ∧ W.cell? ⟨w.heap.size, 4, none⟩ = some (.int .i64 f) ∧ W.cell? ⟨w.heap.size, 5, none⟩ = some (.int .i64 st) ∧ W.cell? ⟨w.heap.size, 6, none⟩ = some (.int .i64 n) ∧ W.cell? ⟨w.heap.size, 7, none⟩ = some (.int .i64 hh)) := Lib.hid (fun W o => by
    have h := X0.out.2.to (o.block _ X0.out.2.lt id)
    exact ⟨h.cell 0, h.cell 1, h.cell 2, h.cell 3, h.cell 4, h.cell 5, h.cell 6, h.cell 7⟩)
  obtain ⟨c0, c1, c2, c3, c4, c5, c6, c7⟩ := GC.out _ (Off.refl _ _)
  go_wp2_with fail
  clear c0 c1 c2 c3 c4 c5 c6 c7
  obtain ⟨L, hL⟩ : ∃ L, w0.heap.size = L := ⟨_, rfl⟩
  have X1 : Hid (Off Nob w0 (w0.alloc (.cells #[.int .i64 t, .int .i64 (256 * a), .int .i64 s, .int .i64 a, .int .i64 f, .int .i64 q, .int .i64 st, .int .i64 a, .int .i64 n, .int .i64 a, .int .i64 hh, .int .i64 b] 155)) ∧ Blk (w0.alloc (.cells #[.int .i64 t, .int .i64 (256 * a), .int .i64 s, .int .i64 a, .int .i64 f, .int .i64 q, .int .i64 st, .int .i64 a, .int .i64 n, .int .i64 a, .int .i64 hh, .int .i64 b] 155)) L 155 #[.int .i64 t, .int .i64 (256 * a), .int .i64 s, .int .i64 a, .int .i64 f, .int .i64 q, .int .i64 st, .int .i64 a, .int .i64 n, .int .i64 a, .int .i64 hh, .int .i64 b]) := Lib.hid ⟨(Off.refl _ _).alloc _, by rw [← hL]; exact Blk.new _ _ _⟩
  rw [hL]
  revert X1
  generalize w0.alloc (.cells #[.int .i64 t, .int .i64 (256 * a), .int .i64 s, .int .i64 a, .int .i64 f, .int .i64 q, .int .i64 st, .int .i64 a, .int .i64 n, .int .i64 a, .int .i64 hh, .int .i64 b] 155) = w1
  intro X1
  clear hL
  obtain ⟨P, hPe⟩ : ∃ P, Lay.parts ⟨a, b, t, s, f, st, n, hh⟩ = P := ⟨_, rfl⟩
  have HPC : Hid (partC P = (#[.int .i64 t, .int .i64 (256 * a), .int .i64 s, .int .i64 a, .int .i64 f, .int .i64 q, .int .i64 st, .int .i64 a, .int .i64 n, .int .i64 a, .int .i64 hh, .int .i64 b] : Array Value).toList ∧ P.length = 6) := Lib.hid (by rw [← hPe, ← HQ.out]; exact ⟨rfl, rfl⟩)
  rw [hPe] at HP HAP
  clear hPe
  have HC : Hid (∀ W, Off Nob w1 W → ∀ k, k < 6 → W.cell? ⟨L, k * 2, none⟩ = some (.int .i64 (pAt P k).1) ∧ W.cell? ⟨L, k * 2 + 1, none⟩ = some (.int .i64 (pAt P k).2)) := Lib.hid (fun W o k hk => by
    obtain ⟨e1, e2⟩ := partC_at P k (by rw [HPC.out.2]; exact hk)
    rw [HPC.out.1, Nat.mul_comm 2 k] at e1 e2
    have hb := X1.out.2.to (o.block _ X1.out.2.lt id)
    exact ⟨(hb.cell _).trans (by simpa using e1), (hb.cell _).trans (by simpa using e2)⟩)
  go_loopw [59] (fun p wr => ∃ k : Nat, p = .int .i64 (k : Int) ∧ k ≤ 6 ∧ Off Nob w1 wr) (fun p wr => 6 - (intOf p).toNat)
  case atStart => exact ⟨0, rfl, by decide, Off.refl _ _⟩
  case round =>
    obtain ⟨k, rfl, hk, ho⟩ := hrel
    have HO := Lib.hid ho
    clear ho
    by_cases hlt : k < 6
    · have d1 : decide ((k : Int) < 6) = true := decide_eq_true (by omega)
      obtain ⟨c0, c1⟩ := HC.out _ HO.out k hlt
      obtain ⟨z1, z2, z3⟩ := HP.out k hlt
      obtain ⟨x, y, hxy⟩ : ∃ x y, pAt P k = (x, y) := ⟨_, _, rfl⟩
      rw [hxy] at c0 c1 z1 z2 z3
      clear hxy
      have HO2 := Lib.hid (HO.out.alloc (.cells #[.int .i64 x, .int .i64 y] 155))
      have HX := Lib.hid (Blk.new wr 155 #[.int .i64 x, .int .i64 y])
      have x0 := HX.out.cell 0
      have x1 := HX.out.cell 1
      have HH := Lib.hid (has_ok (HA.out _ ((X0.out.1.also X1.out.1).also HO2.out)) x y z1 z2 z3)
      clear z1 z2 z3
      go_wp2_with fail
      refine HH.out.mono ?_
      rintro e w2 ⟨rfl, rfl⟩
      go_wp2_with fail
      go_roundw
      case rel => exact ⟨k + 1, rfl, by omega, HO2.out⟩
      case measure => simp [intOf]; omega
    · obtain rfl : k = 6 := by omega
      go_wp2_with fail
      have HPR := Lib.hid (npairs P (fun k hk => by
        have := HP.out k (by have := HPC.out.2; omega)
        omega) (by rw [HPC.out.2]; decide) (by rw [HPC.out.2]; decide) wr (.slice (some ⟨L, 0, none⟩) 6 6) (by
        rw [HPC.out.2, HPC.out.1]
        exact rd_blk (X1.out.2.to (HO.out.block _ X1.out.2.lt id)) rfl (by decide)) (fun A n c he => by cases he; exact Nat.le_refl _))
      rw [HAP.out] at HPR
      refine HPR.out.mono ?_
      rintro e w2 ⟨rfl, o2⟩
      have Y1 := Lib.hid (HO.out.also o2)
      clear o2 HPR HO
      go_wp2_with fail
      refine (HK.out _ ((X0.out.1.also X1.out.1).also Y1.out)).mono ?_
      rintro e w3 ⟨rfl, o2⟩
      have Y2 := Lib.hid (Y1.out.also o2)
      clear o2 Y1
      have HRM := Lib.hid (room_ok (HA.out _ ((X0.out.1.also X1.out.1).also Y2.out)) steps h0 h1)
      obtain ⟨c0, c1, c2, c3, c4, c5, c6, c7⟩ := GC.out _ (X1.out.1.also Y2.out)
      go_wp2_with fail
      refine HRM.out.mono ?_
      rintro e w4 ⟨rfl, rfl⟩
      go_wp2_with fail
      go_ret2
      exact ⟨_, rfl, Nat.le_trans X0.out.1.size (Nat.le_trans X1.out.1.size Y2.out.size), Blk.new _ _ _, ((X0.out.1.also X1.out.1).also Y2.out).alloc _⟩
set_option maxHeartbeats 4000000 in
theorem nbegin_none (l : Lay) (w : World) (F : Nat → Prop) (p : Nat) (C : List (BitVec 64)) (E : List Ev) (h : Ar w F p C E) (hl : l.Ok C.length) (steps : Int) (h0 : 0 ≤ steps) (h1 : E.length + steps ≤ 8388608) 
    (hask : ∀ W, Off Nob w W → Calls Tryz.prog 54 #[] W (RetV W (.int .i64 0))) :
    Calls Tryz.prog 40 #[.pointer (some ⟨p, 0, none⟩), l.val, .int .i64 steps, .func (.func 54) #[] #[]] w (MacNew w p l) := by
  have hC := h.n2
  have HA : Hid (∀ W, Off Nob w W → Ar W F p C E) := Lib.hid (fun W o => h.keep o (fun _ _ hn => hn))
  have HK := Lib.hid hask
  have HP := Lib.hid hl.pos
  have HAP := Lib.hid hl.apart
  have HR : Hid (∀ W, Calls Tryz.prog 74 #[.int .i64 l.a, .int .i64 l.b] W fun e w' => e = .returned (.bool true) ∧ W = w') := Lib.hid (fun W => nright_yes l.a l.b hl.a1 hl.a4 hl.b1 hl.b16 W)
  have ha1 := hl.a1
  have ha4 := hl.a4
  have hb1 := hl.b1
  have hb16 := hl.b16
  have hba0 : 0 ≤ l.b * l.a := Int.mul_nonneg (by omega) (by omega)
  have hba1 : l.b * l.a ≤ 64 := by
    have : l.a = 1 ∨ l.a = 2 ∨ l.a = 3 ∨ l.a = 4 := by omega
    rcases this with e | e | e | e <;> rw [e] <;> omega
  clear hask hl h
  obtain ⟨a, b, t, s, f, st, n, hh⟩ := l
  simp only at ha1 ha4 hb1 hb16 hba0 hba1
  obtain ⟨q, hq⟩ : ∃ q, b * a = q := ⟨_, rfl⟩
  have HQ := Lib.hid hq
  go_enter Tryz.func40, Tryz.ntmps40
  unfold Lay.val
  go_wp2_with fail
  have X0 : Hid (Off Nob w (w.alloc (.cells #[.int .i64 a, .int .i64 b, .int .i64 t, .int .i64 s, .int .i64 f, .int .i64 st, .int .i64 n, .int .i64 hh] 33)) ∧ Blk (w.alloc (.cells #[.int .i64 a, .int .i64 b, .int .i64 t, .int .i64 s, .int .i64 f, .int .i64 st, .int .i64 n, .int .i64 hh] 33)) w.heap.size 33 #[.int .i64 a, .int .i64 b, .int .i64 t, .int .i64 s, .int .i64 f, .int .i64 st, .int .i64 n, .int .i64 hh]) := Lib.hid ⟨(Off.refl _ _).alloc _, Blk.new _ _ _⟩
  revert X0
  generalize (w.alloc (.cells #[.int .i64 a, .int .i64 b, .int .i64 t, .int .i64 s, .int .i64 f, .int .i64 st, .int .i64 n, .int .i64 hh] 33)) = w0
  intro X0
  refine (HR.out _).mono ?_
  rintro e w1 ⟨rfl, rfl⟩
  have GC : Hid (∀ W, Off Nob w0 W → W.cell? ⟨w.heap.size, 0, none⟩ = some (.int .i64 a) ∧ W.cell? ⟨w.heap.size, 1, none⟩ = some (.int .i64 b) ∧ W.cell? ⟨w.heap.size, 2, none⟩ = some (.int .i64 t) ∧ W.cell? ⟨w.heap.size, 3, none⟩ = some (.int .i64 s) ∧ W.cell? ⟨w.heap.size, 4, none⟩ = some (.int .i64 f) ∧ W.cell? ⟨w.heap.size, 5, none⟩ = some (.int .i64 st) ∧ W.cell? ⟨w.heap.size, 6, none⟩ = some (.int .i64 n) ∧ W.cell? ⟨w.heap.size, 7, none⟩ = some (.int .i64 hh)) := Lib.hid (fun W o => by
    have h := X0.out.2.to (o.block _ X0.out.2.lt id)
    exact ⟨h.cell 0, h.cell 1, h.cell 2, h.cell 3, h.cell 4, h.cell 5, h.cell 6, h.cell 7⟩)
  obtain ⟨c0, c1, c2, c3, c4, c5, c6, c7⟩ := GC.out _ (Off.refl _ _)
  go_wp2_with fail
  clear c0 c1 c2 c3 c4 c5 c6 c7
  obtain ⟨L, hL⟩ : ∃ L, w0.heap.size = L := ⟨_, rfl⟩
  have X1 : Hid (Off Nob w0 (w0.alloc (.cells #[.int .i64 t, .int .i64 (256 * a), .int .i64 s, .int .i64 a, .int .i64 f, .int .i64 q, .int .i64 st, .int .i64 a, .int .i64 n, .int .i64 a, .int .i64 hh, .int .i64 b] 155)) ∧ Blk (w0.alloc (.cells #[.int .i64 t, .int .i64 (256 * a), .int .i64 s, .int .i64 a, .int .i64 f, .int .i64 q, .int .i64 st, .int .i64 a, .int .i64 n, .int .i64 a, .int .i64 hh, .int .i64 b] 155)) L 155 #[.int .i64 t, .int .i64 (256 * a), .int .i64 s, .int .i64 a, .int .i64 f, .int .i64 q, .int .i64 st, .int .i64 a, .int .i64 n, .int .i64 a, .int .i64 hh, .int .i64 b]) := Lib.hid ⟨(Off.refl _ _).alloc _, by rw [← hL]; exact Blk.new _ _ _⟩
  rw [hL]
  revert X1
  generalize w0.alloc (.cells #[.int .i64 t, .int .i64 (256 * a), .int .i64 s, .int .i64 a, .int .i64 f, .int .i64 q, .int .i64 st, .int .i64 a, .int .i64 n, .int .i64 a, .int .i64 hh, .int .i64 b] 155) = w1
  intro X1
  clear hL
  obtain ⟨P, hPe⟩ : ∃ P, Lay.parts ⟨a, b, t, s, f, st, n, hh⟩ = P := ⟨_, rfl⟩
  have HPC : Hid (partC P = (#[.int .i64 t, .int .i64 (256 * a), .int .i64 s, .int .i64 a, .int .i64 f, .int .i64 q, .int .i64 st, .int .i64 a, .int .i64 n, .int .i64 a, .int .i64 hh, .int .i64 b] : Array Value).toList ∧ P.length = 6) := Lib.hid (by rw [← hPe, ← HQ.out]; exact ⟨rfl, rfl⟩)
  rw [hPe] at HP HAP
  clear hPe
  have HC : Hid (∀ W, Off Nob w1 W → ∀ k, k < 6 → W.cell? ⟨L, k * 2, none⟩ = some (.int .i64 (pAt P k).1) ∧ W.cell? ⟨L, k * 2 + 1, none⟩ = some (.int .i64 (pAt P k).2)) := Lib.hid (fun W o k hk => by
    obtain ⟨e1, e2⟩ := partC_at P k (by rw [HPC.out.2]; exact hk)
    rw [HPC.out.1, Nat.mul_comm 2 k] at e1 e2
    have hb := X1.out.2.to (o.block _ X1.out.2.lt id)
    exact ⟨(hb.cell _).trans (by simpa using e1), (hb.cell _).trans (by simpa using e2)⟩)
  go_loopw [59] (fun p wr => ∃ k : Nat, p = .int .i64 (k : Int) ∧ k ≤ 6 ∧ Off Nob w1 wr) (fun p wr => 6 - (intOf p).toNat)
  case atStart => exact ⟨0, rfl, by decide, Off.refl _ _⟩
  case round =>
    obtain ⟨k, rfl, hk, ho⟩ := hrel
    have HO := Lib.hid ho
    clear ho
    by_cases hlt : k < 6
    · have d1 : decide ((k : Int) < 6) = true := decide_eq_true (by omega)
      obtain ⟨c0, c1⟩ := HC.out _ HO.out k hlt
      obtain ⟨z1, z2, z3⟩ := HP.out k hlt
      obtain ⟨x, y, hxy⟩ : ∃ x y, pAt P k = (x, y) := ⟨_, _, rfl⟩
      rw [hxy] at c0 c1 z1 z2 z3
      clear hxy
      have HO2 := Lib.hid (HO.out.alloc (.cells #[.int .i64 x, .int .i64 y] 155))
      have HX := Lib.hid (Blk.new wr 155 #[.int .i64 x, .int .i64 y])
      have x0 := HX.out.cell 0
      have x1 := HX.out.cell 1
      have HH := Lib.hid (has_ok (HA.out _ ((X0.out.1.also X1.out.1).also HO2.out)) x y z1 z2 z3)
      clear z1 z2 z3
      go_wp2_with fail
      refine HH.out.mono ?_
      rintro e w2 ⟨rfl, rfl⟩
      go_wp2_with fail
      go_roundw
      case rel => exact ⟨k + 1, rfl, by omega, HO2.out⟩
      case measure => simp [intOf]; omega
    · obtain rfl : k = 6 := by omega
      go_wp2_with fail
      have HPR := Lib.hid (npairs P (fun k hk => by
        have := HP.out k (by have := HPC.out.2; omega)
        omega) (by rw [HPC.out.2]; decide) (by rw [HPC.out.2]; decide) wr (.slice (some ⟨L, 0, none⟩) 6 6) (by
        rw [HPC.out.2, HPC.out.1]
        exact rd_blk (X1.out.2.to (HO.out.block _ X1.out.2.lt id)) rfl (by decide)) (fun A n c he => by cases he; exact Nat.le_refl _))
      rw [HAP.out] at HPR
      refine HPR.out.mono ?_
      rintro e w2 ⟨rfl, o2⟩
      have Y1 := Lib.hid (HO.out.also o2)
      clear o2 HPR HO
      go_wp2_with fail
      refine (HK.out _ ((X0.out.1.also X1.out.1).also Y1.out)).mono ?_
      rintro e w3 ⟨rfl, o2⟩
      have Y2 := Lib.hid (Y1.out.also o2)
      clear o2 Y1
      have HRM := Lib.hid (room_ok (HA.out _ ((X0.out.1.also X1.out.1).also Y2.out)) steps h0 h1)
      obtain ⟨c0, c1, c2, c3, c4, c5, c6, c7⟩ := GC.out _ (X1.out.1.also Y2.out)
      go_wp2_with fail
      refine HRM.out.mono ?_
      rintro e w4 ⟨rfl, rfl⟩
      go_wp2_with fail
      go_ret2
      exact ⟨_, rfl, Nat.le_trans X0.out.1.size (Nat.le_trans X1.out.1.size Y2.out.size), Blk.new _ _ _, ((X0.out.1.also X1.out.1).also Y2.out).alloc _⟩
end Go.Proofs.YtkflicifngohcaaGreatDoor

/-
  dragnetref11.Check, text and Print at the tokens of the example.
-/
namespace Go.Proofs.YtkflicifngohcaaGreatDoor
open Go.RowKit
set_option linter.unusedVariables false
set_option linter.unusedSimpArgs false
set_option maxRecDepth 100000
theorem co_tcheck_rule (w : World) : Calls Tryz.prog 171 #[.agg #[.int .i64 1, .int .i64 0, .int .i64 0, .int .i64 0, .string ⟨#[]⟩, .int .u64 0, .int .u64 0, .int .u64 0, .int .u64 0]] w (RetV w (.int .i64 0)) := by
  have hq : ∀ w : World, (binOp .neq 146 (.agg #[.int .u64 0, .int .u64 0, .int .u64 0, .int .u64 0]) (.agg #[.int .u64 0, .int .u64 0, .int .u64 0, .int .u64 0])).run Tryz.prog w = .ok (.bool false) w := fun _ => by kernel_rfl
  go_enter Tryz.func171, Tryz.ntmps171
  go_wp2_with fail
  go_ret
  exact ⟨rfl, Off.alloc (Off.refl _ _) _⟩
theorem co_ttext_rule (w : World) : Calls Tryz.prog 172 #[.agg #[.int .i64 1, .int .i64 0, .int .i64 0, .int .i64 0, .string ⟨#[]⟩, .int .u64 0, .int .u64 0, .int .u64 0, .int .u64 0]] w (RetV w (.string ⟨#[114, 117, 108, 101]⟩)) := by
  go_enter Tryz.func172, Tryz.ntmps172
  go_wp2_with fail
  go_ret
  exact ⟨rfl, Off.alloc (Off.refl _ _) _⟩
theorem co_tcheck_five (w : World) : Calls Tryz.prog 171 #[.agg #[.int .i64 3, .int .i64 0, .int .i64 0, .int .i64 5, .string ⟨#[]⟩, .int .u64 0, .int .u64 0, .int .u64 0, .int .u64 0]] w (RetV w (.int .i64 0)) := by
  have hq : ∀ w : World, (binOp .neq 146 (.agg #[.int .u64 0, .int .u64 0, .int .u64 0, .int .u64 0]) (.agg #[.int .u64 0, .int .u64 0, .int .u64 0, .int .u64 0])).run Tryz.prog w = .ok (.bool false) w := fun _ => by kernel_rfl
  go_enter Tryz.func171, Tryz.ntmps171
  go_wp2_with fail
  go_ret
  exact ⟨rfl, Off.alloc (Off.refl _ _) _⟩
theorem co_ttext_five (w : World) : Calls Tryz.prog 172 #[.agg #[.int .i64 3, .int .i64 0, .int .i64 0, .int .i64 5, .string ⟨#[]⟩, .int .u64 0, .int .u64 0, .int .u64 0, .int .u64 0]] w (RetV w (.string ⟨#[53]⟩)) := by
  go_enter Tryz.func172, Tryz.ntmps172
  go_wp2_with fail
  refine (co_digits_5 _).mono ?_
  rintro e w1 ⟨rfl, o1⟩
  have O1 := Lib.hid ((Off.alloc (Off.refl Nob w) (.cells #[.int .i64 3, .int .i64 0, .int .i64 0, .int .i64 5, .string ⟨#[]⟩, .int .u64 0, .int .u64 0, .int .u64 0, .int .u64 0] 252)).also o1)
  clear o1
  go_wp2_with fail
  go_ret
  exact ⟨rfl, O1.out⟩
theorem co_tcheck_lit (w : World) : Calls Tryz.prog 171 #[.agg #[.int .i64 4, .int .i64 0, .int .i64 0, .int .i64 0, .string ⟨#[97, 98]⟩, .int .u64 0, .int .u64 0, .int .u64 0, .int .u64 0]] w (RetV w (.int .i64 0)) := by
  have hq : ∀ w : World, (binOp .neq 146 (.agg #[.int .u64 0, .int .u64 0, .int .u64 0, .int .u64 0]) (.agg #[.int .u64 0, .int .u64 0, .int .u64 0, .int .u64 0])).run Tryz.prog w = .ok (.bool false) w := fun _ => by kernel_rfl
  go_enter Tryz.func171, Tryz.ntmps171
  go_wp2_with fail
  go_ret
  exact ⟨rfl, Off.alloc (Off.refl _ _) _⟩
theorem co_ttext_lit (w : World) : Calls Tryz.prog 172 #[.agg #[.int .i64 4, .int .i64 0, .int .i64 0, .int .i64 0, .string ⟨#[97, 98]⟩, .int .u64 0, .int .u64 0, .int .u64 0, .int .u64 0]] w (RetV w (.string ⟨#[34, 97, 98, 34]⟩)) := by
  go_enter Tryz.func172, Tryz.ntmps172
  go_wp2_with fail
  refine (co_quote_ab _).mono ?_
  rintro e w1 ⟨rfl, o1⟩
  have O1 := Lib.hid ((Off.alloc (Off.refl Nob w) (.cells #[.int .i64 4, .int .i64 0, .int .i64 0, .int .i64 0, .string ⟨#[97, 98]⟩, .int .u64 0, .int .u64 0, .int .u64 0, .int .u64 0] 252)).also o1)
  clear o1
  go_wp2_with fail
  go_ret
  exact ⟨rfl, O1.out⟩
theorem co_tcheck_nine (w : World) : Calls Tryz.prog 171 #[.agg #[.int .i64 3, .int .i64 0, .int .i64 0, .int .i64 9, .string ⟨#[]⟩, .int .u64 0, .int .u64 0, .int .u64 0, .int .u64 0]] w (RetV w (.int .i64 0)) := by
  have hq : ∀ w : World, (binOp .neq 146 (.agg #[.int .u64 0, .int .u64 0, .int .u64 0, .int .u64 0]) (.agg #[.int .u64 0, .int .u64 0, .int .u64 0, .int .u64 0])).run Tryz.prog w = .ok (.bool false) w := fun _ => by kernel_rfl
  go_enter Tryz.func171, Tryz.ntmps171
  go_wp2_with fail
  go_ret
  exact ⟨rfl, Off.alloc (Off.refl _ _) _⟩
theorem co_ttext_nine (w : World) : Calls Tryz.prog 172 #[.agg #[.int .i64 3, .int .i64 0, .int .i64 0, .int .i64 9, .string ⟨#[]⟩, .int .u64 0, .int .u64 0, .int .u64 0, .int .u64 0]] w (RetV w (.string ⟨#[57]⟩)) := by
  go_enter Tryz.func172, Tryz.ntmps172
  go_wp2_with fail
  refine (co_digits_9 _).mono ?_
  rintro e w1 ⟨rfl, o1⟩
  have O1 := Lib.hid ((Off.alloc (Off.refl Nob w) (.cells #[.int .i64 3, .int .i64 0, .int .i64 0, .int .i64 9, .string ⟨#[]⟩, .int .u64 0, .int .u64 0, .int .u64 0, .int .u64 0] 252)).also o1)
  clear o1
  go_wp2_with fail
  go_ret
  exact ⟨rfl, O1.out⟩
theorem co_tcheck_cls (w : World) : Calls Tryz.prog 171 #[.agg #[.int .i64 6, .int .i64 0, .int .i64 0, .int .i64 0, .string ⟨#[]⟩, .int .u64 0, .int .u64 25769803776, .int .u64 0, .int .u64 0]] w (RetV w (.int .i64 0)) := by
  have hq : ∀ w : World, (binOp .neq 146 (.agg #[.int .u64 0, .int .u64 0, .int .u64 0, .int .u64 0]) (.agg #[.int .u64 0, .int .u64 0, .int .u64 0, .int .u64 0])).run Tryz.prog w = .ok (.bool false) w := fun _ => by kernel_rfl
  go_enter Tryz.func171, Tryz.ntmps171
  go_wp2_with fail
  go_ret
  exact ⟨rfl, Off.alloc (Off.refl _ _) _⟩
theorem co_ttext_cls (w : World) : Calls Tryz.prog 172 #[.agg #[.int .i64 6, .int .i64 0, .int .i64 0, .int .i64 0, .string ⟨#[]⟩, .int .u64 0, .int .u64 25769803776, .int .u64 0, .int .u64 0]] w (RetV w (.string ⟨#[91, 97, 98, 93]⟩)) := by
  go_enter Tryz.func172, Tryz.ntmps172
  go_wp2_with fail
  have hq : ∀ w : World, (binOp .eql 146 (.agg #[.int .u64 0, .int .u64 25769803776, .int .u64 0, .int .u64 0]) (.agg #[.int .u64 18446744073709551615, .int .u64 18446744073709551615, .int .u64 18446744073709551615, .int .u64 18446744073709551615])).run Tryz.prog w = .ok (.bool false) w := fun _ => by kernel_rfl
  have HB0 : Hid (Blk (w.alloc (.cells #[.int .i64 6, .int .i64 0, .int .i64 0, .int .i64 0, .string ⟨#[]⟩, .int .u64 0, .int .u64 25769803776, .int .u64 0, .int .u64 0] 252)) w.heap.size 252 #[.int .i64 6, .int .i64 0, .int .i64 0, .int .i64 0, .string ⟨#[]⟩, .int .u64 0, .int .u64 25769803776, .int .u64 0, .int .u64 0] ∧ Off Nob w (w.alloc (.cells #[.int .i64 6, .int .i64 0, .int .i64 0, .int .i64 0, .string ⟨#[]⟩, .int .u64 0, .int .u64 25769803776, .int .u64 0, .int .u64 0] 252))) := Lib.hid ⟨Blk.new _ _ _, Off.alloc (Off.refl _ _) _⟩
  revert HB0
  generalize w.alloc (.cells #[.int .i64 6, .int .i64 0, .int .i64 0, .int .i64 0, .string ⟨#[]⟩, .int .u64 0, .int .u64 25769803776, .int .u64 0, .int .u64 0] 252) = w0
  intro HB0
  have GC : Hid (∀ W, Off Nob w0 W → W.cell? ⟨w.heap.size, 5, none⟩ = some (.int .u64 0) ∧ W.cell? ⟨w.heap.size, 6, none⟩ = some (.int .u64 25769803776) ∧ W.cell? ⟨w.heap.size, 7, none⟩ = some (.int .u64 0) ∧ W.cell? ⟨w.heap.size, 8, none⟩ = some (.int .u64 0)) := Lib.hid (fun W ho => by
    have h := HB0.out.1.to (ho.block _ HB0.out.1.lt (fun h => h))
    exact ⟨h.cell 5, h.cell 6, h.cell 7, h.cell 8⟩)
  obtain ⟨c5, c6, c7, c8⟩ := GC.out _ (Off.refl _ _)
  have OX : Hid (Off Nob w0 w0) := Lib.hid (Off.refl _ _)
  go_region_held3 (fun W => W.cell? ⟨w.heap.size, 5, none⟩ = some (.int .u64 0) ∧ W.cell? ⟨w.heap.size, 6, none⟩ = some (.int .u64 25769803776) ∧ W.cell? ⟨w.heap.size, 7, none⟩ = some (.int .u64 0) ∧ W.cell? ⟨w.heap.size, 8, none⟩ = some (.int .u64 0))
    (first | with_reducible assumption | go_keep)
    (first
      | (go_at_call 165; refine (co_all _).mono ?_; rintro e w' ⟨rfl, o1⟩; have OY : Hid (Off Nob w0 w') := Lib.hid (Off.also (show Off Nob w0 _ by first | with_reducible exact OX.out | with_reducible exact Off.drew OX.out | with_reducible exact Off.drewN OX.out _) o1); have kq := GC.out _ OY.out; clear o1 OX; have OX := Lib.hid OY.out; clear OY))
  clear c5 c6 c7 c8
  obtain ⟨c5, c6, c7, c8⟩ := GC.out _ OX.out
  go_wp2_with fail
  refine (co_print_ab _).mono ?_
  rintro e w2 ⟨rfl, o2⟩
  have O2 := Lib.hid ((HB0.out.2.also OX.out).also o2)
  clear o2
  go_wp2_with fail
  go_ret
  exact ⟨rfl, O2.out⟩
set_option maxHeartbeats 4000000 in
theorem co_pr_a (w : World) (v : Value) (hv : Rd w (fun _ => True) 9 v 3 tk_a) : Calls Tryz.prog 159 #[v] w (RetV w (.tuple #[.string ⟨#[114, 117, 108, 101, 32, 53, 32, 34, 97, 98, 34]⟩, .int .i64 0, .int .i64 0])) := by
  have s__114_117_108_101 : (⟨#[]⟩ : ByteArray) ++ ⟨#[114, 117, 108, 101]⟩ = ⟨#[114, 117, 108, 101]⟩ := by decide
  have s_114_117_108_101_32 : (⟨#[114, 117, 108, 101]⟩ : ByteArray) ++ ⟨#[32]⟩ = ⟨#[114, 117, 108, 101, 32]⟩ := by decide
  have s_114_117_108_101_32_53 : (⟨#[114, 117, 108, 101, 32]⟩ : ByteArray) ++ ⟨#[53]⟩ = ⟨#[114, 117, 108, 101, 32, 53]⟩ := by decide
  have s_114_117_108_101_32_53_32 : (⟨#[114, 117, 108, 101, 32, 53]⟩ : ByteArray) ++ ⟨#[32]⟩ = ⟨#[114, 117, 108, 101, 32, 53, 32]⟩ := by decide
  have s_114_117_108_101_32_53_32_34_97_98_34 : (⟨#[114, 117, 108, 101, 32, 53, 32]⟩ : ByteArray) ++ ⟨#[34, 97, 98, 34]⟩ = ⟨#[114, 117, 108, 101, 32, 53, 32, 34, 97, 98, 34]⟩ := by decide
  obtain ⟨b, o, c, rfl, hc⟩ := hv.cellsT (by decide)
  have HC := Lib.hid hc
  clear hc hv
  go_enter Tryz.func159, Tryz.ntmps159
  go_wp2_with fail
  refine wp_loop_rounds 4 ?_
  rw [rounds_succ]
  have X0 : Hid (Off Nob w w) := Lib.hid (Off.refl _ _)
  have c0 := HC.out _ X0.out 0 _ rfl
  have c1 := HC.out _ X0.out 1 _ rfl
  have c2 := HC.out _ X0.out 2 _ rfl
  have c3 := HC.out _ X0.out 3 _ rfl
  have c4 := HC.out _ X0.out 4 _ rfl
  have c5 := HC.out _ X0.out 5 _ rfl
  have c6 := HC.out _ X0.out 6 _ rfl
  have c7 := HC.out _ X0.out 7 _ rfl
  have c8 := HC.out _ X0.out 8 _ rfl
  simp only [Nat.add_zero] at c0
  go_wp2_with fail
  refine (co_tcheck_rule _).mono ?_
  rintro e w1 ⟨rfl, o1⟩
  have X1 := Lib.hid (X0.out.also o1)
  clear o1 X0 c0 c1 c2 c3 c4 c5 c6 c7 c8
  go_wp2_with fail
  rw [rounds_succ]
  have c0 := HC.out _ X1.out 9 _ rfl
  have c1 := HC.out _ X1.out 10 _ rfl
  have c2 := HC.out _ X1.out 11 _ rfl
  have c3 := HC.out _ X1.out 12 _ rfl
  have c4 := HC.out _ X1.out 13 _ rfl
  have c5 := HC.out _ X1.out 14 _ rfl
  have c6 := HC.out _ X1.out 15 _ rfl
  have c7 := HC.out _ X1.out 16 _ rfl
  have c8 := HC.out _ X1.out 17 _ rfl
  go_wp2_with fail
  refine (co_tcheck_five _).mono ?_
  rintro e w2 ⟨rfl, o1⟩
  have X2 := Lib.hid (X1.out.also o1)
  clear o1 X1 c0 c1 c2 c3 c4 c5 c6 c7 c8
  go_wp2_with fail
  rw [rounds_succ]
  have c0 := HC.out _ X2.out 18 _ rfl
  have c1 := HC.out _ X2.out 19 _ rfl
  have c2 := HC.out _ X2.out 20 _ rfl
  have c3 := HC.out _ X2.out 21 _ rfl
  have c4 := HC.out _ X2.out 22 _ rfl
  have c5 := HC.out _ X2.out 23 _ rfl
  have c6 := HC.out _ X2.out 24 _ rfl
  have c7 := HC.out _ X2.out 25 _ rfl
  have c8 := HC.out _ X2.out 26 _ rfl
  go_wp2_with fail
  refine (co_tcheck_lit _).mono ?_
  rintro e w3 ⟨rfl, o1⟩
  have X3 := Lib.hid (X2.out.also o1)
  clear o1 X2 c0 c1 c2 c3 c4 c5 c6 c7 c8
  go_wp2_with fail
  rw [rounds_succ]
  go_wp2_with fail
  refine wp_loop_rounds 4 ?_
  rw [rounds_succ]
  have c0 := HC.out _ X3.out 0 _ rfl
  have c1 := HC.out _ X3.out 1 _ rfl
  have c2 := HC.out _ X3.out 2 _ rfl
  have c3 := HC.out _ X3.out 3 _ rfl
  have c4 := HC.out _ X3.out 4 _ rfl
  have c5 := HC.out _ X3.out 5 _ rfl
  have c6 := HC.out _ X3.out 6 _ rfl
  have c7 := HC.out _ X3.out 7 _ rfl
  have c8 := HC.out _ X3.out 8 _ rfl
  simp only [Nat.add_zero] at c0
  go_wp2_with fail
  refine (co_ttext_rule _).mono ?_
  rintro e w4 ⟨rfl, o1⟩
  have X4 := Lib.hid (X3.out.also o1)
  clear o1 X3 c0 c1 c2 c3 c4 c5 c6 c7 c8
  go_wp2_with fail
  rw [rounds_succ]
  have c0 := HC.out _ X4.out 9 _ rfl
  have c1 := HC.out _ X4.out 10 _ rfl
  have c2 := HC.out _ X4.out 11 _ rfl
  have c3 := HC.out _ X4.out 12 _ rfl
  have c4 := HC.out _ X4.out 13 _ rfl
  have c5 := HC.out _ X4.out 14 _ rfl
  have c6 := HC.out _ X4.out 15 _ rfl
  have c7 := HC.out _ X4.out 16 _ rfl
  have c8 := HC.out _ X4.out 17 _ rfl
  go_wp2_with fail
  refine (co_ttext_five _).mono ?_
  rintro e w5 ⟨rfl, o1⟩
  have X5 := Lib.hid (X4.out.also o1)
  clear o1 X4 c0 c1 c2 c3 c4 c5 c6 c7 c8
  go_wp2_with fail
  rw [rounds_succ]
  have c0 := HC.out _ X5.out 18 _ rfl
  have c1 := HC.out _ X5.out 19 _ rfl
  have c2 := HC.out _ X5.out 20 _ rfl
  have c3 := HC.out _ X5.out 21 _ rfl
  have c4 := HC.out _ X5.out 22 _ rfl
  have c5 := HC.out _ X5.out 23 _ rfl
  have c6 := HC.out _ X5.out 24 _ rfl
  have c7 := HC.out _ X5.out 25 _ rfl
  have c8 := HC.out _ X5.out 26 _ rfl
  go_wp2_with fail
  refine (co_ttext_lit _).mono ?_
  rintro e w6 ⟨rfl, o1⟩
  have X6 := Lib.hid (X5.out.also o1)
  clear o1 X5 c0 c1 c2 c3 c4 c5 c6 c7 c8
  go_wp2_with fail
  rw [rounds_succ]
  go_wp2_with fail
  go_ret3
  exact ⟨rfl, X6.out⟩
set_option maxHeartbeats 4000000 in
theorem co_pr_b (w : World) (v : Value) (hv : Rd w (fun _ => True) 9 v 3 tk_b) : Calls Tryz.prog 159 #[v] w (RetV w (.tuple #[.string ⟨#[114, 117, 108, 101, 32, 57, 32, 91, 97, 98, 93]⟩, .int .i64 0, .int .i64 0])) := by
  have s__114_117_108_101 : (⟨#[]⟩ : ByteArray) ++ ⟨#[114, 117, 108, 101]⟩ = ⟨#[114, 117, 108, 101]⟩ := by decide
  have s_114_117_108_101_32 : (⟨#[114, 117, 108, 101]⟩ : ByteArray) ++ ⟨#[32]⟩ = ⟨#[114, 117, 108, 101, 32]⟩ := by decide
  have s_114_117_108_101_32_57 : (⟨#[114, 117, 108, 101, 32]⟩ : ByteArray) ++ ⟨#[57]⟩ = ⟨#[114, 117, 108, 101, 32, 57]⟩ := by decide
  have s_114_117_108_101_32_57_32 : (⟨#[114, 117, 108, 101, 32, 57]⟩ : ByteArray) ++ ⟨#[32]⟩ = ⟨#[114, 117, 108, 101, 32, 57, 32]⟩ := by decide
  have s_114_117_108_101_32_57_32_91_97_98_93 : (⟨#[114, 117, 108, 101, 32, 57, 32]⟩ : ByteArray) ++ ⟨#[91, 97, 98, 93]⟩ = ⟨#[114, 117, 108, 101, 32, 57, 32, 91, 97, 98, 93]⟩ := by decide
  obtain ⟨b, o, c, rfl, hc⟩ := hv.cellsT (by decide)
  have HC := Lib.hid hc
  clear hc hv
  go_enter Tryz.func159, Tryz.ntmps159
  go_wp2_with fail
  refine wp_loop_rounds 4 ?_
  rw [rounds_succ]
  have X0 : Hid (Off Nob w w) := Lib.hid (Off.refl _ _)
  have c0 := HC.out _ X0.out 0 _ rfl
  have c1 := HC.out _ X0.out 1 _ rfl
  have c2 := HC.out _ X0.out 2 _ rfl
  have c3 := HC.out _ X0.out 3 _ rfl
  have c4 := HC.out _ X0.out 4 _ rfl
  have c5 := HC.out _ X0.out 5 _ rfl
  have c6 := HC.out _ X0.out 6 _ rfl
  have c7 := HC.out _ X0.out 7 _ rfl
  have c8 := HC.out _ X0.out 8 _ rfl
  simp only [Nat.add_zero] at c0
  go_wp2_with fail
  refine (co_tcheck_rule _).mono ?_
  rintro e w1 ⟨rfl, o1⟩
  have X1 := Lib.hid (X0.out.also o1)
  clear o1 X0 c0 c1 c2 c3 c4 c5 c6 c7 c8
  go_wp2_with fail
  rw [rounds_succ]
  have c0 := HC.out _ X1.out 9 _ rfl
  have c1 := HC.out _ X1.out 10 _ rfl
  have c2 := HC.out _ X1.out 11 _ rfl
  have c3 := HC.out _ X1.out 12 _ rfl
  have c4 := HC.out _ X1.out 13 _ rfl
  have c5 := HC.out _ X1.out 14 _ rfl
  have c6 := HC.out _ X1.out 15 _ rfl
  have c7 := HC.out _ X1.out 16 _ rfl
  have c8 := HC.out _ X1.out 17 _ rfl
  go_wp2_with fail
  refine (co_tcheck_nine _).mono ?_
  rintro e w2 ⟨rfl, o1⟩
  have X2 := Lib.hid (X1.out.also o1)
  clear o1 X1 c0 c1 c2 c3 c4 c5 c6 c7 c8
  go_wp2_with fail
  rw [rounds_succ]
  have c0 := HC.out _ X2.out 18 _ rfl
  have c1 := HC.out _ X2.out 19 _ rfl
  have c2 := HC.out _ X2.out 20 _ rfl
  have c3 := HC.out _ X2.out 21 _ rfl
  have c4 := HC.out _ X2.out 22 _ rfl
  have c5 := HC.out _ X2.out 23 _ rfl
  have c6 := HC.out _ X2.out 24 _ rfl
  have c7 := HC.out _ X2.out 25 _ rfl
  have c8 := HC.out _ X2.out 26 _ rfl
  go_wp2_with fail
  refine (co_tcheck_cls _).mono ?_
  rintro e w3 ⟨rfl, o1⟩
  have X3 := Lib.hid (X2.out.also o1)
  clear o1 X2 c0 c1 c2 c3 c4 c5 c6 c7 c8
  go_wp2_with fail
  rw [rounds_succ]
  go_wp2_with fail
  refine wp_loop_rounds 4 ?_
  rw [rounds_succ]
  have c0 := HC.out _ X3.out 0 _ rfl
  have c1 := HC.out _ X3.out 1 _ rfl
  have c2 := HC.out _ X3.out 2 _ rfl
  have c3 := HC.out _ X3.out 3 _ rfl
  have c4 := HC.out _ X3.out 4 _ rfl
  have c5 := HC.out _ X3.out 5 _ rfl
  have c6 := HC.out _ X3.out 6 _ rfl
  have c7 := HC.out _ X3.out 7 _ rfl
  have c8 := HC.out _ X3.out 8 _ rfl
  simp only [Nat.add_zero] at c0
  go_wp2_with fail
  refine (co_ttext_rule _).mono ?_
  rintro e w4 ⟨rfl, o1⟩
  have X4 := Lib.hid (X3.out.also o1)
  clear o1 X3 c0 c1 c2 c3 c4 c5 c6 c7 c8
  go_wp2_with fail
  rw [rounds_succ]
  have c0 := HC.out _ X4.out 9 _ rfl
  have c1 := HC.out _ X4.out 10 _ rfl
  have c2 := HC.out _ X4.out 11 _ rfl
  have c3 := HC.out _ X4.out 12 _ rfl
  have c4 := HC.out _ X4.out 13 _ rfl
  have c5 := HC.out _ X4.out 14 _ rfl
  have c6 := HC.out _ X4.out 15 _ rfl
  have c7 := HC.out _ X4.out 16 _ rfl
  have c8 := HC.out _ X4.out 17 _ rfl
  go_wp2_with fail
  refine (co_ttext_nine _).mono ?_
  rintro e w5 ⟨rfl, o1⟩
  have X5 := Lib.hid (X4.out.also o1)
  clear o1 X4 c0 c1 c2 c3 c4 c5 c6 c7 c8
  go_wp2_with fail
  rw [rounds_succ]
  have c0 := HC.out _ X5.out 18 _ rfl
  have c1 := HC.out _ X5.out 19 _ rfl
  have c2 := HC.out _ X5.out 20 _ rfl
  have c3 := HC.out _ X5.out 21 _ rfl
  have c4 := HC.out _ X5.out 22 _ rfl
  have c5 := HC.out _ X5.out 23 _ rfl
  have c6 := HC.out _ X5.out 24 _ rfl
  have c7 := HC.out _ X5.out 25 _ rfl
  have c8 := HC.out _ X5.out 26 _ rfl
  go_wp2_with fail
  refine (co_ttext_cls _).mono ?_
  rintro e w6 ⟨rfl, o1⟩
  have X6 := Lib.hid (X5.out.also o1)
  clear o1 X5 c0 c1 c2 c3 c4 c5 c6 c7 c8
  go_wp2_with fail
  rw [rounds_succ]
  go_wp2_with fail
  go_ret3
  exact ⟨rfl, X6.out⟩
end Go.Proofs.YtkflicifngohcaaGreatDoor

/-
  dragnetref12.number, wrong and one at the rules of the example.
-/
namespace Go.Proofs.YtkflicifngohcaaGreatDoor
open Go.RowKit
set_option linter.unusedVariables false
set_option linter.unusedSimpArgs false
set_option maxRecDepth 100000
theorem co_number (n : Nat) (h : n ≤ 999999999) (w : World) : Calls Tryz.prog 157 #[.int .i64 (n : Int)] w (RetV w (.bool true)) := by
  have h0 : decide ((n : Int) ≤ 999999999) = true := decide_eq_true (by omega)
  go_enter Tryz.func157, Tryz.ntmps157
  go_wp2_with fail
  go_ret
  exact ⟨rfl, Off.refl _ _⟩
theorem co_number0 (w : World) : Calls Tryz.prog 157 #[.int .i64 0] w (RetV w (.bool true)) := co_number 0 (by decide) w
theorem co_number5 (w : World) : Calls Tryz.prog 157 #[.int .i64 5] w (RetV w (.bool true)) := co_number 5 (by decide) w
theorem co_number9 (w : World) : Calls Tryz.prog 157 #[.int .i64 9] w (RetV w (.bool true)) := co_number 9 (by decide) w
set_option maxHeartbeats 2000000 in
theorem co_wrong_a (w : World) : Calls Tryz.prog 158 #[.agg #[.int .i64 1, .string ⟨#[97, 98]⟩, .int .u64 0, .int .u64 0, .int .u64 0, .int .u64 0, .int .i64 0, .int .i64 0]] w (RetV w (.int .i64 0)) := by
  have hq : ∀ w : World, (binOp .neq 146 (.agg #[.int .u64 0, .int .u64 0, .int .u64 0, .int .u64 0]) (.agg #[.int .u64 0, .int .u64 0, .int .u64 0, .int .u64 0])).run Tryz.prog w = .ok (.bool false) w := fun _ => by kernel_rfl
  go_enter Tryz.func158, Tryz.ntmps158
  go_wp2_with fail
  have HB0 : Hid (Blk (w.alloc (.cells #[.int .i64 1, .string ⟨#[97, 98]⟩, .int .u64 0, .int .u64 0, .int .u64 0, .int .u64 0, .int .i64 0, .int .i64 0] 148)) w.heap.size 148 #[.int .i64 1, .string ⟨#[97, 98]⟩, .int .u64 0, .int .u64 0, .int .u64 0, .int .u64 0, .int .i64 0, .int .i64 0] ∧ Off Nob w (w.alloc (.cells #[.int .i64 1, .string ⟨#[97, 98]⟩, .int .u64 0, .int .u64 0, .int .u64 0, .int .u64 0, .int .i64 0, .int .i64 0] 148))) := Lib.hid ⟨Blk.new _ _ _, Off.alloc (Off.refl _ _) _⟩
  revert HB0
  generalize w.alloc (.cells #[.int .i64 1, .string ⟨#[97, 98]⟩, .int .u64 0, .int .u64 0, .int .u64 0, .int .u64 0, .int .i64 0, .int .i64 0] 148) = w0
  intro HB0
  have GC : Hid (∀ W, Off Nob w0 W → W.cell? ⟨w.heap.size, 0, none⟩ = some (.int .i64 1) ∧ W.cell? ⟨w.heap.size, 1, none⟩ = some (.string ⟨#[97, 98]⟩) ∧ W.cell? ⟨w.heap.size, 2, none⟩ = some (.int .u64 0) ∧ W.cell? ⟨w.heap.size, 3, none⟩ = some (.int .u64 0) ∧ W.cell? ⟨w.heap.size, 4, none⟩ = some (.int .u64 0) ∧ W.cell? ⟨w.heap.size, 5, none⟩ = some (.int .u64 0) ∧ W.cell? ⟨w.heap.size, 6, none⟩ = some (.int .i64 0) ∧ W.cell? ⟨w.heap.size, 7, none⟩ = some (.int .i64 0)) := Lib.hid (fun W ho => by
    have h := HB0.out.1.to (ho.block _ HB0.out.1.lt (fun h => h))
    exact ⟨h.cell 0, h.cell 1, h.cell 2, h.cell 3, h.cell 4, h.cell 5, h.cell 6, h.cell 7⟩)
  have X0 : Hid (Off Nob w0 w0) := Lib.hid (Off.refl _ _)
  obtain ⟨c0, c1, c2, c3, c4, c5, c6, c7⟩ := GC.out _ X0.out
  go_wp2_with fail
  refine (co_number0 _).mono ?_
  rintro e w1 ⟨rfl, o1⟩
  have X1 := Lib.hid (X0.out.also o1)
  clear o1 X0
  clear c0 c1 c2 c3 c4 c5 c6 c7
  obtain ⟨c0, c1, c2, c3, c4, c5, c6, c7⟩ := GC.out _ X1.out
  go_wp2_with fail
  refine (co_number0 _).mono ?_
  rintro e w2 ⟨rfl, o1⟩
  have X2 := Lib.hid (X1.out.also o1)
  clear o1 X1
  clear c0 c1 c2 c3 c4 c5 c6 c7
  obtain ⟨c0, c1, c2, c3, c4, c5, c6, c7⟩ := GC.out _ X2.out
  go_wp2_with fail
  go_ret
  exact ⟨rfl, HB0.out.2.also X2.out⟩
set_option maxHeartbeats 2000000 in
theorem co_wrong_b (w : World) : Calls Tryz.prog 158 #[.agg #[.int .i64 3, .string ⟨#[]⟩, .int .u64 0, .int .u64 25769803776, .int .u64 0, .int .u64 0, .int .i64 0, .int .i64 0]] w (RetV w (.int .i64 0)) := by
  have hq : ∀ w : World, (binOp .neq 146 (.agg #[.int .u64 0, .int .u64 0, .int .u64 0, .int .u64 0]) (.agg #[.int .u64 0, .int .u64 0, .int .u64 0, .int .u64 0])).run Tryz.prog w = .ok (.bool false) w := fun _ => by kernel_rfl
  go_enter Tryz.func158, Tryz.ntmps158
  go_wp2_with fail
  have HB0 : Hid (Blk (w.alloc (.cells #[.int .i64 3, .string ⟨#[]⟩, .int .u64 0, .int .u64 25769803776, .int .u64 0, .int .u64 0, .int .i64 0, .int .i64 0] 148)) w.heap.size 148 #[.int .i64 3, .string ⟨#[]⟩, .int .u64 0, .int .u64 25769803776, .int .u64 0, .int .u64 0, .int .i64 0, .int .i64 0] ∧ Off Nob w (w.alloc (.cells #[.int .i64 3, .string ⟨#[]⟩, .int .u64 0, .int .u64 25769803776, .int .u64 0, .int .u64 0, .int .i64 0, .int .i64 0] 148))) := Lib.hid ⟨Blk.new _ _ _, Off.alloc (Off.refl _ _) _⟩
  revert HB0
  generalize w.alloc (.cells #[.int .i64 3, .string ⟨#[]⟩, .int .u64 0, .int .u64 25769803776, .int .u64 0, .int .u64 0, .int .i64 0, .int .i64 0] 148) = w0
  intro HB0
  have GC : Hid (∀ W, Off Nob w0 W → W.cell? ⟨w.heap.size, 0, none⟩ = some (.int .i64 3) ∧ W.cell? ⟨w.heap.size, 1, none⟩ = some (.string ⟨#[]⟩) ∧ W.cell? ⟨w.heap.size, 2, none⟩ = some (.int .u64 0) ∧ W.cell? ⟨w.heap.size, 3, none⟩ = some (.int .u64 25769803776) ∧ W.cell? ⟨w.heap.size, 4, none⟩ = some (.int .u64 0) ∧ W.cell? ⟨w.heap.size, 5, none⟩ = some (.int .u64 0) ∧ W.cell? ⟨w.heap.size, 6, none⟩ = some (.int .i64 0) ∧ W.cell? ⟨w.heap.size, 7, none⟩ = some (.int .i64 0)) := Lib.hid (fun W ho => by
    have h := HB0.out.1.to (ho.block _ HB0.out.1.lt (fun h => h))
    exact ⟨h.cell 0, h.cell 1, h.cell 2, h.cell 3, h.cell 4, h.cell 5, h.cell 6, h.cell 7⟩)
  have X0 : Hid (Off Nob w0 w0) := Lib.hid (Off.refl _ _)
  obtain ⟨c0, c1, c2, c3, c4, c5, c6, c7⟩ := GC.out _ X0.out
  go_wp2_with fail
  refine (co_number0 _).mono ?_
  rintro e w1 ⟨rfl, o1⟩
  have X1 := Lib.hid (X0.out.also o1)
  clear o1 X0
  clear c0 c1 c2 c3 c4 c5 c6 c7
  obtain ⟨c0, c1, c2, c3, c4, c5, c6, c7⟩ := GC.out _ X1.out
  go_wp2_with fail
  refine (co_number0 _).mono ?_
  rintro e w2 ⟨rfl, o1⟩
  have X2 := Lib.hid (X1.out.also o1)
  clear o1 X1
  clear c0 c1 c2 c3 c4 c5 c6 c7
  obtain ⟨c0, c1, c2, c3, c4, c5, c6, c7⟩ := GC.out _ X2.out
  go_wp2_with fail
  go_ret
  exact ⟨rfl, HB0.out.2.also X2.out⟩
set_option maxHeartbeats 4000000 in
theorem co_one_a (w : World) (v : Value) (hv : Rd w (fun _ => True) 8 v 1 el_a) : Calls Tryz.prog 143 #[.agg #[.int .i64 5, v]] w (RetV w (.tuple #[.int .i64 0, .int .i64 0])) := by
  have HV0 := Lib.hid hv
  obtain ⟨b, o, c, rfl, hc⟩ := hv.cellsT (by decide)
  have HV := HV0
  have HC := Lib.hid hc
  clear hc hv HV0
  go_enter Tryz.func143, Tryz.ntmps143
  go_wp2_with fail
  have HB0 : Hid (Blk (w.alloc (.cells #[.int .i64 5, .slice (some ⟨b, o, none⟩) 1 c] 143)) w.heap.size 143 #[.int .i64 5, .slice (some ⟨b, o, none⟩) 1 c] ∧ Off Nob w (w.alloc (.cells #[.int .i64 5, .slice (some ⟨b, o, none⟩) 1 c] 143))) := Lib.hid ⟨Blk.new _ _ _, Off.alloc (Off.refl _ _) _⟩
  revert HB0
  generalize w.alloc (.cells #[.int .i64 5, .slice (some ⟨b, o, none⟩) 1 c] 143) = w0
  intro HB0
  have GC : Hid (∀ W, Off Nob w0 W → W.cell? ⟨w.heap.size, 0, none⟩ = some (.int .i64 5) ∧ W.cell? ⟨w.heap.size, 1, none⟩ = some (.slice (some ⟨b, o, none⟩) 1 c) ∧ W.cell? ⟨b, o, none⟩ = some (.int .i64 1) ∧ W.cell? ⟨b, o + 1, none⟩ = some (.string ⟨#[97, 98]⟩) ∧ W.cell? ⟨b, o + 2, none⟩ = some (.int .u64 0) ∧ W.cell? ⟨b, o + 3, none⟩ = some (.int .u64 0) ∧ W.cell? ⟨b, o + 4, none⟩ = some (.int .u64 0) ∧ W.cell? ⟨b, o + 5, none⟩ = some (.int .u64 0) ∧ W.cell? ⟨b, o + 6, none⟩ = some (.int .i64 0) ∧ W.cell? ⟨b, o + 7, none⟩ = some (.int .i64 0)) := Lib.hid (fun W ho => by
    have h := HB0.out.1.to (ho.block _ HB0.out.1.lt (fun h => h))
    have k := HC.out W (HB0.out.2.also ho)
    exact ⟨h.cell 0, h.cell 1, k 0 _ rfl, k 1 _ rfl, k 2 _ rfl, k 3 _ rfl, k 4 _ rfl, k 5 _ rfl, k 6 _ rfl, k 7 _ rfl⟩)
  have X0 : Hid (Off Nob w0 w0) := Lib.hid (Off.refl _ _)
  obtain ⟨t0, t1, c0, c1, c2, c3, c4, c5, c6, c7⟩ := GC.out _ X0.out
  go_wp2_with fail
  refine (co_number5 _).mono ?_
  rintro e w1 ⟨rfl, o1⟩
  have X1 := Lib.hid (X0.out.also o1)
  clear o1 X0
  clear t0 t1 c0 c1 c2 c3 c4 c5 c6 c7
  obtain ⟨t0, t1, c0, c1, c2, c3, c4, c5, c6, c7⟩ := GC.out _ X1.out
  go_wp2_with fail
  refine wp_loop_rounds 2 ?_
  rw [rounds_succ]
  clear t0 t1 c0 c1 c2 c3 c4 c5 c6 c7
  obtain ⟨t0, t1, c0, c1, c2, c3, c4, c5, c6, c7⟩ := GC.out _ X1.out
  go_wp2_with fail
  refine (co_wrong_a _).mono ?_
  rintro e w2 ⟨rfl, o1⟩
  have X2 := Lib.hid (X1.out.also o1)
  clear o1 X1
  clear t0 t1 c0 c1 c2 c3 c4 c5 c6 c7
  obtain ⟨t0, t1, c0, c1, c2, c3, c4, c5, c6, c7⟩ := GC.out _ X2.out
  go_wp2_with fail
  rw [rounds_succ]
  clear t0 t1 c0 c1 c2 c3 c4 c5 c6 c7
  obtain ⟨t0, t1, c0, c1, c2, c3, c4, c5, c6, c7⟩ := GC.out _ X2.out
  go_wp2_with fail
  refine (co_tokens_a _ _ (HV.out.keepT (HB0.out.2.also X2.out))).mono ?_
  rintro e w3 ⟨v1, rfl, hr, o1⟩
  have X3 := Lib.hid (X2.out.also o1)
  have HT := Lib.hid hr
  obtain ⟨AA, cc, rfl, _⟩ := hr.form
  clear hr
  clear o1 X2
  clear t0 t1 c0 c1 c2 c3 c4 c5 c6 c7
  obtain ⟨t0, t1, c0, c1, c2, c3, c4, c5, c6, c7⟩ := GC.out _ X3.out
  go_wp2_with fail
  refine (co_pr_a _ _ HT.out).mono ?_
  rintro e w4 ⟨rfl, o1⟩
  have X4 := Lib.hid (X3.out.also o1)
  clear HT
  clear o1 X3
  clear t0 t1 c0 c1 c2 c3 c4 c5 c6 c7
  obtain ⟨t0, t1, c0, c1, c2, c3, c4, c5, c6, c7⟩ := GC.out _ X4.out
  go_wp2_with fail
  go_ret2
  exact ⟨rfl, HB0.out.2.also X4.out⟩
set_option maxHeartbeats 4000000 in
theorem co_one_b (w : World) (v : Value) (hv : Rd w (fun _ => True) 8 v 1 el_b) : Calls Tryz.prog 143 #[.agg #[.int .i64 9, v]] w (RetV w (.tuple #[.int .i64 0, .int .i64 0])) := by
  have HV0 := Lib.hid hv
  obtain ⟨b, o, c, rfl, hc⟩ := hv.cellsT (by decide)
  have HV := HV0
  have HC := Lib.hid hc
  clear hc hv HV0
  go_enter Tryz.func143, Tryz.ntmps143
  go_wp2_with fail
  have HB0 : Hid (Blk (w.alloc (.cells #[.int .i64 9, .slice (some ⟨b, o, none⟩) 1 c] 143)) w.heap.size 143 #[.int .i64 9, .slice (some ⟨b, o, none⟩) 1 c] ∧ Off Nob w (w.alloc (.cells #[.int .i64 9, .slice (some ⟨b, o, none⟩) 1 c] 143))) := Lib.hid ⟨Blk.new _ _ _, Off.alloc (Off.refl _ _) _⟩
  revert HB0
  generalize w.alloc (.cells #[.int .i64 9, .slice (some ⟨b, o, none⟩) 1 c] 143) = w0
  intro HB0
  have GC : Hid (∀ W, Off Nob w0 W → W.cell? ⟨w.heap.size, 0, none⟩ = some (.int .i64 9) ∧ W.cell? ⟨w.heap.size, 1, none⟩ = some (.slice (some ⟨b, o, none⟩) 1 c) ∧ W.cell? ⟨b, o, none⟩ = some (.int .i64 3) ∧ W.cell? ⟨b, o + 1, none⟩ = some (.string ⟨#[]⟩) ∧ W.cell? ⟨b, o + 2, none⟩ = some (.int .u64 0) ∧ W.cell? ⟨b, o + 3, none⟩ = some (.int .u64 25769803776) ∧ W.cell? ⟨b, o + 4, none⟩ = some (.int .u64 0) ∧ W.cell? ⟨b, o + 5, none⟩ = some (.int .u64 0) ∧ W.cell? ⟨b, o + 6, none⟩ = some (.int .i64 0) ∧ W.cell? ⟨b, o + 7, none⟩ = some (.int .i64 0)) := Lib.hid (fun W ho => by
    have h := HB0.out.1.to (ho.block _ HB0.out.1.lt (fun h => h))
    have k := HC.out W (HB0.out.2.also ho)
    exact ⟨h.cell 0, h.cell 1, k 0 _ rfl, k 1 _ rfl, k 2 _ rfl, k 3 _ rfl, k 4 _ rfl, k 5 _ rfl, k 6 _ rfl, k 7 _ rfl⟩)
  have X0 : Hid (Off Nob w0 w0) := Lib.hid (Off.refl _ _)
  obtain ⟨t0, t1, c0, c1, c2, c3, c4, c5, c6, c7⟩ := GC.out _ X0.out
  go_wp2_with fail
  refine (co_number9 _).mono ?_
  rintro e w1 ⟨rfl, o1⟩
  have X1 := Lib.hid (X0.out.also o1)
  clear o1 X0
  clear t0 t1 c0 c1 c2 c3 c4 c5 c6 c7
  obtain ⟨t0, t1, c0, c1, c2, c3, c4, c5, c6, c7⟩ := GC.out _ X1.out
  go_wp2_with fail
  refine wp_loop_rounds 2 ?_
  rw [rounds_succ]
  clear t0 t1 c0 c1 c2 c3 c4 c5 c6 c7
  obtain ⟨t0, t1, c0, c1, c2, c3, c4, c5, c6, c7⟩ := GC.out _ X1.out
  go_wp2_with fail
  refine (co_wrong_b _).mono ?_
  rintro e w2 ⟨rfl, o1⟩
  have X2 := Lib.hid (X1.out.also o1)
  clear o1 X1
  clear t0 t1 c0 c1 c2 c3 c4 c5 c6 c7
  obtain ⟨t0, t1, c0, c1, c2, c3, c4, c5, c6, c7⟩ := GC.out _ X2.out
  go_wp2_with fail
  rw [rounds_succ]
  clear t0 t1 c0 c1 c2 c3 c4 c5 c6 c7
  obtain ⟨t0, t1, c0, c1, c2, c3, c4, c5, c6, c7⟩ := GC.out _ X2.out
  go_wp2_with fail
  refine (co_tokens_b _ _ (HV.out.keepT (HB0.out.2.also X2.out))).mono ?_
  rintro e w3 ⟨v1, rfl, hr, o1⟩
  have X3 := Lib.hid (X2.out.also o1)
  have HT := Lib.hid hr
  obtain ⟨AA, cc, rfl, _⟩ := hr.form
  clear hr
  clear o1 X2
  clear t0 t1 c0 c1 c2 c3 c4 c5 c6 c7
  obtain ⟨t0, t1, c0, c1, c2, c3, c4, c5, c6, c7⟩ := GC.out _ X3.out
  go_wp2_with fail
  refine (co_pr_b _ _ HT.out).mono ?_
  rintro e w4 ⟨rfl, o1⟩
  have X4 := Lib.hid (X3.out.also o1)
  clear HT
  clear o1 X3
  clear t0 t1 c0 c1 c2 c3 c4 c5 c6 c7
  obtain ⟨t0, t1, c0, c1, c2, c3, c4, c5, c6, c7⟩ := GC.out _ X4.out
  go_wp2_with fail
  go_ret2
  exact ⟨rfl, HB0.out.2.also X4.out⟩
end Go.Proofs.YtkflicifngohcaaGreatDoor

/-
  dragnetref21.Row.
-/
namespace Go.Proofs.YtkflicifngohcaaGreatDoor
open Go.RowKit
set_option linter.unusedVariables false
set_option linter.unusedSimpArgs false
set_option maxRecDepth 100000
theorem Tryz.infoEn : (Tryz.prog.info? 33).map (·.size) = some 8 := by kernel_rfl
/-- The layout that Row returns. -/
def layV (a b f : Int) : Value := .agg #[.int .i64 (a), .int .i64 (b), .int .i64 (f), .int .i64 (f + 256 * a), .int .i64 (f + 256 * a + a), .int .i64 (f + 256 * a + a + b * a), .int .i64 (f + 256 * a + a + b * a + a), .int .i64 (f + 256 * a + a + b * a + a + a)]
set_option maxHeartbeats 1000000 in
theorem rrow (a b f : Int) (h0 : 1 ≤ a) (h1 : a ≤ 4) (h2 : 1 ≤ b) (h3 : b ≤ 20) (h4 : 0 ≤ f) (h5 : f ≤ 3) (w : World) : Calls Tryz.prog 13 #[.int .i64 a, .int .i64 b, .int .i64 f] w fun e w' => e = .returned (.tuple #[layV a b f, .int .i64 (f + 256 * a + a + b * a + a + a + b)]) ∧ Off Nob w w' := by
  have : a = 1 ∨ a = 2 ∨ a = 3 ∨ a = 4 := by omega
  rcases this with rfl | rfl | rfl | rfl
  all_goals
    clear h0 h1
    go_enter Tryz.func13, Tryz.ntmps13
    go_wp2_with fail
    go_region
    go_wp2_with fail
    exact bodyPost_ret (results_cell_row_tmp rfl _ _ w.heap.size 33 _ (0, 0) _ rfl ((Blk.new w 33 _).alloc _) Tryz.underlying33 rfl Tryz.infoEn) rfl ⟨by simp [layV]; try omega, ((Off.alloc (Off.refl _ _) _).alloc _).drew⟩
end Go.Proofs.YtkflicifngohcaaGreatDoor
