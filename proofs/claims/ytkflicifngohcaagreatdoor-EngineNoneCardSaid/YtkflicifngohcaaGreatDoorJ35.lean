/-
  engine.Byte of the byte a with the mask that is set, behind Setup of the example.
-/
import Derived.Test.YtkflicifngohcaaGreatDoorJ30
import Derived.Test.YtkflicifngohcaaGreatDoorJ34
import Derived.Test.YtkflicifngohcaaGreatDoorJ27
namespace Go.Proofs.YtkflicifngohcaaGreatDoor
open Go.RowKit
set_option linter.unusedVariables false
set_option linter.unusedSimpArgs false
set_option maxRecDepth 100000
def exC0 : List (BitVec 64) := exC (List.replicate 263 0#64)
def exC1 : List (BitVec 64) := exC0.set 260 5#64
def exC2 : List (BitVec 64) := exC1.set 259 5#64
def exC3 : List (BitVec 64) := exC2.set 261 0#64
def exC4 : List (BitVec 64) := exC3.set 262 18446744073709551615#64
theorem exC0_len : exC0.length = 263 := by unfold exC0 exC; simp only [setL_length, List.length_replicate]
theorem exC1_len : exC1.length = 263 := by unfold exC1; rw [List.length_set, exC0_len]
theorem exC2_len : exC2.length = 263 := by unfold exC2; rw [List.length_set, exC1_len]
theorem exC3_len : exC3.length = 263 := by unfold exC3; rw [List.length_set, exC2_len]
theorem exC4_len : exC4.length = 263 := by unfold exC4; rw [List.length_set, exC3_len]
theorem ex0_97 : exC0.getD 97 0 = 5#64 := by kernel_rfl
theorem ex1_256 : exC1.getD 256 0 = 5#64 := by kernel_rfl
theorem ex1_260 : exC1.getD 260 0 = 5#64 := by kernel_rfl
theorem ex1_259 : exC1.getD 259 0 = 0#64 := by kernel_rfl
theorem ex2_257 : exC2.getD 257 0 = 2#64 := by kernel_rfl
theorem ex2_259 : exC2.getD 259 0 = 5#64 := by kernel_rfl
theorem ex3_258 : exC3.getD 258 0 = 4#64 := by kernel_rfl
theorem ex3_259 : exC3.getD 259 0 = 5#64 := by kernel_rfl
/-- The steps behind so many: the first lookup; the state; the hits. -/
def byE1 (E : List Ev) : List Ev := ldE 0 E 256 ++ [(2, 260)]
def byE2 (E : List Ev) : List Ev := byE1 E ++ [(1, 256)]
def byE3 (E : List Ev) : List Ev := byE2 E ++ [(1, 260)]
def byE4 (E : List Ev) : List Ev := byE3 E ++ [(1, 259)]
def byE5 (E : List Ev) : List Ev := byE4 E ++ [(2, 259)]
def byE6 (E : List Ev) : List Ev := byE5 E ++ [(1, 257)]
def byE7 (E : List Ev) : List Ev := byE6 E ++ [(1, 259)]
def byE8 (E : List Ev) : List Ev := byE7 E ++ [(2, 261)]
def byE9 (E : List Ev) : List Ev := byE8 E ++ [(1, 258)]
def byE10 (E : List Ev) : List Ev := byE9 E ++ [(1, 259)]
def byE11 (E : List Ev) : List Ev := byE10 E ++ [(2, 262)]
theorem byE1_len (E : List Ev) : (byE1 E).length = E.length + 257 := by simp [byE1, length_ldE]
theorem byE2_len (E : List Ev) : (byE2 E).length = E.length + 258 := by simp [byE2, byE1_len]
theorem byE3_len (E : List Ev) : (byE3 E).length = E.length + 259 := by simp [byE3, byE2_len]
theorem byE4_len (E : List Ev) : (byE4 E).length = E.length + 260 := by simp [byE4, byE3_len]
theorem byE5_len (E : List Ev) : (byE5 E).length = E.length + 261 := by simp [byE5, byE4_len]
theorem byE6_len (E : List Ev) : (byE6 E).length = E.length + 262 := by simp [byE6, byE5_len]
theorem byE7_len (E : List Ev) : (byE7 E).length = E.length + 263 := by simp [byE7, byE6_len]
theorem byE8_len (E : List Ev) : (byE8 E).length = E.length + 264 := by simp [byE8, byE7_len]
theorem byE9_len (E : List Ev) : (byE9 E).length = E.length + 265 := by simp [byE9, byE8_len]
theorem byE10_len (E : List Ev) : (byE10 E).length = E.length + 266 := by simp [byE10, byE9_len]
theorem byE11_len (E : List Ev) : (byE11 E).length = E.length + 267 := by simp [byE11, byE10_len]
theorem not_zero (w : World) : Calls Tryz.prog 52 #[.int .u64 0] w fun e w' => e = .returned (.int .u64 18446744073709551615) ∧ w = w' := by
  go_enter Tryz.func52, Tryz.ntmps52
  go_wp2
  go_ret
  exact ⟨rfl, rfl⟩
theorem not_ones (w : World) : Calls Tryz.prog 52 #[.int .u64 18446744073709551615] w fun e w' => e = .returned (.int .u64 0) ∧ w = w' := by
  go_enter Tryz.func52, Tryz.ntmps52
  go_wp2
  go_ret
  exact ⟨rfl, rfl⟩
theorem sel_ex (w : World) : Calls Tryz.prog 51 #[.int .u64 18446744073709551615, .int .u64 5, .int .u64 0] w fun e w' => e = .returned (.int .u64 5) ∧ w = w' := select_any 18446744073709551615#64 5#64 0#64 w
theorem zero_0 (w : World) : Calls Tryz.prog 53 #[.int .u64 0] w fun e w' => e = .returned (.int .u64 18446744073709551615) ∧ w = w' := zero_any 0#64 w
theorem zero_4 (w : World) : Calls Tryz.prog 53 #[.int .u64 4] w fun e w' => e = .returned (.int .u64 0) ∧ w = w' := zero_any 4#64 w
set_option maxHeartbeats 4000000 in
theorem nbyte_ex (w : World) (F : Nat → Prop) (p : Nat) (E : List Ev) (h : Ar w F p exC0 E) (hE : E.length + 267 < 8388608) :
    Calls Tryz.prog 16 #[.pointer (some ⟨p, 0, none⟩), exL.val, .int .u64 97, .int .u64 18446744073709551615] w fun e w' => e = .returned (.int .i64 0) ∧ ArTo w F p exC4 (byE11 E) w' := by
  have hmf : ∀ (fn : Fn) (first cap : Array Value) (w : World), (Instr.makeFunc fn first cap).run Tryz.prog w = .ok (.func fn first cap) w := fun _ _ _ _ => rfl
  have HA := Lib.hid h
  clear h
  unfold exL Lay.val
  simp only
  go_enter_defers Tryz.func16, Tryz.ntmps16
  go_wp2_with fail
  have X0 : Hid (Off Nob w (((w.alloc (.cells #[.int .i64 1, .int .i64 2, .int .i64 0, .int .i64 256, .int .i64 257, .int .i64 259, .int .i64 260, .int .i64 261] 33)).alloc (.cells #[.int .u64 18446744073709551615] 41)).alloc (.cells #[.int .i64 0] 29)) ∧ Blk (((w.alloc (.cells #[.int .i64 1, .int .i64 2, .int .i64 0, .int .i64 256, .int .i64 257, .int .i64 259, .int .i64 260, .int .i64 261] 33)).alloc (.cells #[.int .u64 18446744073709551615] 41)).alloc (.cells #[.int .i64 0] 29)) w.heap.size 33 #[.int .i64 1, .int .i64 2, .int .i64 0, .int .i64 256, .int .i64 257, .int .i64 259, .int .i64 260, .int .i64 261] ∧ Blk (((w.alloc (.cells #[.int .i64 1, .int .i64 2, .int .i64 0, .int .i64 256, .int .i64 257, .int .i64 259, .int .i64 260, .int .i64 261] 33)).alloc (.cells #[.int .u64 18446744073709551615] 41)).alloc (.cells #[.int .i64 0] 29)) (w.heap.size + 1) 41 #[.int .u64 18446744073709551615] ∧ Blk (((w.alloc (.cells #[.int .i64 1, .int .i64 2, .int .i64 0, .int .i64 256, .int .i64 257, .int .i64 259, .int .i64 260, .int .i64 261] 33)).alloc (.cells #[.int .u64 18446744073709551615] 41)).alloc (.cells #[.int .i64 0] 29)) (w.heap.size + 2) 29 #[.int .i64 0]) := Lib.hid ⟨(((Off.refl _ _).alloc _).alloc _).alloc _, ((Blk.new _ _ _).alloc _).alloc _, (blk_second _ _ _ _).alloc _, by
    have := Blk.new ((w.alloc (.cells #[.int .i64 1, .int .i64 2, .int .i64 0, .int .i64 256, .int .i64 257, .int .i64 259, .int .i64 260, .int .i64 261] 33)).alloc (.cells #[.int .u64 18446744073709551615] 41)) 29 #[.int .i64 0]
    simpa using this⟩
  revert X0
  generalize (((w.alloc (.cells #[.int .i64 1, .int .i64 2, .int .i64 0, .int .i64 256, .int .i64 257, .int .i64 259, .int .i64 260, .int .i64 261] 33)).alloc (.cells #[.int .u64 18446744073709551615] 41)).alloc (.cells #[.int .i64 0] 29)) = w0
  intro X0
  refine (nsteps_yes 1 2 (by decide) (by decide) (by decide) (by decide) _).mono ?_
  rintro e w1 ⟨rfl, rfl⟩
  have c0 := X0.out.2.1.cell 0
  have c1 := X0.out.2.1.cell 1
  have c2 := X0.out.2.1.cell 2
  have c3 := X0.out.2.1.cell 3
  have c4 := X0.out.2.1.cell 4
  have c5 := X0.out.2.1.cell 5
  have c6 := X0.out.2.1.cell 6
  have c7 := X0.out.2.1.cell 7
  have r0 := X0.out.2.2.2.cell 0
  have fr := X0.out.2.2.2.frozen 0
  go_wp2_with fail
  have HBG := Lib.hid (nbegin_byte exL w0 F p exC0 E (HA.out.keep X0.out.1 (fun _ _ hn => hn)) (by rw [exC0_len]; exact exL_ok) 267 (by decide) (by omega) ⟨w.heap.size + 1, 0, none⟩ (fun W o => nask_byte 18446744073709551615#64 (by decide) W (w.heap.size + 1) ((X0.out.2.2.1.to (o.block _ X0.out.2.2.1.lt id)).cell 0)))
  refine HBG.out.mono ?_
  rintro e w1 ⟨g, rfl, hg1, hg2, o1⟩
  have X1 := Lib.hid (And.intro (X0.out.1.also o1) (And.intro (X0.out.2.1.to (o1.block _ X0.out.2.1.lt id)) (And.intro (X0.out.2.2.1.to (o1.block _ X0.out.2.2.1.lt id)) (And.intro (X0.out.2.2.2.to (o1.block _ X0.out.2.2.2.lt id)) (And.intro hg2 (And.intro hg1 o1.size))))))
  clear c0 c1 c2 c3 c4 c5 c6 c7 r0 fr HBG hg1 hg2 o1
  have R0 := Lib.hid (X1.out.2.2.2.1.alloc (.cells #[.pointer (some ⟨g, 0, none⟩)] 107))
  have hO := (Off.alloc (Off.refl Nob w1) (.cells #[.pointer (some ⟨g, 0, none⟩)] 107)).also (off_same (i := 0) (u := .int .i64 0) R0.out rfl)
  have r0 := R0.out.cell 0
  have fr := R0.out.frozen 0
  have hMV : Blk ((w1.alloc (.cells #[.pointer (some ⟨g, 0, none⟩)] 107)).setCell ⟨w.heap.size + 2, 0, none⟩ (.int .i64 0)) w1.heap.size 107 #[.pointer (some ⟨g, 0, none⟩)] := (Blk.new w1 107 #[.pointer (some ⟨g, 0, none⟩)]).far (by have := X1.out.2.2.2.1.lt; simp; omega) _
  have r0' : ((w1.alloc (.cells #[.pointer (some ⟨g, 0, none⟩)] 107)).setCell ⟨w.heap.size + 2, 0, none⟩ (.int .i64 0)).cell? ⟨w.heap.size + 2, 0, none⟩ = some (.int .i64 0) := (X1.out.2.2.2.1.to (hO.block _ X1.out.2.2.2.1.lt id)).cell 0
  have fr' : ((w1.alloc (.cells #[.pointer (some ⟨g, 0, none⟩)] 107)).setCell ⟨w.heap.size + 2, 0, none⟩ (.int .i64 0)).frozen? ⟨w.heap.size + 2, 0, none⟩ = false := (X1.out.2.2.2.1.to (hO.block _ X1.out.2.2.2.1.lt id)).frozen 0
  have m0 := hMV.cell 0
  have X2 : Hid (Off Nob w ((w1.alloc (.cells #[.pointer (some ⟨g, 0, none⟩)] 107)).setCell ⟨w.heap.size + 2, 0, none⟩ (.int .i64 0)) ∧ Blk ((w1.alloc (.cells #[.pointer (some ⟨g, 0, none⟩)] 107)).setCell ⟨w.heap.size + 2, 0, none⟩ (.int .i64 0)) w.heap.size 33 #[.int .i64 1, .int .i64 2, .int .i64 0, .int .i64 256, .int .i64 257, .int .i64 259, .int .i64 260, .int .i64 261] ∧ Blk ((w1.alloc (.cells #[.pointer (some ⟨g, 0, none⟩)] 107)).setCell ⟨w.heap.size + 2, 0, none⟩ (.int .i64 0)) (w.heap.size + 1) 41 #[.int .u64 18446744073709551615] ∧ Blk ((w1.alloc (.cells #[.pointer (some ⟨g, 0, none⟩)] 107)).setCell ⟨w.heap.size + 2, 0, none⟩ (.int .i64 0)) (w.heap.size + 2) 29 #[.int .i64 0] ∧ Blk ((w1.alloc (.cells #[.pointer (some ⟨g, 0, none⟩)] 107)).setCell ⟨w.heap.size + 2, 0, none⟩ (.int .i64 0)) g 112 (macC p exL) ∧ w.heap.size ≤ g ∧ Blk ((w1.alloc (.cells #[.pointer (some ⟨g, 0, none⟩)] 107)).setCell ⟨w.heap.size + 2, 0, none⟩ (.int .i64 0)) w1.heap.size 107 #[.pointer (some ⟨g, 0, none⟩)]) := Lib.hid ⟨X1.out.1.also hO, X1.out.2.1.to (hO.block _ X1.out.2.1.lt id), X1.out.2.2.1.to (hO.block _ X1.out.2.2.1.lt id), X1.out.2.2.2.1.to (hO.block _ X1.out.2.2.2.1.lt id), X1.out.2.2.2.2.1.to (hO.block _ X1.out.2.2.2.2.1.lt id), by have := X0.out.1.size; have := X1.out.2.2.2.2.2.1; omega, hMV⟩
  have c0 := X2.out.2.1.cell 0
  clear hO hMV R0
  go_wp2_with fail
  obtain ⟨cb, hcb⟩ : ∃ cb, w1.heap.size = cb := ⟨_, rfl⟩
  have hcb2 : w.heap.size ≤ cb := by rw [← hcb]; exact X1.out.1.size
  rw [hcb] at X2 ⊢
  clear c0 r0 fr r0' fr' m0 hcb X1 X0
  revert X2
  generalize ((w1.alloc (.cells #[.pointer (some ⟨g, 0, none⟩)] 107)).setCell ⟨w.heap.size + 2, 0, none⟩ (.int .i64 0)) = W0
  intro X2
  have hgF : ∀ k, w.heap.size ≤ k → ¬ F k := fun k hk hf => by have := HA.out.lt k hf; omega
  have GC : Hid (∀ W, Off F W0 W → W.cell? ⟨w.heap.size, 0, none⟩ = some (.int .i64 1) ∧ W.cell? ⟨w.heap.size, 1, none⟩ = some (.int .i64 2) ∧ W.cell? ⟨w.heap.size, 2, none⟩ = some (.int .i64 0) ∧ W.cell? ⟨w.heap.size, 3, none⟩ = some (.int .i64 256) ∧ W.cell? ⟨w.heap.size, 4, none⟩ = some (.int .i64 257) ∧ W.cell? ⟨w.heap.size, 5, none⟩ = some (.int .i64 259) ∧ W.cell? ⟨w.heap.size, 6, none⟩ = some (.int .i64 260) ∧ W.cell? ⟨w.heap.size, 7, none⟩ = some (.int .i64 261) ∧ W.cell? ⟨w.heap.size + 1, 0, none⟩ = some (.int .u64 18446744073709551615) ∧ W.cell? ⟨cb, 0, none⟩ = some (.pointer (some ⟨g, 0, none⟩)) ∧ Blk W (w.heap.size + 2) 29 #[.int .i64 0]) := Lib.hid (fun W o => by
    have h1 := X2.out.2.1.to (o.block _ X2.out.2.1.lt (hgF _ (by omega)))
    have h2 := X2.out.2.2.1.to (o.block _ X2.out.2.2.1.lt (hgF _ (by omega)))
    have h3 := X2.out.2.2.2.2.2.2.to (o.block _ X2.out.2.2.2.2.2.2.lt (hgF _ hcb2))
    exact ⟨h1.cell 0, h1.cell 1, h1.cell 2, h1.cell 3, h1.cell 4, h1.cell 5, h1.cell 6, h1.cell 7, h2.cell 0, h3.cell 0, X2.out.2.2.2.1.to (o.block _ X2.out.2.2.2.1.lt (hgF _ (by omega)))⟩)
  have HM : Hid (Mac W0 F g p exL) := Lib.hid ⟨X2.out.2.2.2.2.1.lt, hgF _ X2.out.2.2.2.2.2.1, X2.out.2.2.2.2.1⟩
  have Y0 := Lib.hid (ArTo.refl (HA.out.keep X2.out.1 (fun _ _ hn => hn)))
  clear hgF
  obtain ⟨c0, c1, c2, c3, c4, c5, c6, c7, u0, m0, -⟩ := GC.out _ Y0.out.2
  go_wp2_with fail
  refine wp_loop_rounds 2 ?_
  rw [rounds_succ]
  go_wp2_with fail
  clear c0 c1 c2 c3 c4 c5 c6 c7 u0 m0
  have HG : Hid (Calls Tryz.prog 48 #[.pointer (some ⟨p, 0, none⟩), .int .i64 0, .int .i64 256, .int .u64 97] W0 fun e w' => e = .returned (.tuple #[.int .u64 5, .int .i64 0]) ∧ ArTo W0 F p exC0 (ldE 0 E 256) w') := Lib.hid (by
    have h := get_ok (HA.out.keep X2.out.1 (fun _ _ hn => hn)) 0 256 97#64 (by unfold lkE hasE roomE; rw [exC0_len]; simp; omega)
    have hv : gvF (fun i => cl exC0 (0 + i)) 97#64 256 = 5#64 := by rw [gvF_eq _ _ _ (by decide), if_pos (by decide)]; exact ex0_97
    rw [hv] at h
    exact h)
  refine Calls.mono (R := fun e w' => e = .returned (.tuple #[.int .u64 5, .int .i64 0]) ∧ ArTo W0 F p exC0 (ldE 0 E 256) w') (HG.out) ?_
  rintro e v1 ⟨rfl, a1⟩
  have Y1 := Lib.hid a1
  clear a1 Y0
  obtain ⟨c0, c1, c2, c3, c4, c5, c6, c7, u0, m0, -⟩ := GC.out _ Y1.out.2
  go_wp2_with fail
  clear c0 c1 c2 c3 c4 c5 c6 c7 u0 m0
  refine Calls.mono (R := fun e w' => e = .returned (.tuple #[]) ∧ ArTo W0 F p exC0 (ldE 0 E 256) w') (mkeep HM.out Y1.out) ?_
  rintro e v2 ⟨rfl, a1⟩
  have Y2 := Lib.hid a1
  clear a1 Y1
  obtain ⟨c0, c1, c2, c3, c4, c5, c6, c7, u0, m0, -⟩ := GC.out _ Y2.out.2
  go_wp2_with fail
  clear c0 c1 c2 c3 c4 c5 c6 c7 u0 m0
  refine Calls.mono (R := fun e w' => e = .returned (.tuple #[]) ∧ ArTo W0 F p exC1 (byE1 E) w') (mput HM.out Y2.out 260 5#64 (by rw [exC0_len]; decide) (by rw [length_ldE]; omega) (Off.refl _ _)) ?_
  rintro e v3 ⟨rfl, a1⟩
  have Y3 := Lib.hid a1
  clear a1 Y2
  obtain ⟨c0, c1, c2, c3, c4, c5, c6, c7, u0, m0, -⟩ := GC.out _ Y3.out.2
  go_wp2_with fail
  rw [rounds_succ]
  go_wp2_with fail
  refine wp_loop_rounds 2 ?_
  rw [rounds_succ]
  go_wp2_with fail
  go_region_held3 (fun W => W.cell? ⟨cb, 0, none⟩ = some (.pointer (some ⟨g, 0, none⟩)) ∧ W.cell? ⟨w.heap.size, 3, none⟩ = some (.int .i64 256) ∧ W.cell? ⟨w.heap.size, 6, none⟩ = some (.int .i64 260) ∧ W.cell? ⟨w.heap.size, 5, none⟩ = some (.int .i64 259))
    (first | with_reducible assumption | go_keep)
    (first
      | (go_at_call 50; refine Calls.mono (R := fun e w' => e = .returned (.int .u64 5) ∧ ArTo W0 F p exC1 (byE2 E) w') (mget HM.out Y3.out.drew 256 5#64 ex1_256 (by rw [exC1_len]; decide) (by rw [byE1_len]; omega)) ?_; rintro e v4 ⟨rfl, a1⟩; have Y4 := Lib.hid a1; clear a1 Y3; obtain ⟨c0, c1, c2, c3, c4, c5, c6, c7, u0, m0, -⟩ := GC.out _ Y4.out.2)
      | (go_at_call 50; refine Calls.mono (R := fun e w' => e = .returned (.int .u64 5) ∧ ArTo W0 F p exC1 (byE3 E) w') (mget HM.out Y4.out 260 5#64 ex1_260 (by rw [exC1_len]; decide) (by rw [byE2_len]; omega)) ?_; rintro e v5 ⟨rfl, a1⟩; have Y5 := Lib.hid a1; clear a1 Y4; obtain ⟨c0, c1, c2, c3, c4, c5, c6, c7, u0, m0, -⟩ := GC.out _ Y5.out.2)
      | (go_at_call 50; refine Calls.mono (R := fun e w' => e = .returned (.int .u64 0) ∧ ArTo W0 F p exC1 (byE4 E) w') (mget HM.out Y5.out 259 0#64 ex1_259 (by rw [exC1_len]; decide) (by rw [byE3_len]; omega)) ?_; rintro e v6 ⟨rfl, a1⟩; have Y6 := Lib.hid a1; clear a1 Y5; obtain ⟨c0, c1, c2, c3, c4, c5, c6, c7, u0, m0, -⟩ := GC.out _ Y6.out.2))
  have hb1 : bits .or .u64 0 0 = 0 := by decide
  have hb2 : bits .or .u64 0 5 = 5 := by decide
  have hb3 : bits .and .u64 5 5 = 5 := by decide
  have hb4 : bits .and .u64 2 5 = 0 := by decide
  have hb5 : bits .and .u64 4 5 = 4 := by decide
  have hb6 : bits .or .u64 0 4 = 4 := by decide
  have hb7 : bits .and .u64 18446744073709551615 0 = 0 := by decide
  have hb8 : bits .and .u64 18446744073709551615 18446744073709551615 = 18446744073709551615 := by decide
  go_wp2_with fail
  go_region_held3 (fun W => W.cell? ⟨cb, 0, none⟩ = some (.pointer (some ⟨g, 0, none⟩)) ∧ W.cell? ⟨w.heap.size, 5, none⟩ = some (.int .i64 259) ∧ W.cell? ⟨w.heap.size + 1, 0, none⟩ = some (.int .u64 18446744073709551615))
    (first | with_reducible assumption | go_keep)
    (first
      | (go_at_call 51; refine (sel_ex _).mono ?_; rintro e w' ⟨rfl, rfl⟩)
      | (go_at_call 44; refine Calls.mono (R := fun e w' => e = .returned (.tuple #[]) ∧ ArTo W0 F p exC2 (byE5 E) w') (mput HM.out Y6.out 259 5#64 (by rw [exC1_len]; decide) (by rw [byE4_len]; omega) (Off.refl _ _).drew) ?_; rintro e v7 ⟨rfl, a1⟩; have Y7 := Lib.hid a1; clear a1 Y6; obtain ⟨c0, c1, c2, c3, c4, c5, c6, c7, u0, m0, -⟩ := GC.out _ Y7.out.2))
  go_wp2_with fail
  rw [rounds_succ]
  go_wp2_with fail
  refine wp_loop_rounds 3 ?_
  rw [rounds_succ]
  go_wp2_with fail
  refine wp_loop_rounds 2 ?_
  rw [rounds_succ]
  go_wp2_with fail
  clear c0 c1 c2 c3 c4 c5 c6 c7 u0 m0
  refine Calls.mono (R := fun e w' => e = .returned (.int .u64 2) ∧ ArTo W0 F p exC2 (byE6 E) w') (mget HM.out Y7.out 257 2#64 ex2_257 (by rw [exC2_len]; decide) (by rw [byE5_len]; omega)) ?_
  rintro e v8 ⟨rfl, a1⟩
  have Y8 := Lib.hid a1
  clear a1 Y7
  obtain ⟨c0, c1, c2, c3, c4, c5, c6, c7, u0, m0, -⟩ := GC.out _ Y8.out.2
  go_wp2_with fail
  clear c0 c1 c2 c3 c4 c5 c6 c7 u0 m0
  refine Calls.mono (R := fun e w' => e = .returned (.int .u64 5) ∧ ArTo W0 F p exC2 (byE7 E) w') (mget HM.out Y8.out 259 5#64 ex2_259 (by rw [exC2_len]; decide) (by rw [byE6_len]; omega)) ?_
  rintro e v9 ⟨rfl, a1⟩
  have Y9 := Lib.hid a1
  clear a1 Y8
  obtain ⟨c0, c1, c2, c3, c4, c5, c6, c7, u0, m0, -⟩ := GC.out _ Y9.out.2
  go_wp2_with fail
  rw [rounds_succ]
  go_wp2_with fail
  go_region_held3 (fun W => W.cell? ⟨cb, 0, none⟩ = some (.pointer (some ⟨g, 0, none⟩)) ∧ W.cell? ⟨w.heap.size, 7, none⟩ = some (.int .i64 261) ∧ W.cell? ⟨w.heap.size + 1, 0, none⟩ = some (.int .u64 18446744073709551615))
    (first | with_reducible assumption | go_keep)
    (first
      | (go_at_call 53; refine (zero_0 _).mono ?_; rintro e w' ⟨rfl, rfl⟩)
      | (go_at_call 52; refine (not_ones _).mono ?_; rintro e w' ⟨rfl, rfl⟩)
      | (go_at_call 44; refine Calls.mono (R := fun e w' => e = .returned (.tuple #[]) ∧ ArTo W0 F p exC3 (byE8 E) w') (mput HM.out Y9.out 261 0#64 (by rw [exC2_len]; decide) (by rw [byE7_len]; omega) (Off.refl _ _).drew) ?_; rintro e v10 ⟨rfl, a1⟩; have Y10 := Lib.hid a1; clear a1 Y9; obtain ⟨c0, c1, c2, c3, c4, c5, c6, c7, u0, m0, -⟩ := GC.out _ Y10.out.2))
  go_wp2_with fail
  rw [rounds_succ]
  go_wp2_with fail
  refine wp_loop_rounds 2 ?_
  rw [rounds_succ]
  go_wp2_with fail
  clear c0 c1 c2 c3 c4 c5 c6 c7 u0 m0
  refine Calls.mono (R := fun e w' => e = .returned (.int .u64 4) ∧ ArTo W0 F p exC3 (byE9 E) w') (mget HM.out Y10.out 258 4#64 ex3_258 (by rw [exC3_len]; decide) (by rw [byE8_len]; omega)) ?_
  rintro e v11 ⟨rfl, a1⟩
  have Y11 := Lib.hid a1
  clear a1 Y10
  obtain ⟨c0, c1, c2, c3, c4, c5, c6, c7, u0, m0, -⟩ := GC.out _ Y11.out.2
  go_wp2_with fail
  clear c0 c1 c2 c3 c4 c5 c6 c7 u0 m0
  refine Calls.mono (R := fun e w' => e = .returned (.int .u64 5) ∧ ArTo W0 F p exC3 (byE10 E) w') (mget HM.out Y11.out 259 5#64 ex3_259 (by rw [exC3_len]; decide) (by rw [byE9_len]; omega)) ?_
  rintro e v12 ⟨rfl, a1⟩
  have Y12 := Lib.hid a1
  clear a1 Y11
  obtain ⟨c0, c1, c2, c3, c4, c5, c6, c7, u0, m0, -⟩ := GC.out _ Y12.out.2
  go_wp2_with fail
  rw [rounds_succ]
  go_wp2_with fail
  go_region_held3 (fun W => W.cell? ⟨cb, 0, none⟩ = some (.pointer (some ⟨g, 0, none⟩)) ∧ W.cell? ⟨w.heap.size, 7, none⟩ = some (.int .i64 261) ∧ W.cell? ⟨w.heap.size + 1, 0, none⟩ = some (.int .u64 18446744073709551615))
    (first | with_reducible assumption | go_keep)
    (first
      | (go_at_call 53; refine (zero_4 _).mono ?_; rintro e w' ⟨rfl, rfl⟩)
      | (go_at_call 52; refine (not_zero _).mono ?_; rintro e w' ⟨rfl, rfl⟩)
      | (go_at_call 44; refine Calls.mono (R := fun e w' => e = .returned (.tuple #[]) ∧ ArTo W0 F p exC4 (byE11 E) w') (mput HM.out Y12.out 262 18446744073709551615#64 (by rw [exC3_len]; decide) (by rw [byE10_len]; omega) (Off.refl _ _).drew) ?_; rintro e v13 ⟨rfl, a1⟩; have Y13 := Lib.hid a1; clear a1 Y12; obtain ⟨c0, c1, c2, c3, c4, c5, c6, c7, u0, m0, -⟩ := GC.out _ Y13.out.2))
  go_wp2_with fail
  rw [rounds_succ]
  have r0 := (GC.out _ Y13.out.2).2.2.2.2.2.2.2.2.2.2.cell 0
  have fr := (GC.out _ Y13.out.2).2.2.2.2.2.2.2.2.2.2.frozen 0
  go_wp2_with fail
  have hq := GC.out _ Y13.out.2
  have hr := hq.2.2.2.2.2.2.2.2.2.2
  have hm := HM.out.at Y13.out.2
  have o5 := off_same (i := 0) (u := .int .i64 0) hr rfl
  have q0 : (v13.setCell ⟨w.heap.size + 2, 0, none⟩ (.int .i64 0)).cell? ⟨cb, 0, none⟩ = some (.pointer (some ⟨g, 0, none⟩)) := (o5.cell_old (by have := X2.out.2.2.2.2.2.2.lt; exact Nat.lt_of_lt_of_le this Y13.out.2.size) 0).trans hq.2.2.2.2.2.2.2.2.2.1
  have hr2 := hr.to (o5.block _ hr.lt id)
  have hm2 := hm.1.to (o5.block _ hm.1.lt id)
  refine leaves_cons (f := 47) (args := #[.pointer (some ⟨cb, 0, none⟩), .pointer (some ⟨w.heap.size + 2, 0, none⟩)]) (by simp) (by simp [go_sem]) ?_
  refine (ndefer_byte g cb (w.heap.size + 2) _ (macC p exL) _ q0 hm2 rfl hr2).mono ?_
  rintro e u' w'' ⟨rfl, rfl, o6, rfl⟩
  have hr3 := hr2.put 0 (.int .i64 0)
  have r1 : ((v13.setCell ⟨w.heap.size + 2, 0, none⟩ (.int .i64 0)).setCell ⟨w.heap.size + 2, 0, none⟩ (.int .i64 0)).cell? ⟨w.heap.size + 1 + 1, 0, none⟩ = some (.int .i64 0) := hr3.cell 0
  have YE := Lib.hid (ArTo.pre HA.out X2.out.1 (Y13.out.nob (o5.also o6)))
  simp [Leaves, settle, results, Tryz.results16, go_sem, r1]
  exact YE.out
end Go.Proofs.YtkflicifngohcaaGreatDoor
