/-
 engine.Byte of the byte a with the mask that is set, behind Setup of the example.
-/
import Derived.Test.YtkflicifngohcaaGreatDoorM22
import Derived.Test.YtkflicifngohcaaGreatDoorM24
import Derived.Test.YtkflicifngohcaaGreatDoorM21
import Derived.IntWalk
set_option linter.unusedVariables false
set_option linter.unusedSimpArgs false
namespace Go.Proofs.YtkflicifngohcaaGreatDoor
open Go.RowKit
set_option maxRecDepth 100000
def exC0 : List (BitVec 64) := exC (List.replicate 263 0#64)
def exC1 : List (BitVec 64) := exC0.set 260 5#64
def exC2 : List (BitVec 64) := exC1.set 259 5#64
def exC3 : List (BitVec 64) := exC2.set 261 0#64
def exC4 : List (BitVec 64) := exC3.set 262 18446744073709551615#64
theorem exC0_len : exC0.length = 263 := by unfold exC0 exC; simp only [setL_length, List.length_replicate]
theorem exC1_len : exC1.length = 263 := by unfold exC1; rw [List.length_set, exC0_len]
theorem exC2_len : exC2.length = 263 := by unfold exC2; rw [List.length_set, exC1_len]
theorem exC3_len : exC3.length = 263 := by unfold exC3; rw [List.length_set, exC2_len]
theorem exC4_len : exC4.length = 263 := by unfold exC4; rw [List.length_set, exC3_len]
theorem ex0_97 : exC0.getD 97 0 = 5#64 := by kernel_rfl
theorem ex1_256 : exC1.getD 256 0 = 5#64 := by kernel_rfl
theorem ex1_260 : exC1.getD 260 0 = 5#64 := by kernel_rfl
theorem ex1_259 : exC1.getD 259 0 = 0#64 := by kernel_rfl
theorem ex2_257 : exC2.getD 257 0 = 2#64 := by kernel_rfl
theorem ex2_259 : exC2.getD 259 0 = 5#64 := by kernel_rfl
theorem ex3_258 : exC3.getD 258 0 = 4#64 := by kernel_rfl
theorem ex3_259 : exC3.getD 259 0 = 5#64 := by kernel_rfl
def byE1 (E : List Ev) : List Ev := ldE 0 E 256 ++ [(2, 260)]
def byE2 (E : List Ev) : List Ev := byE1 E ++ [(1, 256)]
def byE3 (E : List Ev) : List Ev := byE2 E ++ [(1, 260)]
def byE4 (E : List Ev) : List Ev := byE3 E ++ [(1, 259)]
def byE5 (E : List Ev) : List Ev := byE4 E ++ [(2, 259)]
def byE6 (E : List Ev) : List Ev := byE5 E ++ [(1, 257)]
def byE7 (E : List Ev) : List Ev := byE6 E ++ [(1, 259)]
def byE8 (E : List Ev) : List Ev := byE7 E ++ [(2, 261)]
def byE9 (E : List Ev) : List Ev := byE8 E ++ [(1, 258)]
def byE10 (E : List Ev) : List Ev := byE9 E ++ [(1, 259)]
def byE11 (E : List Ev) : List Ev := byE10 E ++ [(2, 262)]
theorem byE1_len (E : List Ev) : (byE1 E).length = E.length + 257 := by simp [byE1, length_ldE]
theorem byE2_len (E : List Ev) : (byE2 E).length = E.length + 258 := by simp [byE2, byE1_len]
theorem byE3_len (E : List Ev) : (byE3 E).length = E.length + 259 := by simp [byE3, byE2_len]
theorem byE4_len (E : List Ev) : (byE4 E).length = E.length + 260 := by simp [byE4, byE3_len]
theorem byE5_len (E : List Ev) : (byE5 E).length = E.length + 261 := by simp [byE5, byE4_len]
theorem byE6_len (E : List Ev) : (byE6 E).length = E.length + 262 := by simp [byE6, byE5_len]
theorem byE7_len (E : List Ev) : (byE7 E).length = E.length + 263 := by simp [byE7, byE6_len]
theorem byE8_len (E : List Ev) : (byE8 E).length = E.length + 264 := by simp [byE8, byE7_len]
theorem byE9_len (E : List Ev) : (byE9 E).length = E.length + 265 := by simp [byE9, byE8_len]
theorem byE10_len (E : List Ev) : (byE10 E).length = E.length + 266 := by simp [byE10, byE9_len]
theorem byE11_len (E : List Ev) : (byE11 E).length = E.length + 267 := by simp [byE11, byE10_len]
theorem not_zero (w : World) : Calls Tryz.prog 52 #[.int .u64 0] w fun e w' => e = .returned (.int .u64 18446744073709551615) ∧ w = w' := by
 go_enter Tryz.func52, Tryz.ntmps52
 go_wp2
 go_ret
 exact ⟨rfl, rfl⟩
theorem not_ones (w : World) : Calls Tryz.prog 52 #[.int .u64 18446744073709551615] w fun e w' => e = .returned (.int .u64 0) ∧ w = w' := by
 go_enter Tryz.func52, Tryz.ntmps52
 go_wp2
 go_ret
 exact ⟨rfl, rfl⟩
theorem sel_ex (w : World) : Calls Tryz.prog 51 #[.int .u64 18446744073709551615, .int .u64 5, .int .u64 0] w fun e w' => e = .returned (.int .u64 5) ∧ w = w' := select_any 18446744073709551615#64 5#64 0#64 w
theorem zero_0 (w : World) : Calls Tryz.prog 53 #[.int .u64 0] w fun e w' => e = .returned (.int .u64 18446744073709551615) ∧ w = w' := zero_any 0#64 w
theorem zero_4 (w : World) : Calls Tryz.prog 53 #[.int .u64 4] w fun e w' => e = .returned (.int .u64 0) ∧ w = w' := zero_any 4#64 w
set_option maxHeartbeats 4000000 in
theorem nbyte_ex (w : World) (F : Nat → Prop) (p : Nat) (E : List Ev) (h : Ar w F p exC0 E) (hE : E.length + 267 < 8388608) :
  Calls Tryz.prog 16 #[.pointer (some ⟨p, 0, none⟩), exL.val, .int .u64 97, .int .u64 18446744073709551615] w fun e w' => e = .returned (.int .i64 0) ∧ ArTo w F p exC4 (byE11 E) w' := by
 have hmf : ∀ (fn : Fn) (first cap : Array Value) (w : World), (Instr.makeFunc fn first cap).run Tryz.prog w = .ok (.func fn first cap) w := fun _ _ _ _ => rfl
 have HA := hID h
 clear h
 unfold exL Lay.val
 simp only
 go_enter_defers Tryz.func16, Tryz.ntmps16
 go_wp2_with fail
 have X0 : Hid (Off Nob w (((w.alloc (.cells #[.int .i64 1, .int .i64 2, .int .i64 0, .int .i64 256, .int .i64 257, .int .i64 259, .int .i64 260, .int .i64 261] 33)).alloc (.cells #[.int .u64 18446744073709551615] 41)).alloc (.cells #[.int .i64 0] 29)) ∧ Blk (((w.alloc (.cells #[.int .i64 1, .int .i64 2, .int .i64 0, .int .i64 256, .int .i64 257, .int .i64 259, .int .i64 260, .int .i64 261] 33)).alloc (.cells #[.int .u64 18446744073709551615] 41)).alloc (.cells #[.int .i64 0] 29)) w.heap.size 33 #[.int .i64 1, .int .i64 2, .int .i64 0, .int .i64 256, .int .i64 257, .int .i64 259, .int .i64 260, .int .i64 261] ∧ Blk (((w.alloc (.cells #[.int .i64 1, .int .i64 2, .int .i64 0, .int .i64 256, .int .i64 257, .int .i64 259, .int .i64 260, .int .i64 261] 33)).alloc (.cells #[.int .u64 18446744073709551615] 41)).alloc (.cells #[.int .i64 0] 29)) (w.heap.size + 1) 41 #[.int .u64 18446744073709551615] ∧ Blk (((w.alloc (.cells #[.int .i64 1, .int .i64 2, .int .i64 0, .int .i64 256, .int .i64 257, .int .i64 259, .int .i64 260, .int .i64 261] 33)).alloc (.cells #[.int .u64 18446744073709551615] 41)).alloc (.cells #[.int .i64 0] 29)) (w.heap.size + 2) 29 #[.int .i64 0]) := hID ⟨(((Off.refl _ _).alloc _).alloc _).alloc _, ((Blk.new _ _ _).alloc _).alloc _, (blk_second _ _ _ _).alloc _, by
  have := Blk.new ((w.alloc (.cells #[.int .i64 1, .int .i64 2, .int .i64 0, .int .i64 256, .int .i64 257, .int .i64 259, .int .i64 260, .int .i64 261] 33)).alloc (.cells #[.int .u64 18446744073709551615] 41)) 29 #[.int .i64 0]
  simpa using this⟩
 revert X0
 generalize (((w.alloc (.cells #[.int .i64 1, .int .i64 2, .int .i64 0, .int .i64 256, .int .i64 257, .int .i64 259, .int .i64 260, .int .i64 261] 33)).alloc (.cells #[.int .u64 18446744073709551615] 41)).alloc (.cells #[.int .i64 0] 29)) = w0
 intro X0
 refine (nsteps_yes 1 2 (by decide) (by decide) (by decide) (by decide) _).mono ?_
 rintro e w1 ⟨rfl, rfl⟩
 have c0 := X0.out.2.1.cell 0
 have c1 := X0.out.2.1.cell 1
 have c2 := X0.out.2.1.cell 2
 have c3 := X0.out.2.1.cell 3
 have c4 := X0.out.2.1.cell 4
 have c5 := X0.out.2.1.cell 5
 have c6 := X0.out.2.1.cell 6
 have c7 := X0.out.2.1.cell 7
 have r0 := X0.out.2.2.2.cell 0
 have fr := X0.out.2.2.2.frozen 0
 go_wp2_with fail
 have HBG := hID (nbegin_byte exL w0 F p exC0 E (HA.out.keep X0.out.1 (fun _ _ hn => hn)) (by rw [exC0_len]; exact exL_ok) 267 (by decide) (by omega) ⟨w.heap.size + 1, 0, none⟩ (fun W o => nask_byte 18446744073709551615#64 (by decide) W (w.heap.size + 1) ((X0.out.2.2.1.to (o.block _ X0.out.2.2.1.lt id)).cell 0)))
 refine HBG.out.mono ?_
 rintro e w1 ⟨g, rfl, hg1, hg2, o1⟩
 have X1 := hID (And.intro (X0.out.1.also o1) (And.intro (X0.out.2.1.to (o1.block _ X0.out.2.1.lt id)) (And.intro (X0.out.2.2.1.to (o1.block _ X0.out.2.2.1.lt id)) (And.intro (X0.out.2.2.2.to (o1.block _ X0.out.2.2.2.lt id)) (And.intro hg2 (And.intro hg1 o1.size))))))
 clear c0 c1 c2 c3 c4 c5 c6 c7 r0 fr HBG hg1 hg2 o1
 have R0 := hID (X1.out.2.2.2.1.alloc (.cells #[.pointer (some ⟨g, 0, none⟩)] 107))
 have hO := (Off.alloc (Off.refl Nob w1) (.cells #[.pointer (some ⟨g, 0, none⟩)] 107)).also (off_same (i := 0) (u := .int .i64 0) R0.out rfl)
 have r0 := R0.out.cell 0
 have fr := R0.out.frozen 0
 have hMV : Blk ((w1.alloc (.cells #[.pointer (some ⟨g, 0, none⟩)] 107)).setCell ⟨w.heap.size + 2, 0, none⟩ (.int .i64 0)) w1.heap.size 107 #[.pointer (some ⟨g, 0, none⟩)] := (Blk.new w1 107 #[.pointer (some ⟨g, 0, none⟩)]).far (by have := X1.out.2.2.2.1.lt; simp; omega) _
 have r0' : ((w1.alloc (.cells #[.pointer (some ⟨g, 0, none⟩)] 107)).setCell ⟨w.heap.size + 2, 0, none⟩ (.int .i64 0)).cell? ⟨w.heap.size + 2, 0, none⟩ = some (.int .i64 0) := (X1.out.2.2.2.1.to (hO.block _ X1.out.2.2.2.1.lt id)).cell 0
 have fr' : ((w1.alloc (.cells #[.pointer (some ⟨g, 0, none⟩)] 107)).setCell ⟨w.heap.size + 2, 0, none⟩ (.int .i64 0)).frozen? ⟨w.heap.size + 2, 0, none⟩ = false := (X1.out.2.2.2.1.to (hO.block _ X1.out.2.2.2.1.lt id)).frozen 0
 have m0 := hMV.cell 0
 have X2 : Hid (Off Nob w ((w1.alloc (.cells #[.pointer (some ⟨g, 0, none⟩)] 107)).setCell ⟨w.heap.size + 2, 0, none⟩ (.int .i64 0)) ∧ Blk ((w1.alloc (.cells #[.pointer (some ⟨g, 0, none⟩)] 107)).setCell ⟨w.heap.size + 2, 0, none⟩ (.int .i64 0)) w.heap.size 33 #[.int .i64 1, .int .i64 2, .int .i64 0, .int .i64 256, .int .i64 257, .int .i64 259, .int .i64 260, .int .i64 261] ∧ Blk ((w1.alloc (.cells #[.pointer (some ⟨g, 0, none⟩)] 107)).setCell ⟨w.heap.size + 2, 0, none⟩ (.int .i64 0)) (w.heap.size + 1) 41 #[.int .u64 18446744073709551615] ∧ Blk ((w1.alloc (.cells #[.pointer (some ⟨g, 0, none⟩)] 107)).setCell ⟨w.heap.size + 2, 0, none⟩ (.int .i64 0)) (w.heap.size + 2) 29 #[.int .i64 0] ∧ Blk ((w1.alloc (.cells #[.pointer (some ⟨g, 0, none⟩)] 107)).setCell ⟨w.heap.size + 2, 0, none⟩ (.int .i64 0)) g 112 (macC p exL) ∧ w.heap.size ≤ g ∧ Blk ((w1.alloc (.cells #[.pointer (some ⟨g, 0, none⟩)] 107)).setCell ⟨w.heap.size + 2, 0, none⟩ (.int .i64 0)) w1.heap.size 107 #[.pointer (some ⟨g, 0, none⟩)]) := hID ⟨X1.out.1.also hO, X1.out.2.1.to (hO.block _ X1.out.2.1.lt id), X1.out.2.2.1.to (hO.block _ X1.out.2.2.1.lt id), X1.out.2.2.2.1.to (hO.block _ X1.out.2.2.2.1.lt id), X1.out.2.2.2.2.1.to (hO.block _ X1.out.2.2.2.2.1.lt id), by have := X0.out.1.size; have := X1.out.2.2.2.2.2.1; omega, hMV⟩
 have c0 := X2.out.2.1.cell 0
 clear hO hMV R0
 go_wp2_with fail
 obtain ⟨cb, hcb⟩ : ∃ cb, w1.heap.size = cb := ⟨_, rfl⟩
 have hcb2 : w.heap.size ≤ cb := by rw [← hcb]; exact X1.out.1.size
 rw [hcb] at X2 ⊢
 clear c0 r0 fr r0' fr' m0 hcb X1 X0
 revert X2
 generalize ((w1.alloc (.cells #[.pointer (some ⟨g, 0, none⟩)] 107)).setCell ⟨w.heap.size + 2, 0, none⟩ (.int .i64 0)) = W0
 intro X2
 have hgF : ∀ k, w.heap.size ≤ k → ¬ F k := fun k hk hf => by have := HA.out.lt k hf; omega
 have GC : Hid (∀ W, Off F W0 W → W.cell? ⟨w.heap.size, 0, none⟩ = some (.int .i64 1) ∧ W.cell? ⟨w.heap.size, 1, none⟩ = some (.int .i64 2) ∧ W.cell? ⟨w.heap.size, 2, none⟩ = some (.int .i64 0) ∧ W.cell? ⟨w.heap.size, 3, none⟩ = some (.int .i64 256) ∧ W.cell? ⟨w.heap.size, 4, none⟩ = some (.int .i64 257) ∧ W.cell? ⟨w.heap.size, 5, none⟩ = some (.int .i64 259) ∧ W.cell? ⟨w.heap.size, 6, none⟩ = some (.int .i64 260) ∧ W.cell? ⟨w.heap.size, 7, none⟩ = some (.int .i64 261) ∧ W.cell? ⟨w.heap.size + 1, 0, none⟩ = some (.int .u64 18446744073709551615) ∧ W.cell? ⟨cb, 0, none⟩ = some (.pointer (some ⟨g, 0, none⟩)) ∧ Blk W (w.heap.size + 2) 29 #[.int .i64 0]) := hID (fun W o => by
  have h1 := X2.out.2.1.to (o.block _ X2.out.2.1.lt (hgF _ (by omega)))
  have h2 := X2.out.2.2.1.to (o.block _ X2.out.2.2.1.lt (hgF _ (by omega)))
  have h3 := X2.out.2.2.2.2.2.2.to (o.block _ X2.out.2.2.2.2.2.2.lt (hgF _ hcb2))
  exact ⟨h1.cell 0, h1.cell 1, h1.cell 2, h1.cell 3, h1.cell 4, h1.cell 5, h1.cell 6, h1.cell 7, h2.cell 0, h3.cell 0, X2.out.2.2.2.1.to (o.block _ X2.out.2.2.2.1.lt (hgF _ (by omega)))⟩)
 have HM : Hid (Mac W0 F g p exL) := hID ⟨X2.out.2.2.2.2.1.lt, hgF _ X2.out.2.2.2.2.2.1, X2.out.2.2.2.2.1⟩
 have Y0 := hID (ArTo.refl (HA.out.keep X2.out.1 (fun _ _ hn => hn)))
 clear hgF
 obtain ⟨c0, c1, c2, c3, c4, c5, c6, c7, u0, m0, -⟩ := GC.out _ Y0.out.2
 go_wp2_with fail
 refine wp_loop_rounds 2 ?_
 rw [rounds_succ]
 go_wp2_with fail
 clear c0 c1 c2 c3 c4 c5 c6 c7 u0 m0
 have HG : Hid (Calls Tryz.prog 48 #[.pointer (some ⟨p, 0, none⟩), .int .i64 0, .int .i64 256, .int .u64 97] W0 fun e w' => e = .returned (.tuple #[.int .u64 5, .int .i64 0]) ∧ ArTo W0 F p exC0 (ldE 0 E 256) w') := hID (by
  have h := get_ok (HA.out.keep X2.out.1 (fun _ _ hn => hn)) 0 256 97#64 (by unfold lkE hasE roomE; rw [exC0_len]; simp; omega)
  have hv : gvF (fun i => cl exC0 (0 + i)) 97#64 256 = 5#64 := by rw [gvF_eq _ _ _ (by decide), if_pos (by decide)]; exact ex0_97
  rw [hv] at h
  exact h)
 refine Calls.mono (R := fun e w' => e = .returned (.tuple #[.int .u64 5, .int .i64 0]) ∧ ArTo W0 F p exC0 (ldE 0 E 256) w') (HG.out) ?_
 rintro e v1 ⟨rfl, a1⟩
 have Y1 := hID a1
 clear a1 Y0
 obtain ⟨c0, c1, c2, c3, c4, c5, c6, c7, u0, m0, -⟩ := GC.out _ Y1.out.2
 go_wp2_with fail
 clear c0 c1 c2 c3 c4 c5 c6 c7 u0 m0
 refine Calls.mono (R := fun e w' => e = .returned (.tuple #[]) ∧ ArTo W0 F p exC0 (ldE 0 E 256) w') (mkeep HM.out Y1.out) ?_
 rintro e v2 ⟨rfl, a1⟩
 have Y2 := hID a1
 clear a1 Y1
 obtain ⟨c0, c1, c2, c3, c4, c5, c6, c7, u0, m0, -⟩ := GC.out _ Y2.out.2
 go_wp2_with fail
 clear c0 c1 c2 c3 c4 c5 c6 c7 u0 m0
 refine Calls.mono (R := fun e w' => e = .returned (.tuple #[]) ∧ ArTo W0 F p exC1 (byE1 E) w') (mput HM.out Y2.out 260 5#64 (by rw [exC0_len]; decide) (by rw [length_ldE]; omega) (Off.refl _ _)) ?_
 rintro e v3 ⟨rfl, a1⟩
 have Y3 := hID a1
 clear a1 Y2
 obtain ⟨c0, c1, c2, c3, c4, c5, c6, c7, u0, m0, -⟩ := GC.out _ Y3.out.2
 go_wp2_with fail
 rw [rounds_succ]
 go_wp2_with fail
 refine wp_loop_rounds 2 ?_
 rw [rounds_succ]
 go_wp2_with fail
 go_region_held3 (fun W => W.cell? ⟨cb, 0, none⟩ = some (.pointer (some ⟨g, 0, none⟩)) ∧ W.cell? ⟨w.heap.size, 3, none⟩ = some (.int .i64 256) ∧ W.cell? ⟨w.heap.size, 6, none⟩ = some (.int .i64 260) ∧ W.cell? ⟨w.heap.size, 5, none⟩ = some (.int .i64 259))
  (first | with_reducible assumption | go_keep)
  (first
   | (go_at_call 50; refine Calls.mono (R := fun e w' => e = .returned (.int .u64 5) ∧ ArTo W0 F p exC1 (byE2 E) w') (mget HM.out Y3.out.drew 256 5#64 ex1_256 (by rw [exC1_len]; decide) (by rw [byE1_len]; omega)) ?_; rintro e v4 ⟨rfl, a1⟩; have Y4 := hID a1; clear a1 Y3; obtain ⟨c0, c1, c2, c3, c4, c5, c6, c7, u0, m0, -⟩ := GC.out _ Y4.out.2)
   | (go_at_call 50; refine Calls.mono (R := fun e w' => e = .returned (.int .u64 5) ∧ ArTo W0 F p exC1 (byE3 E) w') (mget HM.out Y4.out 260 5#64 ex1_260 (by rw [exC1_len]; decide) (by rw [byE2_len]; omega)) ?_; rintro e v5 ⟨rfl, a1⟩; have Y5 := hID a1; clear a1 Y4; obtain ⟨c0, c1, c2, c3, c4, c5, c6, c7, u0, m0, -⟩ := GC.out _ Y5.out.2)
   | (go_at_call 50; refine Calls.mono (R := fun e w' => e = .returned (.int .u64 0) ∧ ArTo W0 F p exC1 (byE4 E) w') (mget HM.out Y5.out 259 0#64 ex1_259 (by rw [exC1_len]; decide) (by rw [byE3_len]; omega)) ?_; rintro e v6 ⟨rfl, a1⟩; have Y6 := hID a1; clear a1 Y5; obtain ⟨c0, c1, c2, c3, c4, c5, c6, c7, u0, m0, -⟩ := GC.out _ Y6.out.2))
 have hb1 : bits .or .u64 0 0 = 0 := by decide
 have hb2 : bits .or .u64 0 5 = 5 := by decide
 have hb3 : bits .and .u64 5 5 = 5 := by decide
 have hb4 : bits .and .u64 2 5 = 0 := by decide
 have hb5 : bits .and .u64 4 5 = 4 := by decide
 have hb6 : bits .or .u64 0 4 = 4 := by decide
 have hb7 : bits .and .u64 18446744073709551615 0 = 0 := by decide
 have hb8 : bits .and .u64 18446744073709551615 18446744073709551615 = 18446744073709551615 := by decide
 go_wp2_with fail
 go_region_held3 (fun W => W.cell? ⟨cb, 0, none⟩ = some (.pointer (some ⟨g, 0, none⟩)) ∧ W.cell? ⟨w.heap.size, 5, none⟩ = some (.int .i64 259) ∧ W.cell? ⟨w.heap.size + 1, 0, none⟩ = some (.int .u64 18446744073709551615))
  (first | with_reducible assumption | go_keep)
  (first
   | (go_at_call 51; refine (sel_ex _).mono ?_; rintro e w' ⟨rfl, rfl⟩)
   | (go_at_call 44; refine Calls.mono (R := fun e w' => e = .returned (.tuple #[]) ∧ ArTo W0 F p exC2 (byE5 E) w') (mput HM.out Y6.out 259 5#64 (by rw [exC1_len]; decide) (by rw [byE4_len]; omega) (Off.refl _ _).drew) ?_; rintro e v7 ⟨rfl, a1⟩; have Y7 := hID a1; clear a1 Y6; obtain ⟨c0, c1, c2, c3, c4, c5, c6, c7, u0, m0, -⟩ := GC.out _ Y7.out.2))
 go_wp2_with fail
 rw [rounds_succ]
 go_wp2_with fail
 refine wp_loop_rounds 3 ?_
 rw [rounds_succ]
 go_wp2_with fail
 refine wp_loop_rounds 2 ?_
 rw [rounds_succ]
 go_wp2_with fail
 clear c0 c1 c2 c3 c4 c5 c6 c7 u0 m0
 refine Calls.mono (R := fun e w' => e = .returned (.int .u64 2) ∧ ArTo W0 F p exC2 (byE6 E) w') (mget HM.out Y7.out 257 2#64 ex2_257 (by rw [exC2_len]; decide) (by rw [byE5_len]; omega)) ?_
 rintro e v8 ⟨rfl, a1⟩
 have Y8 := hID a1
 clear a1 Y7
 obtain ⟨c0, c1, c2, c3, c4, c5, c6, c7, u0, m0, -⟩ := GC.out _ Y8.out.2
 go_wp2_with fail
 clear c0 c1 c2 c3 c4 c5 c6 c7 u0 m0
 refine Calls.mono (R := fun e w' => e = .returned (.int .u64 5) ∧ ArTo W0 F p exC2 (byE7 E) w') (mget HM.out Y8.out 259 5#64 ex2_259 (by rw [exC2_len]; decide) (by rw [byE6_len]; omega)) ?_
 rintro e v9 ⟨rfl, a1⟩
 have Y9 := hID a1
 clear a1 Y8
 obtain ⟨c0, c1, c2, c3, c4, c5, c6, c7, u0, m0, -⟩ := GC.out _ Y9.out.2
 go_wp2_with fail
 rw [rounds_succ]
 go_wp2_with fail
 go_region_held3 (fun W => W.cell? ⟨cb, 0, none⟩ = some (.pointer (some ⟨g, 0, none⟩)) ∧ W.cell? ⟨w.heap.size, 7, none⟩ = some (.int .i64 261) ∧ W.cell? ⟨w.heap.size + 1, 0, none⟩ = some (.int .u64 18446744073709551615))
  (first | with_reducible assumption | go_keep)
  (first
   | (go_at_call 53; refine (zero_0 _).mono ?_; rintro e w' ⟨rfl, rfl⟩)
   | (go_at_call 52; refine (not_ones _).mono ?_; rintro e w' ⟨rfl, rfl⟩)
   | (go_at_call 44; refine Calls.mono (R := fun e w' => e = .returned (.tuple #[]) ∧ ArTo W0 F p exC3 (byE8 E) w') (mput HM.out Y9.out 261 0#64 (by rw [exC2_len]; decide) (by rw [byE7_len]; omega) (Off.refl _ _).drew) ?_; rintro e v10 ⟨rfl, a1⟩; have Y10 := hID a1; clear a1 Y9; obtain ⟨c0, c1, c2, c3, c4, c5, c6, c7, u0, m0, -⟩ := GC.out _ Y10.out.2))
 go_wp2_with fail
 rw [rounds_succ]
 go_wp2_with fail
 refine wp_loop_rounds 2 ?_
 rw [rounds_succ]
 go_wp2_with fail
 clear c0 c1 c2 c3 c4 c5 c6 c7 u0 m0
 refine Calls.mono (R := fun e w' => e = .returned (.int .u64 4) ∧ ArTo W0 F p exC3 (byE9 E) w') (mget HM.out Y10.out 258 4#64 ex3_258 (by rw [exC3_len]; decide) (by rw [byE8_len]; omega)) ?_
 rintro e v11 ⟨rfl, a1⟩
 have Y11 := hID a1
 clear a1 Y10
 obtain ⟨c0, c1, c2, c3, c4, c5, c6, c7, u0, m0, -⟩ := GC.out _ Y11.out.2
 go_wp2_with fail
 clear c0 c1 c2 c3 c4 c5 c6 c7 u0 m0
 refine Calls.mono (R := fun e w' => e = .returned (.int .u64 5) ∧ ArTo W0 F p exC3 (byE10 E) w') (mget HM.out Y11.out 259 5#64 ex3_259 (by rw [exC3_len]; decide) (by rw [byE9_len]; omega)) ?_
 rintro e v12 ⟨rfl, a1⟩
 have Y12 := hID a1
 clear a1 Y11
 obtain ⟨c0, c1, c2, c3, c4, c5, c6, c7, u0, m0, -⟩ := GC.out _ Y12.out.2
 go_wp2_with fail
 rw [rounds_succ]
 go_wp2_with fail
 go_region_held3 (fun W => W.cell? ⟨cb, 0, none⟩ = some (.pointer (some ⟨g, 0, none⟩)) ∧ W.cell? ⟨w.heap.size, 7, none⟩ = some (.int .i64 261) ∧ W.cell? ⟨w.heap.size + 1, 0, none⟩ = some (.int .u64 18446744073709551615))
  (first | with_reducible assumption | go_keep)
  (first
   | (go_at_call 53; refine (zero_4 _).mono ?_; rintro e w' ⟨rfl, rfl⟩)
   | (go_at_call 52; refine (not_zero _).mono ?_; rintro e w' ⟨rfl, rfl⟩)
   | (go_at_call 44; refine Calls.mono (R := fun e w' => e = .returned (.tuple #[]) ∧ ArTo W0 F p exC4 (byE11 E) w') (mput HM.out Y12.out 262 18446744073709551615#64 (by rw [exC3_len]; decide) (by rw [byE10_len]; omega) (Off.refl _ _).drew) ?_; rintro e v13 ⟨rfl, a1⟩; have Y13 := hID a1; clear a1 Y12; obtain ⟨c0, c1, c2, c3, c4, c5, c6, c7, u0, m0, -⟩ := GC.out _ Y13.out.2))
 go_wp2_with fail
 rw [rounds_succ]
 have r0 := (GC.out _ Y13.out.2).2.2.2.2.2.2.2.2.2.2.cell 0
 have fr := (GC.out _ Y13.out.2).2.2.2.2.2.2.2.2.2.2.frozen 0
 go_wp2_with fail
 have hq := GC.out _ Y13.out.2
 have hr := hq.2.2.2.2.2.2.2.2.2.2
 have hm := HM.out.at Y13.out.2
 have o5 := off_same (i := 0) (u := .int .i64 0) hr rfl
 have q0 : (v13.setCell ⟨w.heap.size + 2, 0, none⟩ (.int .i64 0)).cell? ⟨cb, 0, none⟩ = some (.pointer (some ⟨g, 0, none⟩)) := (o5.cell_old (by have := X2.out.2.2.2.2.2.2.lt; exact Nat.lt_of_lt_of_le this Y13.out.2.size) 0).trans hq.2.2.2.2.2.2.2.2.2.1
 have hr2 := hr.to (o5.block _ hr.lt id)
 have hm2 := hm.1.to (o5.block _ hm.1.lt id)
 refine leaves_cons (f := 47) (args := #[.pointer (some ⟨cb, 0, none⟩), .pointer (some ⟨w.heap.size + 2, 0, none⟩)]) (by simp) (by simp [go_sem]) ?_
 refine (ndefer_byte g cb (w.heap.size + 2) _ (macC p exL) _ q0 hm2 rfl hr2).mono ?_
 rintro e u' w'' ⟨rfl, rfl, o6, rfl⟩
 have hr3 := hr2.put 0 (.int .i64 0)
 have r1 : ((v13.setCell ⟨w.heap.size + 2, 0, none⟩ (.int .i64 0)).setCell ⟨w.heap.size + 2, 0, none⟩ (.int .i64 0)).cell? ⟨w.heap.size + 1 + 1, 0, none⟩ = some (.int .i64 0) := hr3.cell 0
 have YE := hID (ArTo.pre HA.out X2.out.1 (Y13.out.nob (o5.also o6)))
 simp [Leaves, settle, results, Tryz.results16, go_sem, r1]
 exact YE.out
end Go.Proofs.YtkflicifngohcaaGreatDoor

namespace Go.Proofs.YtkflicifngohcaaGreatDoor
open Go.RowKit
structure LayN where
 a : Nat
 b : Nat
 t : Nat
 s : Nat
 f : Nat
 st : Nat
 n : Nat
 h : Nat
def LayN.lay (l : LayN) : Lay := ⟨l.a, l.b, l.t, l.s, l.f, l.st, l.n, l.h⟩
structure LayN.In (l : LayN) (z : Nat) : Prop where
 a1 : 1 ≤ l.a
 a4 : l.a ≤ 4
 b1 : 1 ≤ l.b
 b16 : l.b ≤ 16
 ht : l.t + 256 * l.a ≤ z
 hs : l.s + l.a ≤ z
 hf : l.f + l.b * l.a ≤ z
 hst : l.st + l.a ≤ z
 hn : l.n + l.a ≤ z
 hh : l.h + l.b ≤ z
def b1C (l : LayN) (x : BitVec 64) (C : List (BitVec 64)) : Nat → List (BitVec 64)
 | 0 => C
 | k + 1 => (b1C l x C k).set (l.n + k) (gvF (fun i => cl (b1C l x C k) (l.t + 256 * k + i)) x 256)
def b1E (l : LayN) (E : List Ev) : Nat → List Ev
 | 0 => E
 | k + 1 => ldE (l.t + 256 * k) (b1E l E k) 256 ++ [(2, l.n + k)]
def b2S (l : LayN) (m : BitVec 64) (C : List (BitVec 64)) : Nat → List (BitVec 64) × BitVec 64
 | 0 => (C, 0#64)
 | k + 1 =>
  ((b2S l m C k).1.set (l.st + k) (selM m (((((b2S l m C k).1.getD (l.st + k) 0 <<< 1) ||| (b2S l m C k).2) ||| (b2S l m C k).1.getD (l.s + k) 0) &&& (b2S l m C k).1.getD (l.n + k) 0) ((b2S l m C k).1.getD (l.st + k) 0)),
   (b2S l m C k).1.getD (l.st + k) 0 >>> 63)
def b2E (l : LayN) (E : List Ev) : Nat → List Ev
 | 0 => E
 | k + 1 => (((b2E l E k ++ [(1, l.s + k)]) ++ [(1, l.n + k)]) ++ [(1, l.st + k)]) ++ [(2, l.st + k)]
def b3I (l : LayN) (C : List (BitVec 64)) (r : Nat) : Nat → BitVec 64
 | 0 => 0#64
 | k + 1 => b3I l C r k ||| (C.getD (l.f + r * l.a + k) 0 &&& C.getD (l.st + k) 0)
def b3J (l : LayN) (E : List Ev) (r : Nat) : Nat → List Ev
 | 0 => E
 | k + 1 => (b3J l E r k ++ [(1, l.f + r * l.a + k)]) ++ [(1, l.st + k)]
def b3C (l : LayN) (m : BitVec 64) (C : List (BitVec 64)) : Nat → List (BitVec 64)
 | 0 => C
 | r + 1 => (b3C l m C r).set (l.h + r) (m &&& ~~~ (zeM (b3I l (b3C l m C r) r l.a)))
def b3E (l : LayN) (E : List Ev) : Nat → List Ev
 | 0 => E
 | r + 1 => b3J l (b3E l E r) r l.a ++ [(2, l.h + r)]
theorem b1C_len (l : LayN) (x : BitVec 64) (C : List (BitVec 64)) (k : Nat) : (b1C l x C k).length = C.length := by
 induction k with
 | zero => rfl
 | succ k ih => rw [b1C, List.length_set, ih]
theorem b2S_len (l : LayN) (m : BitVec 64) (C : List (BitVec 64)) (k : Nat) : (b2S l m C k).1.length = C.length := by
 induction k with
 | zero => rfl
 | succ k ih => rw [b2S, List.length_set, ih]
theorem b3C_len (l : LayN) (m : BitVec 64) (C : List (BitVec 64)) (k : Nat) : (b3C l m C k).length = C.length := by
 induction k with
 | zero => rfl
 | succ k ih => rw [b3C, List.length_set, ih]
theorem b1E_len (l : LayN) (E : List Ev) (k : Nat) : (b1E l E k).length = E.length + 257 * k := by
 induction k with
 | zero => rfl
 | succ k ih => rw [b1E, List.length_append, length_ldE, ih]; simp; omega
theorem b2E_len (l : LayN) (E : List Ev) (k : Nat) : (b2E l E k).length = E.length + 4 * k := by
 induction k with
 | zero => rfl
 | succ k ih => simp [b2E, ih]; omega
theorem b3J_len (l : LayN) (E : List Ev) (r k : Nat) : (b3J l E r k).length = E.length + 2 * k := by
 induction k with
 | zero => rfl
 | succ k ih => simp [b3J, ih]; omega
theorem b3E_len (l : LayN) (E : List Ev) (r : Nat) : (b3E l E r).length = E.length + r * (2 * l.a + 1) := by
 induction r with
 | zero => simp [b3E]
 | succ r ih => rw [b3E, List.length_append, b3J_len, ih]; simp [Nat.add_mul]; omega
def byC (l : LayN) (x m : BitVec 64) (C : List (BitVec 64)) : List (BitVec 64) := b3C l m (b2S l m (b1C l x C l.a) l.a).1 l.b
def byE (l : LayN) (E : List Ev) : List Ev := b3E l (b2E l (b1E l E l.a) l.a) l.b
theorem byC_len (l : LayN) (x m : BitVec 64) (C : List (BitVec 64)) : (byC l x m C).length = C.length := by unfold byC; rw [b3C_len, b2S_len, b1C_len]
theorem byE_len (l : LayN) (E : List Ev) : (byE l E).length = E.length + 257 * l.a + 4 * l.a + l.b * (2 * l.a + 1) := by unfold byE; rw [b3E_len, b2E_len, b1E_len]
end Go.Proofs.YtkflicifngohcaaGreatDoor

namespace Go.Proofs.YtkflicifngohcaaGreatDoor
open Go.RowKit
set_option maxRecDepth 100000
attribute [local go_sem] bits_and_u64 bits_or_u64 bits_xor_u64 wrap_u64 bv_add bv_neg bv_sub bv_mul
theorem not_of (a : BitVec 64) (w : World) : Calls Tryz.prog 52 #[.int .u64 (n64 a)] w fun e w' => e = .returned (.int .u64 (n64 (~~~ a))) ∧ w = w' := by
 go_enter Tryz.func52, Tryz.ntmps52
 go_wp2
 go_ret
 exact ⟨ret_int (by rw [bv_max, inv_eq]), rfl⟩
theorem shl_one (u : BitVec 64) : u * bv 2 = u <<< 1 := by
 apply BitVec.eq_of_toNat_eq
 rw [BitVec.toNat_mul, BitVec.toNat_shiftLeft, Nat.shiftLeft_eq]
 rfl
theorem top_bit (u : BitVec 64) : n64 u / (9223372036854775808 : Int) = n64 (u >>> 63) := by
 unfold n64
 rw [BitVec.toNat_ushiftRight, Nat.shiftRight_eq_div_pow]
 omega
theorem mgetI {W0 V : World} {F : Nat → Prop} {g p : Nat} {l : Lay} {C : List (BitVec 64)} {E : List Ev} (m : Mac W0 F g p l) (Y : ArTo W0 F p C E V) (x : Nat) (xi : Int) (u : BitVec 64) (hu : C.getD x 0 = u) (hx : x < C.length) (he : E.length < 8388608) (hxi : xi = (x : Int)) :
  Calls Tryz.prog 50 #[.pointer (some ⟨g, 0, none⟩), .int .i64 xi] V fun e w' => e = .returned (.int .u64 (n64 u)) ∧ ArTo W0 F p C (E ++ [(1, x)]) w' := by
 subst hxi
 exact mget m Y x u hu hx he
theorem mputI {W0 V V0 : World} {F : Nat → Prop} {g p : Nat} {l : Lay} {C : List (BitVec 64)} {E : List Ev} (m : Mac W0 F g p l) (Y : ArTo W0 F p C E V0) (x : Nat) (xi : Int) (u : BitVec 64) (hx : x < C.length) (he : E.length + 1 < 8388608) (o : Off Nob (V0.alloc (.cells #[.int .u64 (n64 u)] 41)) V) (hxi : xi = (x : Int)) :
  Calls Tryz.prog 44 #[.pointer (some ⟨g, 0, none⟩), .int .i64 xi, .slice (some ⟨V0.heap.size, 0, none⟩) 1 1] V fun e w' => e = .returned (.tuple #[]) ∧ ArTo W0 F p (C.set x u) (E ++ [(2, x)]) w' := by
 subst hxi
 exact mput m Y x u hx he o
set_option maxHeartbeats 4000000 in
theorem nbyte_any (l : LayN) (x m : BitVec 64) (hm : isM m = true) (w : World) (F : Nat → Prop) (p : Nat) (C : List (BitVec 64)) (E : List Ev) (h : Ar w F p C E) (hl : l.lay.Ok C.length) (hi : l.In C.length) (hE : E.length + (261 * l.a + l.b * (2 * l.a + 1)) < 8388608) :
  Calls Tryz.prog 16 #[.pointer (some ⟨p, 0, none⟩), .agg #[.int .i64 l.a, .int .i64 l.b, .int .i64 l.t, .int .i64 l.s, .int .i64 l.f, .int .i64 l.st, .int .i64 l.n, .int .i64 l.h], .int .u64 (n64 x), .int .u64 (n64 m)] w fun e w' => e = .returned (.int .i64 0) ∧ ArTo w F p (byC l x m C) (byE l E) w' := by
 have hmf : ∀ (fn : Fn) (first cap : Array Value) (w : World), (Instr.makeFunc fn first cap).run Tryz.prog w = .ok (.func fn first cap) w := fun _ _ _ _ => rfl
 have hC := h.n2
 have HA := hID h
 have HL := hID hl
 have HI := hID hi
 have HE := hID hE
 have HE1 : Hid (E.length + 261 * l.a < 8388608) := hID (Nat.lt_of_le_of_lt (by rw [← Nat.add_assoc]; exact Nat.le_add_right _ _) hE)
 have hst : ∃ bt : Int, (∀ W, Calls Tryz.prog 27 #[.int .i64 l.a, .int .i64 l.b] W fun e w' => e = .returned (.tuple #[.int .i64 (258 * l.a + l.b * l.a), .int .i64 bt, .int .i64 0]) ∧ W = w') ∧ 0 ≤ bt ∧ bt = ((261 * l.a + l.b * (2 * l.a + 1) : Nat) : Int) := by
  refine ⟨261 * l.a + l.b * (2 * l.a + 1), fun W => nsteps_yes l.a l.b (by have := hi.a1; omega) (by have := hi.a4; omega) (by have := hi.b1; omega) (by have := hi.b16; omega) W, ?_, by push_cast; rfl⟩
  have : (0 : Int) ≤ ((261 * l.a + l.b * (2 * l.a + 1) : Nat) : Int) := Int.natCast_nonneg _
  push_cast at this
  exact this
 obtain ⟨bt, hst1, hst2, hst3⟩ := hst
 have HST := hID (And.intro hst1 (And.intro hst2 hst3))
 clear h hl hE hst1 hst2 hst3
 obtain ⟨a1, a4, b1, b16, it, is, if_, ist, in_, ih⟩ := hi
 go_enter_defers Tryz.func16, Tryz.ntmps16
 go_wp2_with fail
 have X0 : Hid (Off Nob w (((w.alloc (.cells #[.int .i64 l.a, .int .i64 l.b, .int .i64 l.t, .int .i64 l.s, .int .i64 l.f, .int .i64 l.st, .int .i64 l.n, .int .i64 l.h] 33)).alloc (.cells #[.int .u64 (n64 m)] 41)).alloc (.cells #[.int .i64 0] 29)) ∧ Blk (((w.alloc (.cells #[.int .i64 l.a, .int .i64 l.b, .int .i64 l.t, .int .i64 l.s, .int .i64 l.f, .int .i64 l.st, .int .i64 l.n, .int .i64 l.h] 33)).alloc (.cells #[.int .u64 (n64 m)] 41)).alloc (.cells #[.int .i64 0] 29)) w.heap.size 33 #[.int .i64 l.a, .int .i64 l.b, .int .i64 l.t, .int .i64 l.s, .int .i64 l.f, .int .i64 l.st, .int .i64 l.n, .int .i64 l.h] ∧ Blk (((w.alloc (.cells #[.int .i64 l.a, .int .i64 l.b, .int .i64 l.t, .int .i64 l.s, .int .i64 l.f, .int .i64 l.st, .int .i64 l.n, .int .i64 l.h] 33)).alloc (.cells #[.int .u64 (n64 m)] 41)).alloc (.cells #[.int .i64 0] 29)) (w.heap.size + 1) 41 #[.int .u64 (n64 m)] ∧ Blk (((w.alloc (.cells #[.int .i64 l.a, .int .i64 l.b, .int .i64 l.t, .int .i64 l.s, .int .i64 l.f, .int .i64 l.st, .int .i64 l.n, .int .i64 l.h] 33)).alloc (.cells #[.int .u64 (n64 m)] 41)).alloc (.cells #[.int .i64 0] 29)) (w.heap.size + 2) 29 #[.int .i64 0]) := hID ⟨(((Off.refl _ _).alloc _).alloc _).alloc _, ((Blk.new _ _ _).alloc _).alloc _, (blk_second _ _ _ _).alloc _, by
  have := Blk.new ((w.alloc (.cells #[.int .i64 l.a, .int .i64 l.b, .int .i64 l.t, .int .i64 l.s, .int .i64 l.f, .int .i64 l.st, .int .i64 l.n, .int .i64 l.h] 33)).alloc (.cells #[.int .u64 (n64 m)] 41)) 29 #[.int .i64 0]
  simpa using this⟩
 revert X0
 generalize (((w.alloc (.cells #[.int .i64 l.a, .int .i64 l.b, .int .i64 l.t, .int .i64 l.s, .int .i64 l.f, .int .i64 l.st, .int .i64 l.n, .int .i64 l.h] 33)).alloc (.cells #[.int .u64 (n64 m)] 41)).alloc (.cells #[.int .i64 0] 29)) = w0
 intro X0
 refine (HST.out.1 _).mono ?_
 rintro e w1 ⟨rfl, rfl⟩
 have c0 := X0.out.2.1.cell 0
 have c1 := X0.out.2.1.cell 1
 have c2 := X0.out.2.1.cell 2
 have c3 := X0.out.2.1.cell 3
 have c4 := X0.out.2.1.cell 4
 have c5 := X0.out.2.1.cell 5
 have c6 := X0.out.2.1.cell 6
 have c7 := X0.out.2.1.cell 7
 have r0 := X0.out.2.2.2.cell 0
 have fr := X0.out.2.2.2.frozen 0
 go_wp2_with fail
 have HBG := hID (nbegin_byte l.lay w0 F p C E (HA.out.keep X0.out.1 (fun _ _ hn => hn)) HL.out bt HST.out.2.1 (by have := HST.out.2.2; have := HE.out; omega) ⟨w.heap.size + 1, 0, none⟩ (fun W o => nask_byte m hm W (w.heap.size + 1) ((X0.out.2.2.1.to (o.block _ X0.out.2.2.1.lt id)).cell 0)))
 refine HBG.out.mono ?_
 rintro e w1 ⟨g, rfl, hg1, hg2, o1⟩
 have X1 := hID (And.intro (X0.out.1.also o1) (And.intro (X0.out.2.1.to (o1.block _ X0.out.2.1.lt id)) (And.intro (X0.out.2.2.1.to (o1.block _ X0.out.2.2.1.lt id)) (And.intro (X0.out.2.2.2.to (o1.block _ X0.out.2.2.2.lt id)) (And.intro hg2 (And.intro hg1 o1.size))))))
 clear c0 c1 c2 c3 c4 c5 c6 c7 r0 fr HBG hg1 hg2 o1
 have R0 := hID (X1.out.2.2.2.1.alloc (.cells #[.pointer (some ⟨g, 0, none⟩)] 107))
 have hO := (Off.alloc (Off.refl Nob w1) (.cells #[.pointer (some ⟨g, 0, none⟩)] 107)).also (off_same (i := 0) (u := .int .i64 0) R0.out rfl)
 have r0 := R0.out.cell 0
 have fr := R0.out.frozen 0
 have hMV : Blk ((w1.alloc (.cells #[.pointer (some ⟨g, 0, none⟩)] 107)).setCell ⟨w.heap.size + 2, 0, none⟩ (.int .i64 0)) w1.heap.size 107 #[.pointer (some ⟨g, 0, none⟩)] := (Blk.new w1 107 #[.pointer (some ⟨g, 0, none⟩)]).far (by have := X1.out.2.2.2.1.lt; simp; omega) _
 have r0' : ((w1.alloc (.cells #[.pointer (some ⟨g, 0, none⟩)] 107)).setCell ⟨w.heap.size + 2, 0, none⟩ (.int .i64 0)).cell? ⟨w.heap.size + 2, 0, none⟩ = some (.int .i64 0) := (X1.out.2.2.2.1.to (hO.block _ X1.out.2.2.2.1.lt id)).cell 0
 have fr' : ((w1.alloc (.cells #[.pointer (some ⟨g, 0, none⟩)] 107)).setCell ⟨w.heap.size + 2, 0, none⟩ (.int .i64 0)).frozen? ⟨w.heap.size + 2, 0, none⟩ = false := (X1.out.2.2.2.1.to (hO.block _ X1.out.2.2.2.1.lt id)).frozen 0
 have m0 := hMV.cell 0
 have X2 : Hid (Off Nob w ((w1.alloc (.cells #[.pointer (some ⟨g, 0, none⟩)] 107)).setCell ⟨w.heap.size + 2, 0, none⟩ (.int .i64 0)) ∧ Blk ((w1.alloc (.cells #[.pointer (some ⟨g, 0, none⟩)] 107)).setCell ⟨w.heap.size + 2, 0, none⟩ (.int .i64 0)) w.heap.size 33 #[.int .i64 l.a, .int .i64 l.b, .int .i64 l.t, .int .i64 l.s, .int .i64 l.f, .int .i64 l.st, .int .i64 l.n, .int .i64 l.h] ∧ Blk ((w1.alloc (.cells #[.pointer (some ⟨g, 0, none⟩)] 107)).setCell ⟨w.heap.size + 2, 0, none⟩ (.int .i64 0)) (w.heap.size + 1) 41 #[.int .u64 (n64 m)] ∧ Blk ((w1.alloc (.cells #[.pointer (some ⟨g, 0, none⟩)] 107)).setCell ⟨w.heap.size + 2, 0, none⟩ (.int .i64 0)) (w.heap.size + 2) 29 #[.int .i64 0] ∧ Blk ((w1.alloc (.cells #[.pointer (some ⟨g, 0, none⟩)] 107)).setCell ⟨w.heap.size + 2, 0, none⟩ (.int .i64 0)) g 112 (macC p l.lay) ∧ w.heap.size ≤ g ∧ Blk ((w1.alloc (.cells #[.pointer (some ⟨g, 0, none⟩)] 107)).setCell ⟨w.heap.size + 2, 0, none⟩ (.int .i64 0)) w1.heap.size 107 #[.pointer (some ⟨g, 0, none⟩)]) := hID ⟨X1.out.1.also hO, X1.out.2.1.to (hO.block _ X1.out.2.1.lt id), X1.out.2.2.1.to (hO.block _ X1.out.2.2.1.lt id), X1.out.2.2.2.1.to (hO.block _ X1.out.2.2.2.1.lt id), X1.out.2.2.2.2.1.to (hO.block _ X1.out.2.2.2.2.1.lt id), by have := X0.out.1.size; have := X1.out.2.2.2.2.2.1; omega, hMV⟩
 have c0 := X2.out.2.1.cell 0
 clear hO hMV R0
 go_wp2_with fail
 obtain ⟨cb, hcb⟩ : ∃ cb, w1.heap.size = cb := ⟨_, rfl⟩
 have hcb2 : w.heap.size ≤ cb := by rw [← hcb]; exact X1.out.1.size
 rw [hcb] at X2 ⊢
 clear c0 r0 fr r0' fr' m0 hcb X1 X0
 revert X2
 generalize ((w1.alloc (.cells #[.pointer (some ⟨g, 0, none⟩)] 107)).setCell ⟨w.heap.size + 2, 0, none⟩ (.int .i64 0)) = W0
 intro X2
 have hgF : ∀ k, w.heap.size ≤ k → ¬ F k := fun k hk hf => by have := HA.out.lt k hf; omega
 have GC : Hid (∀ W, Off F W0 W → W.cell? ⟨w.heap.size, 0, none⟩ = some (.int .i64 l.a) ∧ W.cell? ⟨w.heap.size, 1, none⟩ = some (.int .i64 l.b) ∧ W.cell? ⟨w.heap.size, 2, none⟩ = some (.int .i64 l.t) ∧ W.cell? ⟨w.heap.size, 3, none⟩ = some (.int .i64 l.s) ∧ W.cell? ⟨w.heap.size, 4, none⟩ = some (.int .i64 l.f) ∧ W.cell? ⟨w.heap.size, 5, none⟩ = some (.int .i64 l.st) ∧ W.cell? ⟨w.heap.size, 6, none⟩ = some (.int .i64 l.n) ∧ W.cell? ⟨w.heap.size, 7, none⟩ = some (.int .i64 l.h) ∧ W.cell? ⟨w.heap.size + 1, 0, none⟩ = some (.int .u64 (n64 m)) ∧ W.cell? ⟨cb, 0, none⟩ = some (.pointer (some ⟨g, 0, none⟩)) ∧ Blk W (w.heap.size + 2) 29 #[.int .i64 0]) := hID (fun W o => by
  have h1 := X2.out.2.1.to (o.block _ X2.out.2.1.lt (hgF _ (by omega)))
  have h2 := X2.out.2.2.1.to (o.block _ X2.out.2.2.1.lt (hgF _ (by omega)))
  have h3 := X2.out.2.2.2.2.2.2.to (o.block _ X2.out.2.2.2.2.2.2.lt (hgF _ hcb2))
  exact ⟨h1.cell 0, h1.cell 1, h1.cell 2, h1.cell 3, h1.cell 4, h1.cell 5, h1.cell 6, h1.cell 7, h2.cell 0, h3.cell 0, X2.out.2.2.2.1.to (o.block _ X2.out.2.2.2.1.lt (hgF _ (by omega)))⟩)
 have HM : Hid (Mac W0 F g p l.lay) := hID ⟨X2.out.2.2.2.2.1.lt, hgF _ X2.out.2.2.2.2.2.1, X2.out.2.2.2.2.1⟩
 have Y0 := hID (ArTo.refl (HA.out.keep X2.out.1 (fun _ _ hn => hn)))
 clear hgF
 obtain ⟨c0, c1, c2, c3, c4, c5, c6, c7, u0, m0, -⟩ := GC.out _ Y0.out.2
 go_wp2_with fail
 clear c0 c1 c2 c3 c4 c5 c6 c7 u0 m0
 go_loopw [49] (fun q wr => ∃ k : Nat, q = .int .i64 (k : Int) ∧ k ≤ l.a ∧ ArTo W0 F p (b1C l x C k) (b1E l E k) wr) (fun q wr => l.a - (intOf q).toNat)
 case atStart => exact ⟨0, rfl, Nat.zero_le _, Y0.out⟩
 case round =>
  obtain ⟨k, rfl, hk, hy⟩ := hrel
  have Y := hID hy
  clear hy Y0
  obtain ⟨c0, c1, c2, c3, c4, c5, c6, c7, u0, m0, -⟩ := GC.out _ Y.out.2
  by_cases hlt : k < l.a
  ·have d1 : decide ((k : Int) < (l.a : Int)) = true := decide_eq_true (by omega)
   have HG := hID (get_ok Y.out.1 (l.t + 256 * k) 256 x (by unfold lkE hasE roomE; have := HE1.out; rw [b1C_len, b1E_len, if_neg (by omega), if_pos (by rw [if_neg (by omega)]), if_neg (by omega), if_neg (by omega)]))
   have hcast : ((l.t + 256 * k : Nat) : Int) = (l.t : Int) + 256 * (k : Int) := by push_cast; rfl
   rw [hcast] at HG
   clear hcast
   go_wp2_with fail
   refine HG.out.mono ?_
   rintro e v1 ⟨rfl, z1⟩
   have Y1 := hID (Y.out.trans z1)
   clear z1 HG
   clear c0 c1 c2 c3 c4 c5 c6 c7 u0 m0
   obtain ⟨c0, c1, c2, c3, c4, c5, c6, c7, u0, m0, -⟩ := GC.out _ Y1.out.2
   go_wp2_with fail
   refine (mkeep HM.out Y1.out).mono ?_
   rintro e v2 ⟨rfl, z2⟩
   have Y2 := hID z2
   clear z2
   clear c0 c1 c2 c3 c4 c5 c6 c7 u0 m0
   obtain ⟨c0, c1, c2, c3, c4, c5, c6, c7, u0, m0, -⟩ := GC.out _ Y2.out.2
   have HP := hID (mput HM.out Y2.out (l.n + k) (gvF (fun i => cl (b1C l x C k) (l.t + 256 * k + i)) x 256) (by rw [b1C_len]; omega) (by rw [length_ldE, b1E_len]; have := HE1.out; omega) (Off.refl _ _))
   have hcast : ((l.n + k : Nat) : Int) = (l.n : Int) + (k : Int) := by push_cast; rfl
   rw [hcast] at HP
   clear hcast
   go_wp2_with fail
   refine HP.out.mono ?_
   rintro e v3 ⟨rfl, z3⟩
   have Y3 : Hid (ArTo W0 F p (b1C l x C (k + 1)) (b1E l E (k + 1)) v3) := hID z3
   clear z3 HP
   clear c0 c1 c2 c3 c4 c5 c6 c7 u0 m0
   go_wp2_with fail
   go_roundw
   case rel => exact ⟨k + 1, rfl, by omega, Y3.out⟩
   case measure => simp [intOf]; omega
  ·obtain rfl : k = l.a := by omega
   go_wp2_with fail
   clear c0 c1 c2 c3 c4 c5 c6 c7 u0 m0
   obtain ⟨C1, hC1⟩ : ∃ C1, b1C l x C l.a = C1 := ⟨_, rfl⟩
   obtain ⟨E1, hE1⟩ : ∃ E1, b1E l E l.a = E1 := ⟨_, rfl⟩
   have HC1 : Hid (C1.length = C.length ∧ E1.length = E.length + 257 * l.a) := hID ⟨by rw [← hC1, b1C_len], by rw [← hE1, b1E_len]⟩
   rw [hC1, hE1] at Y
   have HCE := hID (And.intro hC1 hE1)
   clear hC1 hE1
   go_loopw [16, 77] (fun c q wr => ∃ k : Nat, c = .int .u64 (n64 (b2S l m C1 k).2) ∧ q = .int .i64 (k : Int) ∧ k ≤ l.a ∧ ArTo W0 F p (b2S l m C1 k).1 (b2E l E1 k) wr) (fun c q wr => l.a - (intOf q).toNat)
   case atStart => exact ⟨0, rfl, rfl, Nat.zero_le _, Y.out⟩
   case round =>
    obtain ⟨k, rfl, rfl, hk2, hy⟩ := hrel
    have Z := hID hy
    clear hy Y
    obtain ⟨c0, c1, c2, c3, c4, c5, c6, c7, u0, m0, -⟩ := GC.out _ Z.out.2
    by_cases hlt2 : k < l.a
    ·have d1 : decide ((k : Int) < (l.a : Int)) = true := decide_eq_true (by omega)
     obtain ⟨was, hwas⟩ : ∃ u, (b2S l m C1 k).1.getD (l.st + k) 0 = u := ⟨_, rfl⟩
     obtain ⟨sts, hsts⟩ : ∃ u, (b2S l m C1 k).1.getD (l.s + k) 0 = u := ⟨_, rfl⟩
     obtain ⟨row, hrow⟩ : ∃ u, (b2S l m C1 k).1.getD (l.n + k) 0 = u := ⟨_, rfl⟩
     obtain ⟨car, hcar⟩ : ∃ u, (b2S l m C1 k).2 = u := ⟨_, rfl⟩
     have HS2 : Hid (b2S l m C1 (k + 1) = ((b2S l m C1 k).1.set (l.st + k) (selM m ((((was <<< 1) ||| car) ||| sts) &&& row) was), was >>> 63)) := hID (by rw [b2S, hwas, hsts, hrow, hcar])
     have HW := hID (And.intro hwas (And.intro hsts hrow))
     have w1 : IntKind.i64.wrap ((l.s : Int) + (k : Int)) = (l.s : Int) + (k : Int) := IntWalk.i64_in _ (by omega)
     have w2 : IntKind.i64.wrap ((l.n : Int) + (k : Int)) = (l.n : Int) + (k : Int) := IntWalk.i64_in _ (by omega)
     have w3 : IntKind.i64.wrap ((l.st : Int) + (k : Int)) = (l.st : Int) + (k : Int) := IntWalk.i64_in _ (by omega)
     rw [hcar]
     clear hwas hsts hrow hcar
     go_wp2_with fail
     go_region_held3 (fun W => W.cell? ⟨cb, 0, none⟩ = some (.pointer (some ⟨g, 0, none⟩)) ∧ W.cell? ⟨w.heap.size, 3, none⟩ = some (.int .i64 l.s) ∧ W.cell? ⟨w.heap.size, 6, none⟩ = some (.int .i64 l.n) ∧ W.cell? ⟨w.heap.size, 5, none⟩ = some (.int .i64 l.st))
      (first | with_reducible assumption | go_keep)
      (first
       | (go_at_call 50; refine (mgetI HM.out Z.out.drew (l.s + k) _ sts HW.out.2.1 (by rw [b2S_len]; have := HC1.out; omega) (by simp only [List.length_append, List.length_cons, List.length_nil, b2E_len]; have := HC1.out; have := HE1.out; omega) (by push_cast; rfl)).mono ?_; rintro e v4 ⟨rfl, z1⟩; have Z1 := hID z1; clear z1 Z; obtain ⟨c0, c1, c2, c3, c4, c5, c6, c7, u0, m0, -⟩ := GC.out _ Z1.out.2)
       | (go_at_call 50; refine (mgetI HM.out Z1.out (l.n + k) _ row HW.out.2.2 (by rw [b2S_len]; have := HC1.out; omega) (by simp only [List.length_append, List.length_cons, List.length_nil, b2E_len]; have := HC1.out; have := HE1.out; omega) (by push_cast; rfl)).mono ?_; rintro e v5 ⟨rfl, z1⟩; have Z2 := hID z1; clear z1 Z1; obtain ⟨c0, c1, c2, c3, c4, c5, c6, c7, u0, m0, -⟩ := GC.out _ Z2.out.2)
       | (go_at_call 50; refine (mgetI HM.out Z2.out (l.st + k) _ was HW.out.1 (by rw [b2S_len]; have := HC1.out; omega) (by simp only [List.length_append, List.length_cons, List.length_nil, b2E_len]; have := HC1.out; have := HE1.out; omega) (by push_cast; rfl)).mono ?_; rintro e v6 ⟨rfl, z1⟩; have Z3 := hID z1; clear z1 Z2; obtain ⟨c0, c1, c2, c3, c4, c5, c6, c7, u0, m0, -⟩ := GC.out _ Z3.out.2))
     clear w1 w2 w3
     go_wp2_with fail
     have hsh : was * bv 2 = was <<< 1 := shl_one was
     have hcr : n64 was / (9223372036854775808 : Int) = n64 (was >>> 63) := top_bit was
     rw [hsh, hcr]
     clear hsh hcr
     obtain ⟨now, hnow⟩ : ∃ u, ((((was <<< 1) ||| car) ||| sts) &&& row) = u := ⟨_, rfl⟩
     rw [hnow] at HS2 ⊢
     clear hnow
     have w3 : IntKind.i64.wrap ((l.st : Int) + (k : Int)) = (l.st : Int) + (k : Int) := IntWalk.i64_in _ (by omega)
     go_region_held3 (fun W => W.cell? ⟨cb, 0, none⟩ = some (.pointer (some ⟨g, 0, none⟩)) ∧ W.cell? ⟨w.heap.size, 5, none⟩ = some (.int .i64 l.st) ∧ W.cell? ⟨w.heap.size + 1, 0, none⟩ = some (.int .u64 (n64 m)))
      (first | with_reducible assumption | go_keep)
      (first
       | (go_at_call 51; refine (select_any m now was _).mono ?_; rintro e w' ⟨rfl, rfl⟩)
       | (go_at_call 44; refine (mputI HM.out Z3.out (l.st + k) _ (selM m now was) (by rw [b2S_len]; have := HC1.out; omega) (by simp only [List.length_append, List.length_cons, List.length_nil, b2E_len]; have := HC1.out; have := HE1.out; omega) (Off.refl _ _).drew (by push_cast; rfl)).mono ?_; rintro e v7 ⟨rfl, z1⟩; have Z4 := hID z1; clear z1 Z3; obtain ⟨c0, c1, c2, c3, c4, c5, c6, c7, u0, m0, -⟩ := GC.out _ Z4.out.2))
     clear w3
     go_wp2_with fail
     go_roundw
     case rel => exact ⟨k + 1, by rw [HS2.out], rfl, by omega, by rw [HS2.out]; exact Z4.out⟩
     case measure => simp [intOf]; omega
    ·obtain rfl : k = l.a := by omega
     go_wp2_with fail
     clear c0 c1 c2 c3 c4 c5 c6 c7 u0 m0
     obtain ⟨C2, hC2⟩ : ∃ C2, (b2S l m C1 l.a).1 = C2 := ⟨_, rfl⟩
     obtain ⟨E2, hE2⟩ : ∃ E2, b2E l E1 l.a = E2 := ⟨_, rfl⟩
     have HC2 : Hid (C2.length = C.length ∧ E2.length = E.length + 261 * l.a) := hID ⟨by rw [← hC2, b2S_len]; exact HC1.out.1, by rw [← hE2, b2E_len]; have := HC1.out.2; omega⟩
     rw [hC2, hE2] at Z
     have HCE2 := hID (And.intro hC2 hE2)
     clear hC2 hE2
     go_loopw [122] (fun q wr => ∃ r : Nat, q = .int .i64 (r : Int) ∧ r ≤ l.b ∧ ArTo W0 F p (b3C l m C2 r) (b3E l E2 r) wr) (fun q wr => l.b - (intOf q).toNat)
     case atStart => exact ⟨0, rfl, Nat.zero_le _, Z.out⟩
     case round =>
      obtain ⟨r, rfl, hr, hy⟩ := hrel
      have R := hID hy
      clear hy Z
      obtain ⟨c0, c1, c2, c3, c4, c5, c6, c7, u0, m0, -⟩ := GC.out _ R.out.2
      by_cases hlr : r < l.b
      ·have d1 : decide ((r : Int) < (l.b : Int)) = true := decide_eq_true (by omega)
       go_wp2_with fail
       clear c0 c1 c2 c3 c4 c5 c6 c7 u0 m0
       have hrb : (r + 1) * l.a ≤ l.b * l.a := Nat.mul_le_mul_right _ hlr
       have hrb2 : (r + 1) * (2 * l.a + 1) ≤ l.b * (2 * l.a + 1) := Nat.mul_le_mul_right _ hlr
       rw [Nat.add_mul, Nat.one_mul] at hrb hrb2
       have HRE : Hid (E2.length + r * (2 * l.a + 1) + (2 * l.a + 1) < 8388608) := hID (by have := HC2.out.2; have := HE.out; omega)
       clear hrb2
       obtain ⟨q0, hq0⟩ : ∃ q0, r * l.a = q0 := ⟨_, rfl⟩
       rw [hq0] at hrb
       have hqi : ((r : Int) * (l.a : Int)) = (q0 : Int) := by rw [← hq0]; push_cast; rfl
       have HQ := hID (And.intro hq0 hqi)
       clear hq0
       have hq1 : q0 + l.a + l.f ≤ C.length := by omega
       clear hrb
       obtain ⟨wo, hwo⟩ : ∃ wo : World, wo = wr := ⟨_, rfl⟩
       subst hwo
       go_loopw [23, 127] (fun c q wq => ∃ k : Nat, c = .int .u64 (n64 (b3I l (b3C l m C2 r) r k)) ∧ q = .int .i64 (k : Int) ∧ k ≤ l.a ∧ ArTo W0 F p (b3C l m C2 r) (b3J l (b3E l E2 r) r k) wq) (fun c q wq => l.a - (intOf q).toNat)
       case atStart => exact ⟨0, rfl, rfl, Nat.zero_le _, R.out⟩
       case round =>
        obtain ⟨k, rfl, rfl, hk3, hy⟩ := hrel
        have S := hID hy
        clear hy
        obtain ⟨c0, c1, c2, c3, c4, c5, c6, c7, u0, m0, -⟩ := GC.out _ S.out.2
        by_cases hlk : k < l.a
        ·have d2 : decide ((k : Int) < (l.a : Int)) = true := decide_eq_true (by omega)
         obtain ⟨fin, hfin⟩ : ∃ u, (b3C l m C2 r).getD (l.f + r * l.a + k) 0 = u := ⟨_, rfl⟩
         obtain ⟨sta, hsta⟩ : ∃ u, (b3C l m C2 r).getD (l.st + k) 0 = u := ⟨_, rfl⟩
         have HS3 : Hid (b3I l (b3C l m C2 r) r (k + 1) = b3I l (b3C l m C2 r) r k ||| (fin &&& sta)) := hID (by rw [b3I, hfin, hsta])
         have HV := hID (And.intro hfin hsta)
         clear hfin hsta
         go_wp2_with fail
         refine (mgetI HM.out S.out (l.f + r * l.a + k) _ fin HV.out.1 (by rw [b3C_len, HC2.out.1, HQ.out.1]; omega) (by rw [b3J_len, b3E_len]; have := HRE.out; omega) (by rw [HQ.out.1]; push_cast; rfl)).mono ?_
         rintro e v8 ⟨rfl, z1⟩
         have S1 := hID z1
         clear z1
         clear c0 c1 c2 c3 c4 c5 c6 c7 u0 m0
         obtain ⟨c0, c1, c2, c3, c4, c5, c6, c7, u0, m0, -⟩ := GC.out _ S1.out.2
         go_wp2_with fail
         refine (mgetI HM.out S1.out (l.st + k) _ sta HV.out.2 (by rw [b3C_len, HC2.out.1]; omega) (by simp only [List.length_append, List.length_cons, List.length_nil, b3J_len, b3E_len]; have := HRE.out; omega) (by push_cast; rfl)).mono ?_
         rintro e v9 ⟨rfl, z1⟩
         have S2 := hID z1
         clear z1
         clear c0 c1 c2 c3 c4 c5 c6 c7 u0 m0
         go_wp2_with fail
         go_roundw
         case rel => exact ⟨k + 1, by rw [HS3.out], rfl, by omega, S2.out⟩
         case measure => simp [intOf]; omega
        ·obtain rfl : k = l.a := by omega
         obtain ⟨bo, hbo⟩ : ∃ u, b3I l (b3C l m C2 r) r l.a = u := ⟨_, rfl⟩
         have HBO := hID hbo
         rw [hbo]
         clear hbo
         have w3 : IntKind.i64.wrap ((l.h : Int) + (r : Int)) = (l.h : Int) + (r : Int) := IntWalk.i64_in _ (by omega)
         go_wp2_with fail
         go_region_held3 (fun W => W.cell? ⟨cb, 0, none⟩ = some (.pointer (some ⟨g, 0, none⟩)) ∧ W.cell? ⟨w.heap.size, 7, none⟩ = some (.int .i64 l.h) ∧ W.cell? ⟨w.heap.size + 1, 0, none⟩ = some (.int .u64 (n64 m)))
          (first | with_reducible assumption | go_keep)
          (first
           | (go_at_call 53; refine (zero_any bo _).mono ?_; rintro e w' ⟨rfl, rfl⟩)
           | (go_at_call 52; refine (not_of (zeM bo) _).mono ?_; rintro e w' ⟨rfl, rfl⟩)
           | (go_at_call 44; refine (mputI HM.out S.out (l.h + r) _ (m &&& ~~~ (zeM bo)) (by rw [b3C_len, HC2.out.1]; omega) (by rw [b3J_len, b3E_len]; have := HRE.out; omega) (Off.refl _ _).drew (by push_cast; rfl)).mono ?_; rintro e v9 ⟨rfl, z1⟩; have T := hID z1; clear z1; obtain ⟨c0, c1, c2, c3, c4, c5, c6, c7, u0, m0, -⟩ := GC.out _ T.out.2))
         clear w3
         go_wp2_with fail
         go_roundw
         case rel => exact ⟨r + 1, rfl, by omega, by rw [b3C, b3E, HBO.out]; exact T.out⟩
         case measure => simp [intOf]; omega
      ·obtain rfl : r = l.b := by omega
       have r0 := (GC.out _ R.out.2).2.2.2.2.2.2.2.2.2.2.cell 0
       have fr := (GC.out _ R.out.2).2.2.2.2.2.2.2.2.2.2.frozen 0
       go_wp2_with fail
       have hq := GC.out _ R.out.2
       have hr2 := hq.2.2.2.2.2.2.2.2.2.2
       have hm2 := HM.out.at R.out.2
       have o5 := off_same (i := 0) (u := .int .i64 0) hr2 rfl
       have q0 : (wr.setCell ⟨w.heap.size + 2, 0, none⟩ (.int .i64 0)).cell? ⟨cb, 0, none⟩ = some (.pointer (some ⟨g, 0, none⟩)) := (o5.cell_old (by have := X2.out.2.2.2.2.2.2.lt; exact Nat.lt_of_lt_of_le this R.out.2.size) 0).trans hq.2.2.2.2.2.2.2.2.2.1
       have hr3 := hr2.to (o5.block _ hr2.lt id)
       have hm3 := hm2.1.to (o5.block _ hm2.1.lt id)
       refine leaves_cons (f := 47) (args := #[.pointer (some ⟨cb, 0, none⟩), .pointer (some ⟨w.heap.size + 2, 0, none⟩)]) (by simp) (by simp [go_sem]) ?_
       refine (ndefer_byte g cb (w.heap.size + 2) _ (macC p l.lay) _ q0 hm3 rfl hr3).mono ?_
       rintro e u' w'' ⟨rfl, rfl, o6, rfl⟩
       have hr4 := hr3.put 0 (.int .i64 0)
       have r1 : ((wr.setCell ⟨w.heap.size + 2, 0, none⟩ (.int .i64 0)).setCell ⟨w.heap.size + 2, 0, none⟩ (.int .i64 0)).cell? ⟨w.heap.size + 1 + 1, 0, none⟩ = some (.int .i64 0) := hr4.cell 0
       have YE := hID (ArTo.pre HA.out X2.out.1 (R.out.nob (o5.also o6)))
       have HF : Hid (byC l x m C = b3C l m C2 l.b ∧ byE l E = b3E l E2 l.b) := hID (by unfold byC byE; rw [HCE.out.1, HCE.out.2, HCE2.out.1, HCE2.out.2]; exact ⟨rfl, rfl⟩)
       simp [Leaves, settle, results, Tryz.results16, go_sem, r1]
       rw [HF.out.1, HF.out.2]
       exact YE.out
end Go.Proofs.YtkflicifngohcaaGreatDoor
