/-
 engine.Setup, Clear and State in general, where nothing is wrong: what they do to the cells, and their steps.
-/
import Derived.Test.YtkflicifngohcaaGreatDoorM38
import Derived.Test.YtkflicifngohcaaGreatDoorM25
import Derived.Test.YtkflicifngohcaaGreatDoorM22
set_option linter.unusedVariables false
set_option linter.unusedSimpArgs false
namespace Go.Proofs.YtkflicifngohcaaGreatDoor
open Go.RowKit
set_option maxRecDepth 100000
def bvs (L : List Nat) : List (BitVec 64) := L.map (BitVec.ofNat 64)
theorem bvs_len (L : List Nat) : (bvs L).length = L.length := by simp [bvs]
theorem bvs_eq {L : List Nat} (h : ∀ x ∈ L, x < 18446744073709551616) : (bvs L).map (fun u => Value.int .u64 (n64 u)) = wordsV L := by
 unfold bvs wordsV
 rw [List.map_map]
 apply List.map_congr_left
 intro x hx
 simp only [Function.comp, n64, BitVec.toNat_ofNat]
 rw [Nat.mod_eq_of_lt (h x hx)]
theorem rd_bvs {w : World} {G : Nat → Prop} {v : Value} {L : List Nat} (h64 : ∀ x ∈ L, x < 18446744073709551616) (h : Rd w G 1 v L.length (wordsV L)) : Rd w G 1 v (bvs L).length ((bvs L).map fun u => .int .u64 (n64 u)) := by
 rw [bvs_len, bvs_eq h64]
 exact h
theorem make_1 (W : World) : (Instr.makeSlice 23 (.int .i64 1) (.int .i64 1)).run Tryz.prog W = .ok (.slice (some ⟨W.heap.size, 0, none⟩) 1 1) (W.alloc (.cells #[.int .u64 0] 41)) := by kernel_rfl
theorem make_2 (W : World) : (Instr.makeSlice 23 (.int .i64 2) (.int .i64 2)).run Tryz.prog W = .ok (.slice (some ⟨W.heap.size, 0, none⟩) 2 2) (W.alloc (.cells #[.int .u64 0, .int .u64 0] 41)) := by kernel_rfl
theorem make_3 (W : World) : (Instr.makeSlice 23 (.int .i64 3) (.int .i64 3)).run Tryz.prog W = .ok (.slice (some ⟨W.heap.size, 0, none⟩) 3 3) (W.alloc (.cells #[.int .u64 0, .int .u64 0, .int .u64 0] 41)) := by kernel_rfl
theorem make_4 (W : World) : (Instr.makeSlice 23 (.int .i64 4) (.int .i64 4)).run Tryz.prog W = .ok (.slice (some ⟨W.heap.size, 0, none⟩) 4 4) (W.alloc (.cells #[.int .u64 0, .int .u64 0, .int .u64 0, .int .u64 0] 41)) := by kernel_rfl
theorem make_any (a : Nat) (h1 : 1 ≤ a) (h4 : a ≤ 4) (W : World) : (Instr.makeSlice 23 (.int .i64 a) (.int .i64 a)).run Tryz.prog W = .ok (.slice (some ⟨W.heap.size, 0, none⟩) a a) (W.alloc (.cells (List.replicate a (Value.int .u64 0)).toArray 41)) := by
 have : a = 1 ∨ a = 2 ∨ a = 3 ∨ a = 4 := by omega
 rcases this with rfl | rfl | rfl | rfl
 ·exact make_1 W
 ·exact make_2 W
 ·exact make_3 W
 ·exact make_4 W
theorem zeros_eq (a : Nat) : (List.replicate a (0 : BitVec 64)).map (fun u => Value.int .u64 (n64 u)) = List.replicate a (.int .u64 0) := by
 rw [List.map_replicate]
 rfl
def suC (l : LayN) (T S Fi : List Nat) (C : List (BitVec 64)) : List (BitVec 64) := setL (setL (setL (setL C l.t (bvs T)) l.s (bvs S)) l.f (bvs Fi)) l.st (List.replicate l.a 0)
def suE (l : LayN) : List Ev := ((putE l.t (256 * l.a) ++ putE l.s l.a) ++ putE l.f (l.b * l.a)) ++ putE l.st l.a
theorem putE_len (x n : Nat) : (putE x n).length = n := by simp [putE]
theorem suE_len (l : LayN) : (suE l).length = 256 * l.a + l.a + l.b * l.a + l.a := by
 unfold suE
 simp only [List.length_append, putE_len]
theorem suC_len (l : LayN) (T S Fi : List Nat) (C : List (BitVec 64)) : (suC l T S Fi C).length = C.length := by
 unfold suC
 simp only [setL_length]
set_option maxHeartbeats 1000000 in
theorem nask_setupG (l : LayN) (w : World) (gs gl : Nat) (VI VT VS VF : Value) (ids : List Int) (T S Fi : List Nat) (h : SetV w VI VT VS VF ids (l.a : Int) T S Fi) (hok : setErr ids (l.a : Int) T S Fi = 0) (hb : ids.length = l.b) (hs : Blk w gs 25 #[VI, .int .i64 l.a, VT, VS, VF]) (hl : Blk w gl 33 #[.int .i64 l.a, .int .i64 l.b, .int .i64 l.t, .int .i64 l.s, .int .i64 l.f, .int .i64 l.st, .int .i64 l.n, .int .i64 l.h]) (hZ : TzT w) :
  Calls Tryz.prog 41 #[.pointer (some ⟨gs, 0, none⟩), .pointer (some ⟨gl, 0, none⟩)] w (RetV w (.int .i64 0)) := by
 have HP0 := n_Check ids (l.a : Int) T S Fi w VI VT VS VF h hZ
 rw [hok] at HP0
 have HP := hID HP0
 obtain ⟨AI, ci, rfl, _⟩ := h.i.form
 obtain ⟨AT, ct, rfl, _⟩ := h.t.form
 obtain ⟨AS, cs, rfl, _⟩ := h.s.form
 obtain ⟨AF, cf, rfl, _⟩ := h.f.form
 have HS := hID hs
 have HL := hID hl
 clear h hZ hs hl hok HP0
 have s0 := HS.out.cell 0
 have s1 := HS.out.cell 1
 have s2 := HS.out.cell 2
 have s3 := HS.out.cell 3
 have s4 := HS.out.cell 4
 have e1 : ((l.a : Int) != (l.a : Int)) = false := by simp
 have e2 : ((ids.length : Int) != (l.b : Int)) = false := by rw [hb]; simp
 clear hb
 go_enter Tryz.func41, Tryz.ntmps41
 go_wp2_with fail
 refine HP.out.mono ?_
 rintro e w1 ⟨rfl, o1⟩
 clear s0 s1 s2 s3 s4
 have s0 := (HS.out.to (o1.block _ HS.out.lt id)).cell 0
 have s1 := (HS.out.to (o1.block _ HS.out.lt id)).cell 1
 have l0 := (HL.out.to (o1.block _ HL.out.lt id)).cell 0
 have l1 := (HL.out.to (o1.block _ HL.out.lt id)).cell 1
 have HO := hID o1
 clear o1
 go_wp2_with fail
 go_ret
 exact ⟨rfl, HO.out⟩
set_option maxHeartbeats 8000000 in
theorem nsetup_any (l : LayN) (w : World) (F : Nat → Prop) (p : Nat) (C : List (BitVec 64)) (E : List Ev) (h : Ar w F p C E) (hl : l.lay.Ok C.length) (hi : l.In C.length) (hE : E.length + (258 * l.a + l.b * l.a) < 8388608) (VI VT VS VF : Value) (ids : List Int) (T S Fi : List Nat) (hs : SetV w VI VT VS VF ids (l.a : Int) T S Fi) (hok : setErr ids (l.a : Int) T S Fi = 0) (hb : ids.length = l.b)
  (hT : Rd w (fun k => ¬ F k) 1 VT T.length (wordsV T)) (hS : Rd w (fun k => ¬ F k) 1 VS S.length (wordsV S)) (hF : Rd w (fun k => ¬ F k) 1 VF Fi.length (wordsV Fi)) (hZ : TzT w) :
  Calls Tryz.prog 15 #[.pointer (some ⟨p, 0, none⟩), .agg #[.int .i64 l.a, .int .i64 l.b, .int .i64 l.t, .int .i64 l.s, .int .i64 l.f, .int .i64 l.st, .int .i64 l.n, .int .i64 l.h], .agg #[VI, .int .i64 l.a, VT, VS, VF]] w fun e w' => e = .returned (.int .i64 0) ∧ ArTo w F p (suC l T S Fi C) (E ++ suE l) w' := by
 have hmf : ∀ (fn : Fn) (first cap : Array Value) (w : World), (Instr.makeFunc fn first cap).run Tryz.prog w = .ok (.func fn first cap) w := fun _ _ _ _ => rfl
 have HS0 := hID (And.intro hs hZ)
 have HOK := hID (And.intro hok hb)
 have HRL := hID (And.intro (rd_bvs hs.t64 hT) (And.intro (rd_bvs hs.s64 hS) (rd_bvs hs.f64 hF)))
 have HA := hID h
 have HL := hID hl
 obtain ⟨_, _, _, ⟨W, hW, _, _, hlt, hls, hlf, _⟩, _⟩ := setErr_ok hok
 obtain rfl : W = l.a := by omega
 rw [hb] at hlf
 have HLN := hID (And.intro ((bvs_len T).trans hlt) (And.intro ((bvs_len S).trans hls) ((bvs_len Fi).trans hlf)))
 obtain ⟨a1, a4, b1, b16, it, is, if_, ist, in_, ih⟩ := hi
 have hba : l.b * l.a ≤ 64 := Nat.le_trans (Nat.mul_le_mul b16 a4) (by decide)
 have HBA := hID (And.intro hba (And.intro if_ hE))
 have hst : ∃ s1 s2 : Int, (∀ W, Calls Tryz.prog 27 #[.int .i64 l.a, .int .i64 l.b] W fun e w' => e = .returned (.tuple #[.int .i64 s1, .int .i64 s2, .int .i64 0]) ∧ W = w') ∧ s1 = ((258 * l.a + l.b * l.a : Nat) : Int) := by
  refine ⟨_, _, fun W => nsteps_yes l.a l.b (by omega) (by omega) (by omega) (by omega) W, ?_⟩
  push_cast
  rfl
 obtain ⟨s1, s2, hst1, hst2⟩ := hst
 have HST := hID (And.intro hst1 hst2)
 obtain ⟨LT, hLT⟩ : ∃ LT, bvs T = LT := ⟨_, rfl⟩
 obtain ⟨LS, hLS⟩ : ∃ LS, bvs S = LS := ⟨_, rfl⟩
 obtain ⟨LF, hLF⟩ : ∃ LF, bvs Fi = LF := ⟨_, rfl⟩
 have HSU : Hid (suC l T S Fi C = setL (setL (setL (setL C l.t LT) l.s LS) l.f LF) l.st (List.replicate l.a 0)) := hID (by unfold suC; rw [hLT, hLS, hLF])
 rw [hLT, hLS, hLF] at HLN HRL
 rw [HSU.out]
 clear hLT hLS hLF HSU
 obtain ⟨AI, ci, rfl, _⟩ := hs.i.form
 obtain ⟨AT, ct, rfl, _⟩ := hs.t.form
 obtain ⟨AS, cs, rfl, _⟩ := hs.s.form
 obtain ⟨AF, cf, rfl, _⟩ := hs.f.form
 clear h hl hE hs hok hb hT hS hF hZ hW hlt hls hlf if_ hst1 hst2 hba
 go_enter_defers Tryz.func15, Tryz.ntmps15
 go_wp2_with fail
 have X0 : Hid (Off Nob w (((w.alloc (.cells #[.int .i64 l.a, .int .i64 l.b, .int .i64 l.t, .int .i64 l.s, .int .i64 l.f, .int .i64 l.st, .int .i64 l.n, .int .i64 l.h] 33)).alloc (.cells #[.slice AI ids.length ci, .int .i64 l.a, .slice AT T.length ct, .slice AS S.length cs, .slice AF Fi.length cf] 25)).alloc (.cells #[.int .i64 0] 29)) ∧ Blk (((w.alloc (.cells #[.int .i64 l.a, .int .i64 l.b, .int .i64 l.t, .int .i64 l.s, .int .i64 l.f, .int .i64 l.st, .int .i64 l.n, .int .i64 l.h] 33)).alloc (.cells #[.slice AI ids.length ci, .int .i64 l.a, .slice AT T.length ct, .slice AS S.length cs, .slice AF Fi.length cf] 25)).alloc (.cells #[.int .i64 0] 29)) w.heap.size 33 #[.int .i64 l.a, .int .i64 l.b, .int .i64 l.t, .int .i64 l.s, .int .i64 l.f, .int .i64 l.st, .int .i64 l.n, .int .i64 l.h] ∧ Blk (((w.alloc (.cells #[.int .i64 l.a, .int .i64 l.b, .int .i64 l.t, .int .i64 l.s, .int .i64 l.f, .int .i64 l.st, .int .i64 l.n, .int .i64 l.h] 33)).alloc (.cells #[.slice AI ids.length ci, .int .i64 l.a, .slice AT T.length ct, .slice AS S.length cs, .slice AF Fi.length cf] 25)).alloc (.cells #[.int .i64 0] 29)) (w.heap.size + 1) 25 #[.slice AI ids.length ci, .int .i64 l.a, .slice AT T.length ct, .slice AS S.length cs, .slice AF Fi.length cf] ∧ Blk (((w.alloc (.cells #[.int .i64 l.a, .int .i64 l.b, .int .i64 l.t, .int .i64 l.s, .int .i64 l.f, .int .i64 l.st, .int .i64 l.n, .int .i64 l.h] 33)).alloc (.cells #[.slice AI ids.length ci, .int .i64 l.a, .slice AT T.length ct, .slice AS S.length cs, .slice AF Fi.length cf] 25)).alloc (.cells #[.int .i64 0] 29)) (w.heap.size + 2) 29 #[.int .i64 0] ∧ (((w.alloc (.cells #[.int .i64 l.a, .int .i64 l.b, .int .i64 l.t, .int .i64 l.s, .int .i64 l.f, .int .i64 l.st, .int .i64 l.n, .int .i64 l.h] 33)).alloc (.cells #[.slice AI ids.length ci, .int .i64 l.a, .slice AT T.length ct, .slice AS S.length cs, .slice AF Fi.length cf] 25)).alloc (.cells #[.int .i64 0] 29)).heap.size = w.heap.size + 3) := hID ⟨(((Off.refl _ _).alloc _).alloc _).alloc _, ((Blk.new _ _ _).alloc _).alloc _, (blk_second _ _ _ _).alloc _, by
  have := Blk.new ((w.alloc (.cells #[.int .i64 l.a, .int .i64 l.b, .int .i64 l.t, .int .i64 l.s, .int .i64 l.f, .int .i64 l.st, .int .i64 l.n, .int .i64 l.h] 33)).alloc (.cells #[.slice AI ids.length ci, .int .i64 l.a, .slice AT T.length ct, .slice AS S.length cs, .slice AF Fi.length cf] 25)) 29 #[.int .i64 0]
  simpa using this, by simp⟩
 revert X0
 generalize (((w.alloc (.cells #[.int .i64 l.a, .int .i64 l.b, .int .i64 l.t, .int .i64 l.s, .int .i64 l.f, .int .i64 l.st, .int .i64 l.n, .int .i64 l.h] 33)).alloc (.cells #[.slice AI ids.length ci, .int .i64 l.a, .slice AT T.length ct, .slice AS S.length cs, .slice AF Fi.length cf] 25)).alloc (.cells #[.int .i64 0] 29)) = w0
 intro X0
 refine (HST.out.1 _).mono ?_
 rintro e w1 ⟨rfl, rfl⟩
 have c0 := X0.out.2.1.cell 0
 have c1 := X0.out.2.1.cell 1
 have c2 := X0.out.2.1.cell 2
 have c3 := X0.out.2.1.cell 3
 have c4 := X0.out.2.1.cell 4
 have c5 := X0.out.2.1.cell 5
 have c6 := X0.out.2.1.cell 6
 have c7 := X0.out.2.1.cell 7
 have r0 := X0.out.2.2.2.1.cell 0
 have fr := X0.out.2.2.2.1.frozen 0
 go_wp2_with fail
 have HBG := hID (nbegin_setup l.lay w0 F p C E (HA.out.keep X0.out.1 (fun _ _ hn => hn)) HL.out s1 (by rw [HST.out.2]; exact Int.natCast_nonneg _) (by rw [HST.out.2]; have := HBA.out.2.2; omega) ⟨w.heap.size + 1, 0, none⟩ ⟨w.heap.size, 0, none⟩ (fun W o => nask_setupG l W (w.heap.size + 1) w.heap.size _ _ _ _ ids T S Fi (HS0.out.1.keep (X0.out.1.also o)) HOK.out.1 HOK.out.2 (X0.out.2.2.1.to (o.block _ X0.out.2.2.1.lt id)) (X0.out.2.1.to (o.block _ X0.out.2.1.lt id)) (tz_keep HS0.out.2 (X0.out.1.also o))))
 refine HBG.out.mono ?_
 rintro e w1 ⟨g, rfl, hg1, hg2, o1⟩
 have X1 := hID (And.intro (X0.out.1.also o1) (And.intro (X0.out.2.1.to (o1.block _ X0.out.2.1.lt id)) (And.intro (X0.out.2.2.1.to (o1.block _ X0.out.2.2.1.lt id)) (And.intro (X0.out.2.2.2.1.to (o1.block _ X0.out.2.2.2.1.lt id)) (And.intro hg2 (And.intro hg1 o1.size))))))
 clear c0 c1 c2 c3 c4 c5 c6 c7 r0 fr HBG hg1 hg2 o1
 have R0 := hID (X1.out.2.2.2.1.alloc (.cells #[.pointer (some ⟨g, 0, none⟩)] 107))
 have hO := (Off.alloc (Off.refl Nob w1) (.cells #[.pointer (some ⟨g, 0, none⟩)] 107)).also (off_same (i := 0) (u := .int .i64 0) R0.out rfl)
 have r0 := R0.out.cell 0
 have fr := R0.out.frozen 0
 have hMV : Blk ((w1.alloc (.cells #[.pointer (some ⟨g, 0, none⟩)] 107)).setCell ⟨w.heap.size + 2, 0, none⟩ (.int .i64 0)) w1.heap.size 107 #[.pointer (some ⟨g, 0, none⟩)] := (Blk.new w1 107 #[.pointer (some ⟨g, 0, none⟩)]).far (by have := X1.out.2.2.2.1.lt; simp; omega) _
 have r0' : ((w1.alloc (.cells #[.pointer (some ⟨g, 0, none⟩)] 107)).setCell ⟨w.heap.size + 2, 0, none⟩ (.int .i64 0)).cell? ⟨w.heap.size + 2, 0, none⟩ = some (.int .i64 0) := (X1.out.2.2.2.1.to (hO.block _ X1.out.2.2.2.1.lt id)).cell 0
 have fr' : ((w1.alloc (.cells #[.pointer (some ⟨g, 0, none⟩)] 107)).setCell ⟨w.heap.size + 2, 0, none⟩ (.int .i64 0)).frozen? ⟨w.heap.size + 2, 0, none⟩ = false := (X1.out.2.2.2.1.to (hO.block _ X1.out.2.2.2.1.lt id)).frozen 0
 have m0 := hMV.cell 0
 have X2 : Hid (Off Nob w ((w1.alloc (.cells #[.pointer (some ⟨g, 0, none⟩)] 107)).setCell ⟨w.heap.size + 2, 0, none⟩ (.int .i64 0)) ∧ Blk ((w1.alloc (.cells #[.pointer (some ⟨g, 0, none⟩)] 107)).setCell ⟨w.heap.size + 2, 0, none⟩ (.int .i64 0)) w.heap.size 33 #[.int .i64 l.a, .int .i64 l.b, .int .i64 l.t, .int .i64 l.s, .int .i64 l.f, .int .i64 l.st, .int .i64 l.n, .int .i64 l.h] ∧ Blk ((w1.alloc (.cells #[.pointer (some ⟨g, 0, none⟩)] 107)).setCell ⟨w.heap.size + 2, 0, none⟩ (.int .i64 0)) (w.heap.size + 1) 25 #[.slice AI ids.length ci, .int .i64 l.a, .slice AT T.length ct, .slice AS S.length cs, .slice AF Fi.length cf] ∧ Blk ((w1.alloc (.cells #[.pointer (some ⟨g, 0, none⟩)] 107)).setCell ⟨w.heap.size + 2, 0, none⟩ (.int .i64 0)) (w.heap.size + 2) 29 #[.int .i64 0] ∧ Blk ((w1.alloc (.cells #[.pointer (some ⟨g, 0, none⟩)] 107)).setCell ⟨w.heap.size + 2, 0, none⟩ (.int .i64 0)) g 112 (macC p l.lay) ∧ w.heap.size ≤ g ∧ Blk ((w1.alloc (.cells #[.pointer (some ⟨g, 0, none⟩)] 107)).setCell ⟨w.heap.size + 2, 0, none⟩ (.int .i64 0)) w1.heap.size 107 #[.pointer (some ⟨g, 0, none⟩)]) := hID ⟨X1.out.1.also hO, X1.out.2.1.to (hO.block _ X1.out.2.1.lt id), X1.out.2.2.1.to (hO.block _ X1.out.2.2.1.lt id), X1.out.2.2.2.1.to (hO.block _ X1.out.2.2.2.1.lt id), X1.out.2.2.2.2.1.to (hO.block _ X1.out.2.2.2.2.1.lt id), by have := X0.out.1.size; have := X1.out.2.2.2.2.2.1; omega, hMV⟩
 have c0 := X2.out.2.1.cell 0
 have c2 := X2.out.2.1.cell 2
 have s2 := X2.out.2.2.1.cell 2
 clear hO hMV R0
 go_wp2_with fail
 obtain ⟨cb, hcb⟩ : ∃ cb, w1.heap.size = cb := ⟨_, rfl⟩
 have hcb2 : w.heap.size ≤ cb := by rw [← hcb]; exact X1.out.1.size
 rw [hcb] at X2 ⊢
 clear c0 c2 s2 r0 fr r0' fr' m0 hcb X1 X0
 revert X2
 generalize ((w1.alloc (.cells #[.pointer (some ⟨g, 0, none⟩)] 107)).setCell ⟨w.heap.size + 2, 0, none⟩ (.int .i64 0)) = W0
 intro X2
 have hgF : ∀ k, w.heap.size ≤ k → ¬ F k := fun k hk hf => by have := HA.out.lt k hf; omega
 have GC : Hid (∀ W, Off F W0 W → W.cell? ⟨w.heap.size, 0, none⟩ = some (.int .i64 l.a) ∧ W.cell? ⟨w.heap.size, 2, none⟩ = some (.int .i64 l.t) ∧ W.cell? ⟨w.heap.size, 3, none⟩ = some (.int .i64 l.s) ∧ W.cell? ⟨w.heap.size, 4, none⟩ = some (.int .i64 l.f) ∧ W.cell? ⟨w.heap.size, 5, none⟩ = some (.int .i64 l.st) ∧ W.cell? ⟨w.heap.size + 1, 2, none⟩ = some (.slice AT T.length ct) ∧ W.cell? ⟨w.heap.size + 1, 3, none⟩ = some (.slice AS S.length cs) ∧ W.cell? ⟨w.heap.size + 1, 4, none⟩ = some (.slice AF Fi.length cf) ∧ W.cell? ⟨cb, 0, none⟩ = some (.pointer (some ⟨g, 0, none⟩)) ∧ Blk W g 112 (macC p l.lay) ∧ Blk W (w.heap.size + 2) 29 #[.int .i64 0]) := hID (fun W o => by
  have h1 := X2.out.2.1.to (o.block _ X2.out.2.1.lt (hgF _ (by omega)))
  have h2 := X2.out.2.2.1.to (o.block _ X2.out.2.2.1.lt (hgF _ (by omega)))
  have h3 := X2.out.2.2.2.2.2.2.to (o.block _ X2.out.2.2.2.2.2.2.lt (hgF _ hcb2))
  exact ⟨h1.cell 0, h1.cell 2, h1.cell 3, h1.cell 4, h1.cell 5, h2.cell 2, h2.cell 3, h2.cell 4, h3.cell 0, X2.out.2.2.2.2.1.to (o.block _ X2.out.2.2.2.2.1.lt (hgF _ X2.out.2.2.2.2.2.1)), X2.out.2.2.2.1.to (o.block _ X2.out.2.2.2.1.lt (hgF _ (by omega)))⟩)
 have HG := hID (show g < W0.heap.size ∧ ¬ F g from ⟨X2.out.2.2.2.2.1.lt, hgF _ X2.out.2.2.2.2.2.1⟩)
 have HLT := hID (rd_lt (HRL.out.1.keep X2.out.1 (fun _ _ hn => hn)))
 have HLS := hID (rd_lt (HRL.out.2.1.keep X2.out.1 (fun _ _ hn => hn)))
 have HLF := hID (rd_lt (HRL.out.2.2.keep X2.out.1 (fun _ _ hn => hn)))
 have Y0 := hID (ArTo.refl (HA.out.keep X2.out.1 (fun _ _ hn => hn)))
 clear hgF
 have HP0 := hID (nput g p l.t (macC p l.lay) LT (C) (E) (Grow F W0 W0) W0 _ Y0.out.1 (GC.out _ Y0.out.2).2.2.2.2.2.2.2.2.2.1 rfl rfl (fun hg => hg.elim HG.out.2 (fun h => by have := HG.out.1; omega)) (rd_on HLT.out Y0.out.2) (by (try simp only [setL_length]); rw [HLN.out.1]; first | omega | exact HBA.out.2.1) (by (try simp only [List.length_append, putE_len]); rw [HLN.out.1]; have := HBA.out.2.2; omega))
 rw [HLN.out.1] at HP0
 refine Calls.mono (R := fun e w' => e = .returned (.tuple #[]) ∧ ArTo W0 (Grow F W0 W0) p (setL (C) l.t LT) ((E) ++ putE l.t (256 * l.a)) w') HP0.out ?_
 rintro e v1 ⟨rfl, a1'⟩
 have Y1 := hID (Y0.out.trans a1')
 clear a1' Y0 HP0
 obtain ⟨c0, c2, c3, c4, c5, t2, t3, t4, m0, -, -⟩ := GC.out _ Y1.out.2
 go_wp2_with fail
 clear c0 c2 c3 c4 c5 t2 t3 t4 m0
 have HP1 := hID (nput g p l.s (macC p l.lay) LS (setL (C) l.t LT) ((E) ++ putE l.t (256 * l.a)) (Grow F W0 v1) v1 _ Y1.out.1 (GC.out _ Y1.out.2).2.2.2.2.2.2.2.2.2.1 rfl rfl (fun hg => hg.elim HG.out.2 (fun h => by have := HG.out.1; omega)) (rd_on HLS.out Y1.out.2) (by (try simp only [setL_length]); rw [HLN.out.2.1]; first | omega | exact HBA.out.2.1) (by (try simp only [List.length_append, putE_len]); rw [HLN.out.2.1]; have := HBA.out.2.2; omega))
 rw [HLN.out.2.1] at HP1
 refine Calls.mono (R := fun e w' => e = .returned (.tuple #[]) ∧ ArTo v1 (Grow F W0 v1) p (setL (setL (C) l.t LT) l.s LS) (((E) ++ putE l.t (256 * l.a)) ++ putE l.s (l.a)) w') HP1.out ?_
 rintro e v2 ⟨rfl, a1'⟩
 have Y2 := hID (Y1.out.trans a1')
 clear a1' Y1 HP1
 obtain ⟨c0, c2, c3, c4, c5, t2, t3, t4, m0, -, -⟩ := GC.out _ Y2.out.2
 go_wp2_with fail
 clear c0 c2 c3 c4 c5 t2 t3 t4 m0
 have HP2 := hID (nput g p l.f (macC p l.lay) LF (setL (setL (C) l.t LT) l.s LS) (((E) ++ putE l.t (256 * l.a)) ++ putE l.s (l.a)) (Grow F W0 v2) v2 _ Y2.out.1 (GC.out _ Y2.out.2).2.2.2.2.2.2.2.2.2.1 rfl rfl (fun hg => hg.elim HG.out.2 (fun h => by have := HG.out.1; omega)) (rd_on HLF.out Y2.out.2) (by (try simp only [setL_length]); rw [HLN.out.2.2]; first | omega | exact HBA.out.2.1) (by (try simp only [List.length_append, putE_len]); rw [HLN.out.2.2]; have := HBA.out.2.2; omega))
 rw [HLN.out.2.2] at HP2
 refine Calls.mono (R := fun e w' => e = .returned (.tuple #[]) ∧ ArTo v2 (Grow F W0 v2) p (setL (setL (setL (C) l.t LT) l.s LS) l.f LF) ((((E) ++ putE l.t (256 * l.a)) ++ putE l.s (l.a)) ++ putE l.f (l.b * l.a)) w') HP2.out ?_
 rintro e v3 ⟨rfl, a1'⟩
 have Y3 := hID (Y2.out.trans a1')
 clear a1' Y2 HP2
 obtain ⟨c0, c2, c3, c4, c5, t2, t3, t4, m0, -, -⟩ := GC.out _ Y3.out.2
 go_wp2_with fail
 clear c0 c2 c3 c4 c5 t2 t3 t4 m0
 obtain ⟨c0, c2, c3, c4, c5, t2, t3, t4, m0, -, -⟩ := GC.out _ Y3.out.2
 have hms := make_any l.a a1 a4
 have HP4 : Hid (∀ V, V = (v3.alloc (.cells (List.replicate l.a (Value.int .u64 0)).toArray 41)).drew → Calls Tryz.prog 44 #[.pointer (some ⟨g, 0, none⟩), .int .i64 l.st, .slice (some ⟨v3.heap.size, 0, none⟩) l.a l.a] V fun e w' => e = .returned (.tuple #[]) ∧ ArTo W0 F p (setL (setL (setL (setL (C) l.t LT) l.s LS) l.f LF) l.st (List.replicate l.a 0)) (E ++ suE l) w') := hID (fun V hV => by
  have o : Off Nob v3 V := by rw [hV]; exact (Off.alloc (Off.refl Nob v3) _).drew
  have hb := (GC.out _ Y3.out.2).2.2.2.2.2.2.2.2.2.1
  have hg : ¬ Grow F W0 v3 g := fun hg => hg.elim HG.out.2 (fun h => by have := HG.out.1; omega)
  have hl : Rd V (fun k => ¬ Grow F W0 v3 k) 1 (.slice (some ⟨v3.heap.size, 0, none⟩) l.a l.a) (List.replicate l.a (0 : BitVec 64)).length ((List.replicate l.a (0 : BitVec 64)).map fun u => .int .u64 (n64 u)) := by
   rw [hV, zeros_eq, List.length_replicate]
   exact ⟨_, _, rfl, by unfold maxLen; omega, by simp, fun _ => ⟨v3.heap.size, 0, rfl, fun h => by have := Y3.out.1.lt _ h; omega, by simp, fun j u hu => by
    rw [Nat.zero_add]
    refine ((Blk.new v3 41 (List.replicate l.a (Value.int .u64 0)).toArray).cell j).trans ?_
    rw [List.getElem?_toArray]
    exact hu⟩⟩
  refine (nput g p l.st (macC p l.lay) (List.replicate l.a 0) _ _ (Grow F W0 v3) V _ (Y3.out.1.keep o (fun _ _ hn => hn)) (hb.to (o.block _ hb.lt id)) rfl rfl hg hl (by simp only [setL_length, List.length_replicate]; exact ist) (by simp only [List.length_append, putE_len, List.length_replicate]; have := HBA.out.2.2; omega)).mono ?_
  rintro e w' ⟨rfl, a⟩
  refine ⟨rfl, ?_⟩
  have k := Y3.out.trans (ArTo.pre Y3.out.1 o a)
  rw [List.length_replicate] at k
  have e1 : ((((E) ++ putE l.t (256 * l.a)) ++ putE l.s (l.a)) ++ putE l.f (l.b * l.a)) ++ putE l.st l.a = E ++ suE l := by simp [suE, List.append_assoc]
  rw [← e1]
  exact k)
 go_region_held3 (fun W => W.cell? ⟨cb, 0, none⟩ = some (.pointer (some ⟨g, 0, none⟩)) ∧ W.cell? ⟨w.heap.size, 5, none⟩ = some (.int .i64 l.st) ∧ W.cell? ⟨w.heap.size, 0, none⟩ = some (.int .i64 l.a))
  (first | with_reducible assumption | go_keep)
  (first | (go_at_call 44; refine (HP4.out _ rfl).mono ?_; rintro e v4 ⟨rfl, a4'⟩; have Y4 := hID a4'; clear a4'; obtain ⟨c0, c2, c3, c4, c5, t2, t3, t4, m0, -, -⟩ := GC.out _ Y4.out.2))
 have r0 := (GC.out _ Y4.out.2).2.2.2.2.2.2.2.2.2.2.cell 0
 have fr := (GC.out _ Y4.out.2).2.2.2.2.2.2.2.2.2.2.frozen 0
 go_wp2_with fail
 have hq := GC.out _ Y4.out.2
 have hr := hq.2.2.2.2.2.2.2.2.2.2
 have hm := hq.2.2.2.2.2.2.2.2.2.1
 have o5 := off_same (i := 0) (u := .int .i64 0) hr rfl
 have q0 : (v4.setCell ⟨w.heap.size + 2, 0, none⟩ (.int .i64 0)).cell? ⟨cb, 0, none⟩ = some (.pointer (some ⟨g, 0, none⟩)) := (o5.cell_old (by have := X2.out.2.2.2.2.2.2.lt; exact Nat.lt_of_lt_of_le this Y4.out.2.size) 0).trans hq.2.2.2.2.2.2.2.2.1
 have hr2 := hr.to (o5.block _ hr.lt id)
 have hm2 := hm.to (o5.block _ hm.lt id)
 refine leaves_cons (f := 43) (args := #[.pointer (some ⟨cb, 0, none⟩), .pointer (some ⟨w.heap.size + 2, 0, none⟩)]) (by simp) (by simp [go_sem]) ?_
 refine (ndefer_setup g cb (w.heap.size + 2) _ (macC p l.lay) _ q0 hm2 rfl hr2).mono ?_
 rintro e u' w'' ⟨rfl, rfl, o6, rfl⟩
 have hr3 := hr2.put 0 (.int .i64 0)
 have r1 : ((v4.setCell ⟨w.heap.size + 2, 0, none⟩ (.int .i64 0)).setCell ⟨w.heap.size + 2, 0, none⟩ (.int .i64 0)).cell? ⟨w.heap.size + 1 + 1, 0, none⟩ = some (.int .i64 0) := hr3.cell 0
 have YE := hID (ArTo.pre HA.out X2.out.1 (Y4.out.trans (ArTo.off Y4.out.1 (o5.also o6))))
 simp [Leaves, settle, results, Tryz.results15, go_sem, r1]
 exact YE.out
end Go.Proofs.YtkflicifngohcaaGreatDoor

namespace Go.Proofs.YtkflicifngohcaaGreatDoor
open Go.RowKit
set_option maxRecDepth 100000
def clC (l : LayN) (C : List (BitVec 64)) : List (BitVec 64) := setL C l.st (List.replicate l.a 0)
def clE (l : LayN) : List Ev := putE l.st l.a
set_option maxHeartbeats 8000000 in
theorem nclear_any (l : LayN) (w : World) (F : Nat → Prop) (p : Nat) (C : List (BitVec 64)) (E : List Ev) (h : Ar w F p C E) (hl : l.lay.Ok C.length) (hi : l.In C.length) (hE : E.length + l.a < 8388608) :
  Calls Tryz.prog 17 #[.pointer (some ⟨p, 0, none⟩), .agg #[.int .i64 l.a, .int .i64 l.b, .int .i64 l.t, .int .i64 l.s, .int .i64 l.f, .int .i64 l.st, .int .i64 l.n, .int .i64 l.h]] w fun e w' => e = .returned (.int .i64 0) ∧ ArTo w F p (clC l C) (E ++ clE l) w' := by
 have hmf : ∀ (fn : Fn) (first cap : Array Value) (w : World), (Instr.makeFunc fn first cap).run Tryz.prog w = .ok (.func fn first cap) w := fun _ _ _ _ => rfl
 have HA := hID h
 have HL := hID hl
 have HE := hID hE
 obtain ⟨a1, a4, b1, b16, it, is, if_, ist, in_, ih⟩ := hi
 clear h hl hE
 go_enter_defers Tryz.func17, Tryz.ntmps17
 have X0 : Hid (Off Nob w ((w.alloc (.cells #[.int .i64 l.a, .int .i64 l.b, .int .i64 l.t, .int .i64 l.s, .int .i64 l.f, .int .i64 l.st, .int .i64 l.n, .int .i64 l.h] 33)).alloc (.cells #[.int .i64 0] 29)) ∧ Blk ((w.alloc (.cells #[.int .i64 l.a, .int .i64 l.b, .int .i64 l.t, .int .i64 l.s, .int .i64 l.f, .int .i64 l.st, .int .i64 l.n, .int .i64 l.h] 33)).alloc (.cells #[.int .i64 0] 29)) w.heap.size 33 #[.int .i64 l.a, .int .i64 l.b, .int .i64 l.t, .int .i64 l.s, .int .i64 l.f, .int .i64 l.st, .int .i64 l.n, .int .i64 l.h] ∧ Blk ((w.alloc (.cells #[.int .i64 l.a, .int .i64 l.b, .int .i64 l.t, .int .i64 l.s, .int .i64 l.f, .int .i64 l.st, .int .i64 l.n, .int .i64 l.h] 33)).alloc (.cells #[.int .i64 0] 29)) (w.heap.size + 1) 29 #[.int .i64 0] ∧ ((w.alloc (.cells #[.int .i64 l.a, .int .i64 l.b, .int .i64 l.t, .int .i64 l.s, .int .i64 l.f, .int .i64 l.st, .int .i64 l.n, .int .i64 l.h] 33)).alloc (.cells #[.int .i64 0] 29)).heap.size = w.heap.size + 2) := hID ⟨((Off.refl _ _).alloc _).alloc _, (Blk.new _ _ _).alloc _, blk_second _ _ _ _, by simp⟩
 go_wp2_with fail
 revert X0
 generalize ((w.alloc (.cells #[.int .i64 l.a, .int .i64 l.b, .int .i64 l.t, .int .i64 l.s, .int .i64 l.f, .int .i64 l.st, .int .i64 l.n, .int .i64 l.h] 33)).alloc (.cells #[.int .i64 0] 29)) = w0
 intro X0
 have c0 := X0.out.2.1.cell 0
 have c1 := X0.out.2.1.cell 1
 have c2 := X0.out.2.1.cell 2
 have c3 := X0.out.2.1.cell 3
 have c4 := X0.out.2.1.cell 4
 have c5 := X0.out.2.1.cell 5
 have c6 := X0.out.2.1.cell 6
 have c7 := X0.out.2.1.cell 7
 have r0 := X0.out.2.2.1.cell 0
 have fr := X0.out.2.2.1.frozen 0
 have HBG := hID (nbegin_none l.lay w0 F p C E (HA.out.keep X0.out.1 (fun _ _ hn => hn)) HL.out (l.a : Int) (by omega) (by have := HE.out; omega) (fun W _ => nask_none W))
 go_wp2_with fail
 refine HBG.out.mono ?_
 rintro e w1 ⟨g, rfl, hg1, hg2, o1⟩
 have X1 := hID (And.intro (X0.out.1.also o1) (And.intro (X0.out.2.1.to (o1.block _ X0.out.2.1.lt id)) (And.intro (X0.out.2.2.1.to (o1.block _ X0.out.2.2.1.lt id)) (And.intro hg2 (And.intro hg1 o1.size)))))
 clear c0 c1 c2 c3 c4 c5 c6 c7 r0 fr HBG hg1 hg2 o1
 have R0 := hID (X1.out.2.2.1.alloc (.cells #[.pointer (some ⟨g, 0, none⟩)] 107))
 have hO := (Off.alloc (Off.refl Nob w1) (.cells #[.pointer (some ⟨g, 0, none⟩)] 107)).also (off_same (i := 0) (u := .int .i64 0) R0.out rfl)
 have r0 := R0.out.cell 0
 have fr := R0.out.frozen 0
 have hMV : Blk ((w1.alloc (.cells #[.pointer (some ⟨g, 0, none⟩)] 107)).setCell ⟨w.heap.size + 1, 0, none⟩ (.int .i64 0)) w1.heap.size 107 #[.pointer (some ⟨g, 0, none⟩)] := (Blk.new w1 107 #[.pointer (some ⟨g, 0, none⟩)]).far (by have := X1.out.2.2.1.lt; simp; omega) _
 have r0' : ((w1.alloc (.cells #[.pointer (some ⟨g, 0, none⟩)] 107)).setCell ⟨w.heap.size + 1, 0, none⟩ (.int .i64 0)).cell? ⟨w.heap.size + 1, 0, none⟩ = some (.int .i64 0) := (X1.out.2.2.1.to (hO.block _ X1.out.2.2.1.lt id)).cell 0
 have fr' : ((w1.alloc (.cells #[.pointer (some ⟨g, 0, none⟩)] 107)).setCell ⟨w.heap.size + 1, 0, none⟩ (.int .i64 0)).frozen? ⟨w.heap.size + 1, 0, none⟩ = false := (X1.out.2.2.1.to (hO.block _ X1.out.2.2.1.lt id)).frozen 0
 have m0 := hMV.cell 0
 have X2 : Hid (Off Nob w ((w1.alloc (.cells #[.pointer (some ⟨g, 0, none⟩)] 107)).setCell ⟨w.heap.size + 1, 0, none⟩ (.int .i64 0)) ∧ Blk ((w1.alloc (.cells #[.pointer (some ⟨g, 0, none⟩)] 107)).setCell ⟨w.heap.size + 1, 0, none⟩ (.int .i64 0)) w.heap.size 33 #[.int .i64 l.a, .int .i64 l.b, .int .i64 l.t, .int .i64 l.s, .int .i64 l.f, .int .i64 l.st, .int .i64 l.n, .int .i64 l.h] ∧ Blk ((w1.alloc (.cells #[.pointer (some ⟨g, 0, none⟩)] 107)).setCell ⟨w.heap.size + 1, 0, none⟩ (.int .i64 0)) (w.heap.size + 1) 29 #[.int .i64 0] ∧ Blk ((w1.alloc (.cells #[.pointer (some ⟨g, 0, none⟩)] 107)).setCell ⟨w.heap.size + 1, 0, none⟩ (.int .i64 0)) g 112 (macC p l.lay) ∧ w.heap.size ≤ g ∧ Blk ((w1.alloc (.cells #[.pointer (some ⟨g, 0, none⟩)] 107)).setCell ⟨w.heap.size + 1, 0, none⟩ (.int .i64 0)) w1.heap.size 107 #[.pointer (some ⟨g, 0, none⟩)]) := hID ⟨X1.out.1.also hO, X1.out.2.1.to (hO.block _ X1.out.2.1.lt id), X1.out.2.2.1.to (hO.block _ X1.out.2.2.1.lt id), X1.out.2.2.2.1.to (hO.block _ X1.out.2.2.2.1.lt id), by have := X0.out.1.size; have := X1.out.2.2.2.2.1; omega, hMV⟩
 clear hO hMV R0
 go_wp2_with fail
 obtain ⟨cb, hcb⟩ : ∃ cb, w1.heap.size = cb := ⟨_, rfl⟩
 have hcb2 : w.heap.size ≤ cb := by rw [← hcb]; exact X1.out.1.size
 rw [hcb] at X2 ⊢
 clear r0 fr r0' fr' m0 hcb X1 X0
 revert X2
 generalize ((w1.alloc (.cells #[.pointer (some ⟨g, 0, none⟩)] 107)).setCell ⟨w.heap.size + 1, 0, none⟩ (.int .i64 0)) = W0
 intro X2
 have hgF : ∀ k, w.heap.size ≤ k → ¬ F k := fun k hk hf => by have := HA.out.lt k hf; omega
 have GC : Hid (∀ W, Off F W0 W → W.cell? ⟨w.heap.size, 0, none⟩ = some (.int .i64 l.a) ∧ W.cell? ⟨w.heap.size, 5, none⟩ = some (.int .i64 l.st) ∧ W.cell? ⟨cb, 0, none⟩ = some (.pointer (some ⟨g, 0, none⟩)) ∧ Blk W g 112 (macC p l.lay) ∧ Blk W (w.heap.size + 1) 29 #[.int .i64 0]) := hID (fun W o => by
  have h1 := X2.out.2.1.to (o.block _ X2.out.2.1.lt (hgF _ (by omega)))
  have h3 := X2.out.2.2.2.2.2.to (o.block _ X2.out.2.2.2.2.2.lt (hgF _ hcb2))
  exact ⟨h1.cell 0, h1.cell 5, h3.cell 0, X2.out.2.2.2.1.to (o.block _ X2.out.2.2.2.1.lt (hgF _ X2.out.2.2.2.2.1)), X2.out.2.2.1.to (o.block _ X2.out.2.2.1.lt (hgF _ (by omega)))⟩)
 have HG := hID (show g < W0.heap.size ∧ ¬ F g from ⟨X2.out.2.2.2.1.lt, hgF _ X2.out.2.2.2.2.1⟩)
 have Y0 := hID (ArTo.refl (HA.out.keep X2.out.1 (fun _ _ hn => hn)))
 clear hgF
 obtain ⟨c0, c5, m0, -, -⟩ := GC.out _ Y0.out.2
 have hms := make_any l.a a1 a4
 have HP4 : Hid (∀ V, V = (W0.alloc (.cells (List.replicate l.a (Value.int .u64 0)).toArray 41)).drew → Calls Tryz.prog 44 #[.pointer (some ⟨g, 0, none⟩), .int .i64 l.st, .slice (some ⟨W0.heap.size, 0, none⟩) l.a l.a] V fun e w' => e = .returned (.tuple #[]) ∧ ArTo W0 F p (clC l C) (E ++ clE l) w') := hID (fun V hV => by
  have o : Off Nob W0 V := by rw [hV]; exact (Off.alloc (Off.refl Nob W0) _).drew
  have hb := (GC.out _ Y0.out.2).2.2.2.1
  have hg : ¬ Grow F W0 W0 g := fun hg => hg.elim HG.out.2 (fun h => by have := HG.out.1; omega)
  have hl : Rd V (fun k => ¬ Grow F W0 W0 k) 1 (.slice (some ⟨W0.heap.size, 0, none⟩) l.a l.a) (List.replicate l.a (0 : BitVec 64)).length ((List.replicate l.a (0 : BitVec 64)).map fun u => .int .u64 (n64 u)) := by
   rw [hV, zeros_eq, List.length_replicate]
   exact ⟨_, _, rfl, by unfold maxLen; omega, by simp, fun _ => ⟨W0.heap.size, 0, rfl, fun h => by have := Y0.out.1.lt _ h; omega, by simp, fun j u hu => by
    rw [Nat.zero_add]
    refine ((Blk.new W0 41 (List.replicate l.a (Value.int .u64 0)).toArray).cell j).trans ?_
    rw [List.getElem?_toArray]
    exact hu⟩⟩
  refine (nput g p l.st (macC p l.lay) (List.replicate l.a 0) _ _ (Grow F W0 W0) V _ (Y0.out.1.keep o (fun _ _ hn => hn)) (hb.to (o.block _ hb.lt id)) rfl rfl hg hl (by rw [List.length_replicate]; exact ist) (by rw [List.length_replicate]; exact HE.out)).mono ?_
  rintro e w' ⟨rfl, a⟩
  refine ⟨rfl, ?_⟩
  have k := Y0.out.trans (ArTo.pre Y0.out.1 o a)
  rw [List.length_replicate] at k
  exact k)
 go_region_held3 (fun W => W.cell? ⟨cb, 0, none⟩ = some (.pointer (some ⟨g, 0, none⟩)) ∧ W.cell? ⟨w.heap.size, 5, none⟩ = some (.int .i64 l.st) ∧ W.cell? ⟨w.heap.size, 0, none⟩ = some (.int .i64 l.a))
  (first | with_reducible assumption | go_keep)
  (first | (go_at_call 44; refine (HP4.out _ rfl).mono ?_; rintro e v4 ⟨rfl, a4'⟩; have Y4 := hID a4'; clear a4'; obtain ⟨c0, c5, m0, -, -⟩ := GC.out _ Y4.out.2))
 have r0 := (GC.out _ Y4.out.2).2.2.2.2.cell 0
 have fr := (GC.out _ Y4.out.2).2.2.2.2.frozen 0
 go_wp2_with fail
 have hq := GC.out _ Y4.out.2
 have hr := hq.2.2.2.2
 have hm := hq.2.2.2.1
 have o5 := off_same (i := 0) (u := .int .i64 0) hr rfl
 have q0 : (v4.setCell ⟨w.heap.size + 1, 0, none⟩ (.int .i64 0)).cell? ⟨cb, 0, none⟩ = some (.pointer (some ⟨g, 0, none⟩)) := (o5.cell_old (by have := X2.out.2.2.2.2.2.lt; exact Nat.lt_of_lt_of_le this Y4.out.2.size) 0).trans hq.2.2.1
 have hr2 := hr.to (o5.block _ hr.lt id)
 have hm2 := hm.to (o5.block _ hm.lt id)
 refine leaves_cons (f := 55) (args := #[.pointer (some ⟨cb, 0, none⟩), .pointer (some ⟨w.heap.size + 1, 0, none⟩)]) (by simp) (by simp [go_sem]) ?_
 refine (ndefer_clear g cb (w.heap.size + 1) _ (macC p l.lay) _ q0 hm2 rfl hr2).mono ?_
 rintro e u' w'' ⟨rfl, rfl, o6, rfl⟩
 have hr3 := hr2.put 0 (.int .i64 0)
 have r1 : ((v4.setCell ⟨w.heap.size + 1, 0, none⟩ (.int .i64 0)).setCell ⟨w.heap.size + 1, 0, none⟩ (.int .i64 0)).cell? ⟨w.heap.size + 1, 0, none⟩ = some (.int .i64 0) := hr3.cell 0
 have YE := hID (ArTo.pre HA.out X2.out.1 (Y4.out.trans (ArTo.off Y4.out.1 (o5.also o6))))
 simp [Leaves, settle, results, Tryz.results17, go_sem, r1]
 exact YE.out
theorem own_shape {w : World} {base n size : Nat} {t : TypeId} {v : Value} {L : List Value} (h : w.ownsRow base t size v n L) : ∃ A c, v = .slice A n c := by
 rcases h.2 with ⟨rfl, h0⟩ | ⟨g, cap, cur, rfl, _⟩
 ·exact ⟨none, 0, by rw [h0]⟩
 ·exact ⟨_, cap, rfl⟩
def stL (l : LayN) (C : List (BitVec 64)) (k : Nat) : List (BitVec 64) := (List.range k).map (fun j => C.getD (l.st + j) 0)
theorem stL_succ (l : LayN) (C : List (BitVec 64)) (k : Nat) : stL l C (k + 1) = stL l C k ++ [C.getD (l.st + k) 0] := by
 unfold stL
 rw [List.range_succ, List.map_append]
 rfl
set_option maxHeartbeats 8000000 in
theorem nstate_any (l : LayN) (w : World) (F : Nat → Prop) (p : Nat) (C : List (BitVec 64)) (E : List Ev) (h : Ar w F p C E) (hl : l.lay.Ok C.length) (hi : l.In C.length) (hE : E.length + l.a < 8388608) :
  Calls Tryz.prog 18 #[.pointer (some ⟨p, 0, none⟩), .agg #[.int .i64 l.a, .int .i64 l.b, .int .i64 l.t, .int .i64 l.s, .int .i64 l.f, .int .i64 l.st, .int .i64 l.n, .int .i64 l.h]] w fun e w' => (∃ v, e = .returned (.tuple #[v, .int .i64 0]) ∧ Rd w' (fun k => w.heap.size ≤ k) 1 v l.a (u64s (stL l C l.a))) ∧ ArTo w F p C (ldE l.st E l.a) w' := by
 obtain ⟨i_u64, h_u64, z_u64, s_u64, b_u64⟩ := info_parts Tryz.infoU64
 have HA := hID h
 have HL := hID hl
 have HE := hID hE
 obtain ⟨a1, a4, b1, b16, it, is, if_, ist, in_, ih⟩ := hi
 clear h hl hE
 go_enter Tryz.func18, Tryz.ntmps18
 have X0 : Hid (Off Nob w (w.alloc (.cells #[.int .i64 l.a, .int .i64 l.b, .int .i64 l.t, .int .i64 l.s, .int .i64 l.f, .int .i64 l.st, .int .i64 l.n, .int .i64 l.h] 33)) ∧ Blk (w.alloc (.cells #[.int .i64 l.a, .int .i64 l.b, .int .i64 l.t, .int .i64 l.s, .int .i64 l.f, .int .i64 l.st, .int .i64 l.n, .int .i64 l.h] 33)) w.heap.size 33 #[.int .i64 l.a, .int .i64 l.b, .int .i64 l.t, .int .i64 l.s, .int .i64 l.f, .int .i64 l.st, .int .i64 l.n, .int .i64 l.h]) := hID ⟨(Off.refl _ _).alloc _, Blk.new _ _ _⟩
 go_wp2_with fail
 revert X0
 generalize (w.alloc (.cells #[.int .i64 l.a, .int .i64 l.b, .int .i64 l.t, .int .i64 l.s, .int .i64 l.f, .int .i64 l.st, .int .i64 l.n, .int .i64 l.h] 33)) = w0
 intro X0
 have c0 := X0.out.2.cell 0
 have c1 := X0.out.2.cell 1
 have c2 := X0.out.2.cell 2
 have c3 := X0.out.2.cell 3
 have c4 := X0.out.2.cell 4
 have c5 := X0.out.2.cell 5
 have c6 := X0.out.2.cell 6
 have c7 := X0.out.2.cell 7
 have HBG := hID (nbegin_none l.lay w0 F p C E (HA.out.keep X0.out.1 (fun _ _ hn => hn)) HL.out (l.a : Int) (by omega) (by have := HE.out; omega) (fun W _ => nask_none W))
 go_wp2_with fail
 refine HBG.out.mono ?_
 rintro e w1 ⟨g, rfl, hg1, hg2, o1⟩
 have X1 := hID (And.intro (X0.out.1.also o1) (And.intro (X0.out.2.to (o1.block _ X0.out.2.lt id)) (And.intro hg2 (show w.heap.size ≤ g by have := X0.out.1.size; omega))))
 clear c0 c1 c2 c3 c4 c5 c6 c7 HBG hg1 hg2 o1 X0
 have hgF : ∀ k, w.heap.size ≤ k → ¬ F k := fun k hk hf => by have := HA.out.lt k hf; omega
 have HGF := hID hgF
 have GC : Hid (∀ W, Off F w1 W → W.cell? ⟨w.heap.size, 0, none⟩ = some (.int .i64 l.a) ∧ W.cell? ⟨w.heap.size, 5, none⟩ = some (.int .i64 l.st) ∧ Blk W g 112 (macC p l.lay)) := hID (fun W o => by
  have h1 := X1.out.2.1.to (o.block _ X1.out.2.1.lt (hgF _ (Nat.le_refl _)))
  exact ⟨h1.cell 0, h1.cell 5, X1.out.2.2.1.to (o.block _ X1.out.2.2.1.lt (hgF _ X1.out.2.2.2))⟩)
 have Y0 := hID (HA.out.keep X1.out.1 (fun _ _ hn => hn))
 obtain ⟨c0, c5, -⟩ := GC.out _ (Off.refl _ _)
 go_wp2_with fail
 clear c0 c5 hgF
 go_loopw [4, 21] (fun v q wr => ∃ (k : Nat) (G : Nat → Prop), k ≤ l.a ∧ q = .int .i64 (k : Int) ∧ Ar wr G p C (ldE l.st E k) ∧ Off F w1 wr ∧ (∀ j, G j → F j ∨ w1.heap.size ≤ j) ∧ wr.ownsRow w1.heap.size 41 1 v k (u64s (stL l C k)) ∧ (∀ b, v.ownBlock = some b → ¬ G b)) (fun _ q _ => l.a - (intOf q).toNat)
 case atStart => exact ⟨0, F, Nat.zero_le _, rfl, Y0.out, Off.refl _ _, fun j hj => .inl hj, World.ownsRow_nil _ _ _ _, fun b hb => by cases hb⟩
 case round =>
  obtain ⟨k, G, hk, rfl, har, hoff, hG, hown, hnG⟩ := hrel
  obtain ⟨AA, cq, rfl⟩ := own_shape hown
  have HAR := hID har
  have HO := hID hoff
  have HG := hID hG
  have HOW := hID hown
  have HNG := hID hnG
  clear har hoff hG hown hnG Y0
  obtain ⟨c0, c5, -⟩ := GC.out _ HO.out
  by_cases hlt : k < l.a
  ·have d1 : decide ((k : Int) < (l.a : Int)) = true := decide_eq_true (by omega)
   have hng : ¬ G g := fun h => by
    rcases HG.out g h with h | h
    ·exact HGF.out g X1.out.2.2.2 h
    ·have := X1.out.2.2.1.lt
     omega
   have HGET := hID (nget g p (l.st + k) (macC p l.lay) C (ldE l.st E k) G wr HAR.out (GC.out _ HO.out).2.2 rfl rfl hng (by omega) (by rw [length_ldE]; have := HE.out; omega))
   have hcast : ((l.st + k : Nat) : Int) = (l.st : Int) + (k : Int) := by push_cast; rfl
   rw [hcast] at HGET
   have HSU := hID (stL_succ l C k)
   have HMX := hID HAR.out.n2
   obtain ⟨x, hx⟩ : ∃ x, C.getD (l.st + k) 0 = x := ⟨_, rfl⟩
   rw [hx] at HGET HSU
   have hsb : (l.st : Int) + (k : Int) ≤ 65536 + 4 := by have := HMX.out; omega
   have hsb0 : (0 : Int) ≤ (l.st : Int) + (k : Int) := by omega
   clear hcast hng hx
   go_wp2_with fail
   refine HGET.out.mono ?_
   rintro e v1 ⟨rfl, z1⟩
   have A1 : Hid (Ar v1 (Grow G wr v1) p C (ldE l.st E (k + 1))) := hID z1.1
   have O1 : Hid (Off F w1 v1) := hID (HO.out.trans (z1.2.mono fun j hj e => (HG.out j e).elim .inl (fun h => .inr ⟨h, hj⟩)))
   have W1 : Hid (v1.ownsRow w1.heap.size 41 1 (.slice AA k cq) k (u64s (stL l C k))) := hID (own_to HOW.out (fun b hb => z1.2.block b (HOW.out.lt b hb).2 (HNG.out b hb)))
   have HSZ := hID z1.2.size
   have HLB := hID (fun b hb => (HOW.out.lt b hb).2)
   clear z1 HGET HAR HOW c0 c5
   obtain ⟨c0, c5, -⟩ := GC.out _ O1.out
   have HLX := hID (show (stL l C k).length = k by simp [stL])
   obtain ⟨M, hM⟩ : ∃ M, stL l C k = M := ⟨_, rfl⟩
   rw [hM] at W1 HSU HLX
   clear hM
   go_wp2_with (at_builtin; refine @wpList_append_lies _ _ _ _ _ _ _ rfl _ _ 23 rfl w1.heap.size 41 i_u64 (.int .u64 0) 1 8 Tryz.underlying23 h_u64 z_u64 s_u64 b_u64 rfl (by decide) (.slice AA k cq) k (u64s M) rfl (W1.out.alloc _) ⟨v1.heap.size, 0, none⟩ 1 1 [.int .u64 (n64 x)] rfl rfl ?c1 (by intro u hu; simp at hu; subst hu; rfl) (by decide) (by unfold maxLen; omega) (by omega) (by have := O1.out.size; simp; omega) _ rfl ?_)
   case c1 => exact cell_one _ _ _
   intro g' cap w4 hown hgrow hat hltg
   have OB : Off (fun b => (Value.slice AA k cq).ownBlock = some b) v1 w4 := Off.grown (Off.alloc (Off.refl _ _) _) hgrow (fun j hj => .inl hj)
   have ST : Hid (Ar w4 (Grow G wr v1) p C (ldE l.st E (k + 1)) ∧ Off F w1 w4 ∧ w4.ownsRow w1.heap.size 41 1 (.slice (some ⟨g', 0, none⟩) (k + 1) cap) (k + 1) (u64s (stL l C (k + 1))) ∧ ¬ Grow G wr v1 g') := hID ⟨A1.out.keep OB (fun j hj e => by
     rcases hj with h | h
     ·exact HNG.out j e h
     ·have := HLB.out j e
      omega), O1.out.trans (OB.mono fun j hj e => .inr ⟨(W1.out.lt j e).1, hj⟩), by rw [HSU.out]; unfold u64s at hown ⊢; rw [List.map_append]; exact hown, fun h => by
     rcases hat with e | e
     ·rcases h with h | h
      ·exact HNG.out g' e h
      ·have := HLB.out g' e
       omega
     ·rcases h with h | h
      ·have h2 := A1.out.lt g' (.inl h)
       first | omega | (simp at e; omega)
      ·have h2 := h.2
       first | omega | (simp at e; omega)⟩
   have HG2 := hID (show ∀ j, Grow G wr v1 j → F j ∨ w1.heap.size ≤ j from fun j hj => by
    rcases hj with h | h
    ·exact HG.out j h
    ·have := HO.out.size
     exact .inr (by omega))
   clear hown hgrow hat hltg OB A1 O1 W1 c0 c5
   go_wp2_with fail
   go_roundw
   case rel => exact ⟨k + 1, Grow G wr v1, hlt, by go_num, ST.out.1, ST.out.2.1, HG2.out, ST.out.2.2.1, fun b hb => by
    injection hb with hb
    subst hb
    exact ST.out.2.2.2⟩
   case measure => simp [intOf]; omega
  ·obtain rfl : l.a = k := by omega
   have d1 : decide ((l.a : Int) < (l.a : Int)) = false := decide_eq_false (by omega)
   have m9 := (GC.out _ HO.out).2.2.cell 9
   have m9' : wr.cell? ⟨g, 9, none⟩ = some (.int .i64 0) := m9
   clear m9
   go_wp2_with fail
   go_quiet (fail)
   have HF : Hid ((∃ v, Ending.returned (.tuple #[.slice AA l.a cq, .int .i64 0]) = Ending.returned (.tuple #[v, .int .i64 0]) ∧ Rd (wr.drewN nq) (fun k => w.heap.size ≤ k) 1 v l.a (u64s (stL l C l.a))) ∧ ArTo w F p C (ldE l.st E l.a) (wr.drewN nq)) := hID (by
    have hsz := X1.out.1.size
    refine ⟨⟨_, rfl, (Rd.own HOW.out (fun b hb => by have := (HOW.out.lt b hb).1; omega)).drewN nq⟩, ?_, (Off.ofNob X1.out.1).also (HO.out.drewN nq)⟩
    refine (HAR.out.keep ((Off.refl Nob wr).drewN nq) (fun _ _ h => h)).mono (fun j hj => ?_) (fun j hj => ?_)
    ·rcases HG.out j hj with h | h
     ·exact .inl h
     ·exact .inr ⟨by omega, HAR.out.lt j hj⟩
    ·rcases hj with h | h
     ·have h2 := HA.out.lt j h
      have := HO.out.size
      show j < wr.heap.size
      omega
     ·exact h.2)
   go_wp2_with fail
   go_ret2
   exact HF.out
end Go.Proofs.YtkflicifngohcaaGreatDoor

namespace Go.Proofs.YtkflicifngohcaaGreatDoor
open Go.RowKit
structure LayN.Seq (l : LayN) : Prop where
 n : l.n = l.st + l.a
 h : l.h = l.n + l.a
 t : l.t + 256 * l.a ≤ l.st
 s : l.s + l.a ≤ l.st
 f : l.f + l.b * l.a ≤ l.st
section
variable {l : LayN} {x m : BitVec 64} {C D : List (BitVec 64)}
end
end Go.Proofs.YtkflicifngohcaaGreatDoor
