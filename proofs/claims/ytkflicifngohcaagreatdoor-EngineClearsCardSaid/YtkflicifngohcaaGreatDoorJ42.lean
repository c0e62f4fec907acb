/-
  engine.Setup, Clear and State in general, where nothing is wrong: what they do to the cells, and their steps.
-/
import Derived.Test.YtkflicifngohcaaGreatDoorJ32
import Derived.Test.YtkflicifngohcaaGreatDoorJ41
import Derived.Test.YtkflicifngohcaaGreatDoorJ36
namespace Go.Proofs.YtkflicifngohcaaGreatDoor
open Go.RowKit
set_option linter.unusedVariables false
set_option linter.unusedSimpArgs false
set_option maxRecDepth 100000
/-- Words as bit vectors. -/
def bvs (L : List Nat) : List (BitVec 64) := L.map (BitVec.ofNat 64)
theorem bvs_len (L : List Nat) : (bvs L).length = L.length := by simp [bvs]
theorem bvs_eq {L : List Nat} (h : ∀ x ∈ L, x < 18446744073709551616) : (bvs L).map (fun u => Value.int .u64 (n64 u)) = wordsV L := by
  unfold bvs wordsV
  rw [List.map_map]
  apply List.map_congr_left
  intro x hx
  simp only [Function.comp, n64, BitVec.toNat_ofNat]
  rw [Nat.mod_eq_of_lt (h x hx)]
theorem rd_bvs {w : World} {G : Nat → Prop} {v : Value} {L : List Nat} (h64 : ∀ x ∈ L, x < 18446744073709551616) (h : Rd w G 1 v L.length (wordsV L)) : Rd w G 1 v (bvs L).length ((bvs L).map fun u => .int .u64 (n64 u)) := by
  rw [bvs_len, bvs_eq h64]
  exact h
theorem make_1 (W : World) : (Instr.makeSlice 23 (.int .i64 1) (.int .i64 1)).run Tryz.prog W = .ok (.slice (some ⟨W.heap.size, 0, none⟩) 1 1) (W.alloc (.cells #[.int .u64 0] 41)) := by kernel_rfl
theorem make_2 (W : World) : (Instr.makeSlice 23 (.int .i64 2) (.int .i64 2)).run Tryz.prog W = .ok (.slice (some ⟨W.heap.size, 0, none⟩) 2 2) (W.alloc (.cells #[.int .u64 0, .int .u64 0] 41)) := by kernel_rfl
theorem make_3 (W : World) : (Instr.makeSlice 23 (.int .i64 3) (.int .i64 3)).run Tryz.prog W = .ok (.slice (some ⟨W.heap.size, 0, none⟩) 3 3) (W.alloc (.cells #[.int .u64 0, .int .u64 0, .int .u64 0] 41)) := by kernel_rfl
theorem make_4 (W : World) : (Instr.makeSlice 23 (.int .i64 4) (.int .i64 4)).run Tryz.prog W = .ok (.slice (some ⟨W.heap.size, 0, none⟩) 4 4) (W.alloc (.cells #[.int .u64 0, .int .u64 0, .int .u64 0, .int .u64 0] 41)) := by kernel_rfl
theorem make_any (a : Nat) (h1 : 1 ≤ a) (h4 : a ≤ 4) (W : World) : (Instr.makeSlice 23 (.int .i64 a) (.int .i64 a)).run Tryz.prog W = .ok (.slice (some ⟨W.heap.size, 0, none⟩) a a) (W.alloc (.cells (List.replicate a (Value.int .u64 0)).toArray 41)) := by
  have : a = 1 ∨ a = 2 ∨ a = 3 ∨ a = 4 := by omega
  rcases this with rfl | rfl | rfl | rfl
  · exact make_1 W
  · exact make_2 W
  · exact make_3 W
  · exact make_4 W
theorem zeros_eq (a : Nat) : (List.replicate a (0 : BitVec 64)).map (fun u => Value.int .u64 (n64 u)) = List.replicate a (.int .u64 0) := by
  rw [List.map_replicate]
  rfl
def suC (l : LayN) (T S Fi : List Nat) (C : List (BitVec 64)) : List (BitVec 64) := setL (setL (setL (setL C l.t (bvs T)) l.s (bvs S)) l.f (bvs Fi)) l.st (List.replicate l.a 0)
def suE (l : LayN) : List Ev := ((putE l.t (256 * l.a) ++ putE l.s l.a) ++ putE l.f (l.b * l.a)) ++ putE l.st l.a
theorem putE_len (x n : Nat) : (putE x n).length = n := by simp [putE]
theorem suE_len (l : LayN) : (suE l).length = 256 * l.a + l.a + l.b * l.a + l.a := by
  unfold suE
  simp only [List.length_append, putE_len]
theorem suC_len (l : LayN) (T S Fi : List Nat) (C : List (BitVec 64)) : (suC l T S Fi C).length = C.length := by
  unfold suC
  simp only [setL_length]
set_option maxHeartbeats 1000000 in
theorem nask_setupG (l : LayN) (w : World) (gs gl : Nat) (VI VT VS VF : Value) (ids : List Int) (T S Fi : List Nat) (h : SetV w VI VT VS VF ids (l.a : Int) T S Fi) (hok : setErr ids (l.a : Int) T S Fi = 0) (hb : ids.length = l.b) (hs : Blk w gs 25 #[VI, .int .i64 l.a, VT, VS, VF]) (hl : Blk w gl 33 #[.int .i64 l.a, .int .i64 l.b, .int .i64 l.t, .int .i64 l.s, .int .i64 l.f, .int .i64 l.st, .int .i64 l.n, .int .i64 l.h]) (hZ : TzT w) :
    Calls Tryz.prog 41 #[.pointer (some ⟨gs, 0, none⟩), .pointer (some ⟨gl, 0, none⟩)] w (RetV w (.int .i64 0)) := by
  have HP0 := n_Check ids (l.a : Int) T S Fi w VI VT VS VF h hZ
  rw [hok] at HP0
  have HP := Lib.hid HP0
  obtain ⟨AI, ci, rfl, _⟩ := h.i.form
  obtain ⟨AT, ct, rfl, _⟩ := h.t.form
  obtain ⟨AS, cs, rfl, _⟩ := h.s.form
  obtain ⟨AF, cf, rfl, _⟩ := h.f.form
  have HS := Lib.hid hs
  have HL := Lib.hid hl
  clear h hZ hs hl hok HP0
  have s0 := HS.out.cell 0
  have s1 := HS.out.cell 1
  have s2 := HS.out.cell 2
  have s3 := HS.out.cell 3
  have s4 := HS.out.cell 4
  have e1 : ((l.a : Int) != (l.a : Int)) = false := by simp
  have e2 : ((ids.length : Int) != (l.b : Int)) = false := by rw [hb]; simp
  clear hb
  go_enter Tryz.func41, Tryz.ntmps41
  go_wp2_with fail
  refine HP.out.mono ?_
  rintro e w1 ⟨rfl, o1⟩
  clear s0 s1 s2 s3 s4
  have s0 := (HS.out.to (o1.block _ HS.out.lt id)).cell 0
  have s1 := (HS.out.to (o1.block _ HS.out.lt id)).cell 1
  have l0 := (HL.out.to (o1.block _ HL.out.lt id)).cell 0
  have l1 := (HL.out.to (o1.block _ HL.out.lt id)).cell 1
  have HO := Lib.hid o1
  clear o1
  go_wp2_with fail
  go_ret
  exact ⟨rfl, HO.out⟩
set_option maxHeartbeats 8000000 in
theorem nsetup_any (l : LayN) (w : World) (F : Nat → Prop) (p : Nat) (C : List (BitVec 64)) (E : List Ev) (h : Ar w F p C E) (hl : l.lay.Ok C.length) (hi : l.In C.length) (hE : E.length + (258 * l.a + l.b * l.a) < 8388608) (VI VT VS VF : Value) (ids : List Int) (T S Fi : List Nat) (hs : SetV w VI VT VS VF ids (l.a : Int) T S Fi) (hok : setErr ids (l.a : Int) T S Fi = 0) (hb : ids.length = l.b)
    (hT : Rd w (fun k => ¬ F k) 1 VT T.length (wordsV T)) (hS : Rd w (fun k => ¬ F k) 1 VS S.length (wordsV S)) (hF : Rd w (fun k => ¬ F k) 1 VF Fi.length (wordsV Fi)) (hZ : TzT w) :
    Calls Tryz.prog 15 #[.pointer (some ⟨p, 0, none⟩), .agg #[.int .i64 l.a, .int .i64 l.b, .int .i64 l.t, .int .i64 l.s, .int .i64 l.f, .int .i64 l.st, .int .i64 l.n, .int .i64 l.h], .agg #[VI, .int .i64 l.a, VT, VS, VF]] w fun e w' => e = .returned (.int .i64 0) ∧ ArTo w F p (suC l T S Fi C) (E ++ suE l) w' := by
  have hmf : ∀ (fn : Fn) (first cap : Array Value) (w : World), (Instr.makeFunc fn first cap).run Tryz.prog w = .ok (.func fn first cap) w := fun _ _ _ _ => rfl
  have HS0 := Lib.hid (And.intro hs hZ)
  have HOK := Lib.hid (And.intro hok hb)
  have HRL := Lib.hid (And.intro (rd_bvs hs.t64 hT) (And.intro (rd_bvs hs.s64 hS) (rd_bvs hs.f64 hF)))
  have HA := Lib.hid h
  have HL := Lib.hid hl
  obtain ⟨_, _, _, ⟨W, hW, _, _, hlt, hls, hlf, _⟩, _⟩ := setErr_ok hok
  obtain rfl : W = l.a := by omega
  rw [hb] at hlf
  have HLN := Lib.hid (And.intro ((bvs_len T).trans hlt) (And.intro ((bvs_len S).trans hls) ((bvs_len Fi).trans hlf)))
  obtain ⟨a1, a4, b1, b16, it, is, if_, ist, in_, ih⟩ := hi
  have hba : l.b * l.a ≤ 64 := Nat.le_trans (Nat.mul_le_mul b16 a4) (by decide)
  have HBA := Lib.hid (And.intro hba (And.intro if_ hE))
  have hst : ∃ s1 s2 : Int, (∀ W, Calls Tryz.prog 27 #[.int .i64 l.a, .int .i64 l.b] W fun e w' => e = .returned (.tuple #[.int .i64 s1, .int .i64 s2, .int .i64 0]) ∧ W = w') ∧ s1 = ((258 * l.a + l.b * l.a : Nat) : Int) := by
    refine ⟨_, _, fun W => nsteps_yes l.a l.b (by omega) (by omega) (by omega) (by omega) W, ?_⟩
    push_cast
    rfl
  obtain ⟨s1, s2, hst1, hst2⟩ := hst
  have HST := Lib.hid (And.intro hst1 hst2)
  obtain ⟨LT, hLT⟩ : ∃ LT, bvs T = LT := ⟨_, rfl⟩
  obtain ⟨LS, hLS⟩ : ∃ LS, bvs S = LS := ⟨_, rfl⟩
  obtain ⟨LF, hLF⟩ : ∃ LF, bvs Fi = LF := ⟨_, rfl⟩
  have HSU : Hid (suC l T S Fi C = setL (setL (setL (setL C l.t LT) l.s LS) l.f LF) l.st (List.replicate l.a 0)) := Lib.hid (by unfold suC; rw [hLT, hLS, hLF])
  rw [hLT, hLS, hLF] at HLN HRL
  rw [HSU.out]
  clear hLT hLS hLF HSU
  obtain ⟨AI, ci, rfl, _⟩ := hs.i.form
  obtain ⟨AT, ct, rfl, _⟩ := hs.t.form
  obtain ⟨AS, cs, rfl, _⟩ := hs.s.form
  obtain ⟨AF, cf, rfl, _⟩ := hs.f.form
  clear h hl hE hs hok hb hT hS hF hZ hW hlt hls hlf if_ hst1 hst2 hba
  go_enter_defers Tryz.func15, Tryz.ntmps15
  go_wp2_with fail
  have X0 : Hid (Off Nob w (((w.alloc (.cells #[.int .i64 l.a, .int .i64 l.b, .int .i64 l.t, .int .i64 l.s, .int .i64 l.f, .int .i64 l.st, .int .i64 l.n, .int .i64 l.h] 33)).alloc (.cells #[.slice AI ids.length ci, .int .i64 l.a, .slice AT T.length ct, .slice AS S.length cs, .slice AF Fi.length cf] 25)).alloc (.cells #[.int .i64 0] 29)) ∧ Blk (((w.alloc (.cells #[.int .i64 l.a, .int .i64 l.b, .int .i64 l.t, .int .i64 l.s, .int .i64 l.f, .int .i64 l.st, .int .i64 l.n, .int .i64 l.h] 33)).alloc (.cells #[.slice AI ids.length ci, .int .i64 l.a, .slice AT T.length ct, .slice AS S.length cs, .slice AF Fi.length cf] 25)).alloc (.cells #[.int .i64 0] 29)) w.heap.size 33 #[.int .i64 l.a, .int .i64 l.b, .int .i64 l.t, .int .i64 l.s, .int .i64 l.f, .int .i64 l.st, .int .i64 l.n, .int .i64 l.h] ∧ Blk (((w.alloc (.cells #[.int .i64 l.a, .int .i64 l.b, .int .i64 l.t, .int .i64 l.s, .int .i64 l.f, .int .i64 l.st, .int .i64 l.n, .int .i64 l.h] 33)).alloc (.cells #[.slice AI ids.length ci, .int .i64 l.a, .slice AT T.length ct, .slice AS S.length cs, .slice AF Fi.length cf] 25)).alloc (.cells #[.int .i64 0] 29)) (w.heap.size + 1) 25 #[.slice AI ids.length ci, .int .i64 l.a, .slice AT T.length ct, .slice AS S.length cs, .slice AF Fi.length cf] ∧ Blk (((w.alloc (.cells #[.int .i64 l.a, .int .i64 l.b, .int .i64 l.t, .int .i64 l.s, .int .i64 l.f, .int .i64 l.st, .int .i64 l.n, .int .i64 l.h] 33)).alloc (.cells #[.slice AI ids.length ci, .int .i64 l.a, .slice AT T.length ct, .slice AS S.length cs, .slice AF Fi.length cf] 25)).alloc (.cells #[.int .i64 0] 29)) (w.heap.size + 2) 29 #[.int .i64 0] ∧ (((w.alloc (.cells #[.int .i64 l.a, .int .i64 l.b, .int .i64 l.t, .int .i64 l.s, .int .i64 l.f, .int .i64 l.st, .int .i64 l.n, .int .i64 l.h] 33)).alloc (.cells #[.slice AI ids.length ci, .int .i64 l.a, .slice AT T.length ct, .slice AS S.length cs, .slice AF Fi.length cf] 25)).alloc (.cells #[.int .i64 0] 29)).heap.size = w.heap.size + 3) := Lib.hid ⟨(((Off.refl _ _).alloc _).alloc _).alloc _, ((Blk.new _ _ _).alloc _).alloc _, (blk_second _ _ _ _).alloc _, by
    have := Blk.new ((w.alloc (.cells #[.int .i64 l.a, .int .i64 l.b, .int .i64 l.t, .int .i64 l.s, .int .i64 l.f, .int .i64 l.st, .int .i64 l.n, .int .i64 l.h] 33)).alloc (.cells #[.slice AI ids.length ci, .int .i64 l.a, .slice AT T.length ct, .slice AS S.length cs, .slice AF Fi.length cf] 25)) 29 #[.int .i64 0]
    simpa using this, by simp⟩
  revert X0
  generalize (((w.alloc (.cells #[.int .i64 l.a, .int .i64 l.b, .int .i64 l.t, .int .i64 l.s, .int .i64 l.f, .int .i64 l.st, .int .i64 l.n, .int .i64 l.h] 33)).alloc (.cells #[.slice AI ids.length ci, .int .i64 l.a, .slice AT T.length ct, .slice AS S.length cs, .slice AF Fi.length cf] 25)).alloc (.cells #[.int .i64 0] 29)) = w0
  intro X0
  refine (HST.out.1 _).mono ?_
  rintro e w1 ⟨rfl, rfl⟩
  have c0 := X0.out.2.1.cell 0
  have c1 := X0.out.2.1.cell 1
  have c2 := X0.out.2.1.cell 2
  have c3 := X0.out.2.1.cell 3
  have c4 := X0.out.2.1.cell 4
  have c5 := X0.out.2.1.cell 5
  have c6 := X0.out.2.1.cell 6
  have c7 := X0.out.2.1.cell 7
  have r0 := X0.out.2.2.2.1.cell 0
  have fr := X0.out.2.2.2.1.frozen 0
  go_wp2_with fail
  have HBG := Lib.hid (nbegin_setup l.lay w0 F p C E (HA.out.keep X0.out.1 (fun _ _ hn => hn)) HL.out s1 (by rw [HST.out.2]; exact Int.natCast_nonneg _) (by rw [HST.out.2]; have := HBA.out.2.2; omega) ⟨w.heap.size + 1, 0, none⟩ ⟨w.heap.size, 0, none⟩ (fun W o => nask_setupG l W (w.heap.size + 1) w.heap.size _ _ _ _ ids T S Fi (HS0.out.1.keep (X0.out.1.also o)) HOK.out.1 HOK.out.2 (X0.out.2.2.1.to (o.block _ X0.out.2.2.1.lt id)) (X0.out.2.1.to (o.block _ X0.out.2.1.lt id)) (tz_keep HS0.out.2 (X0.out.1.also o))))
  refine HBG.out.mono ?_
  rintro e w1 ⟨g, rfl, hg1, hg2, o1⟩
  have X1 := Lib.hid (And.intro (X0.out.1.also o1) (And.intro (X0.out.2.1.to (o1.block _ X0.out.2.1.lt id)) (And.intro (X0.out.2.2.1.to (o1.block _ X0.out.2.2.1.lt id)) (And.intro (X0.out.2.2.2.1.to (o1.block _ X0.out.2.2.2.1.lt id)) (And.intro hg2 (And.intro hg1 o1.size))))))
  clear c0 c1 c2 c3 c4 c5 c6 c7 r0 fr HBG hg1 hg2 o1
  have R0 := Lib.hid (X1.out.2.2.2.1.alloc (.cells #[.pointer (some ⟨g, 0, none⟩)] 107))
  have hO := (Off.alloc (Off.refl Nob w1) (.cells #[.pointer (some ⟨g, 0, none⟩)] 107)).also (off_same (i := 0) (u := .int .i64 0) R0.out rfl)
  have r0 := R0.out.cell 0
  have fr := R0.out.frozen 0
  have hMV : Blk ((w1.alloc (.cells #[.pointer (some ⟨g, 0, none⟩)] 107)).setCell ⟨w.heap.size + 2, 0, none⟩ (.int .i64 0)) w1.heap.size 107 #[.pointer (some ⟨g, 0, none⟩)] := (Blk.new w1 107 #[.pointer (some ⟨g, 0, none⟩)]).far (by have := X1.out.2.2.2.1.lt; simp; omega) _
  have r0' : ((w1.alloc (.cells #[.pointer (some ⟨g, 0, none⟩)] 107)).setCell ⟨w.heap.size + 2, 0, none⟩ (.int .i64 0)).cell? ⟨w.heap.size + 2, 0, none⟩ = some (.int .i64 0) := (X1.out.2.2.2.1.to (hO.block _ X1.out.2.2.2.1.lt id)).cell 0
  have fr' : ((w1.alloc (.cells #[.pointer (some ⟨g, 0, none⟩)] 107)).setCell ⟨w.heap.size + 2, 0, none⟩ (.int .i64 0)).frozen? ⟨w.heap.size + 2, 0, none⟩ = false := (X1.out.2.2.2.1.to (hO.block _ X1.out.2.2.2.1.lt id)).frozen 0
  have m0 := hMV.cell 0
  have X2 : Hid (Off Nob w ((w1.alloc (.cells #[.pointer (some ⟨g, 0, none⟩)] 107)).setCell ⟨w.heap.size + 2, 0, none⟩ (.int .i64 0)) ∧ Blk ((w1.alloc (.cells #[.pointer (some ⟨g, 0, none⟩)] 107)).setCell ⟨w.heap.size + 2, 0, none⟩ (.int .i64 0)) w.heap.size 33 #[.int .i64 l.a, .int .i64 l.b, .int .i64 l.t, .int .i64 l.s, .int .i64 l.f, .int .i64 l.st, .int .i64 l.n, .int .i64 l.h] ∧ Blk ((w1.alloc (.cells #[.pointer (some ⟨g, 0, none⟩)] 107)).setCell ⟨w.heap.size + 2, 0, none⟩ (.int .i64 0)) (w.heap.size + 1) 25 #[.slice AI ids.length ci, .int .i64 l.a, .slice AT T.length ct, .slice AS S.length cs, .slice AF Fi.length cf] ∧ Blk ((w1.alloc (.cells #[.pointer (some ⟨g, 0, none⟩)] 107)).setCell ⟨w.heap.size + 2, 0, none⟩ (.int .i64 0)) (w.heap.size + 2) 29 #[.int .i64 0] ∧ Blk ((w1.alloc (.cells #[.pointer (some ⟨g, 0, none⟩)] 107)).setCell ⟨w.heap.size + 2, 0, none⟩ (.int .i64 0)) g 112 (macC p l.lay) ∧ w.heap.size ≤ g ∧ Blk ((w1.alloc (.cells #[.pointer (some ⟨g, 0, none⟩)] 107)).setCell ⟨w.heap.size + 2, 0, none⟩ (.int .i64 0)) w1.heap.size 107 #[.pointer (some ⟨g, 0, none⟩)]) := Lib.hid ⟨X1.out.1.also hO, X1.out.2.1.to (hO.block _ X1.out.2.1.lt id), X1.out.2.2.1.to (hO.block _ X1.out.2.2.1.lt id), X1.out.2.2.2.1.to (hO.block _ X1.out.2.2.2.1.lt id), X1.out.2.2.2.2.1.to (hO.block _ X1.out.2.2.2.2.1.lt id), by have := X0.out.1.size; have := X1.out.2.2.2.2.2.1; omega, hMV⟩
  have c0 := X2.out.2.1.cell 0
  have c2 := X2.out.2.1.cell 2
  have s2 := X2.out.2.2.1.cell 2
  clear hO hMV R0
  go_wp2_with fail
  obtain ⟨cb, hcb⟩ : ∃ cb, w1.heap.size = cb := ⟨_, rfl⟩
  have hcb2 : w.heap.size ≤ cb := by rw [← hcb]; exact X1.out.1.size
  rw [hcb] at X2 ⊢
  clear c0 c2 s2 r0 fr r0' fr' m0 hcb X1 X0
  revert X2
  generalize ((w1.alloc (.cells #[.pointer (some ⟨g, 0, none⟩)] 107)).setCell ⟨w.heap.size + 2, 0, none⟩ (.int .i64 0)) = W0
  intro X2
  have hgF : ∀ k, w.heap.size ≤ k → ¬ F k := fun k hk hf => by have := HA.out.lt k hf; omega
  have GC : Hid (∀ W, Off F W0 W → W.cell? ⟨w.heap.size, 0, none⟩ = some (.int .i64 l.a) ∧ W.cell? ⟨w.heap.size, 2, none⟩ = some (.int .i64 l.t) ∧ W.cell? ⟨w.heap.size, 3, none⟩ = some (.int .i64 l.s) ∧ W.cell? ⟨w.heap.size, 4, none⟩ = some (.int .i64 l.f) ∧ W.cell? ⟨w.heap.size, 5, none⟩ = some (.int .i64 l.st) ∧ W.cell? ⟨w.heap.size + 1, 2, none⟩ = some (.slice AT T.length ct) ∧ W.cell? ⟨w.heap.size + 1, 3, none⟩ = some (.slice AS S.length cs) ∧ W.cell? ⟨w.heap.size + 1, 4, none⟩ = some (.slice AF Fi.length cf) ∧ W.cell? ⟨cb, 0, none⟩ = some (.pointer (some ⟨g, 0, none⟩)) ∧ Blk W g 112 (macC p l.lay) ∧ Blk W (w.heap.size + 2) 29 #[.int .i64 0]) := Lib.hid (fun W o => by
    have h1 := X2.out.2.1.to (o.block _ X2.out.2.1.lt (hgF _ (by omega)))
    have h2 := X2.out.2.2.1.to (o.block _ X2.out.2.2.1.lt (hgF _ (by omega)))
    have h3 := X2.out.2.2.2.2.2.2.to (o.block _ X2.out.2.2.2.2.2.2.lt (hgF _ hcb2))
    exact ⟨h1.cell 0, h1.cell 2, h1.cell 3, h1.cell 4, h1.cell 5, h2.cell 2, h2.cell 3, h2.cell 4, h3.cell 0, X2.out.2.2.2.2.1.to (o.block _ X2.out.2.2.2.2.1.lt (hgF _ X2.out.2.2.2.2.2.1)), X2.out.2.2.2.1.to (o.block _ X2.out.2.2.2.1.lt (hgF _ (by omega)))⟩)
  have HG := Lib.hid (show g < W0.heap.size ∧ ¬ F g from ⟨X2.out.2.2.2.2.1.lt, hgF _ X2.out.2.2.2.2.2.1⟩)
  have HLT := Lib.hid (rd_lt (HRL.out.1.keep X2.out.1 (fun _ _ hn => hn)))
  have HLS := Lib.hid (rd_lt (HRL.out.2.1.keep X2.out.1 (fun _ _ hn => hn)))
  have HLF := Lib.hid (rd_lt (HRL.out.2.2.keep X2.out.1 (fun _ _ hn => hn)))
  have Y0 := Lib.hid (ArTo.refl (HA.out.keep X2.out.1 (fun _ _ hn => hn)))
  clear hgF
  have HP0 := Lib.hid (nput g p l.t (macC p l.lay) LT (C) (E) (Grow F W0 W0) W0 _ Y0.out.1 (GC.out _ Y0.out.2).2.2.2.2.2.2.2.2.2.1 rfl rfl (fun hg => hg.elim HG.out.2 (fun h => by have := HG.out.1; omega)) (rd_on HLT.out Y0.out.2) (by (try simp only [setL_length]); rw [HLN.out.1]; first | omega | exact HBA.out.2.1) (by (try simp only [List.length_append, putE_len]); rw [HLN.out.1]; have := HBA.out.2.2; omega))
  rw [HLN.out.1] at HP0
  refine Calls.mono (R := fun e w' => e = .returned (.tuple #[]) ∧ ArTo W0 (Grow F W0 W0) p (setL (C) l.t LT) ((E) ++ putE l.t (256 * l.a)) w') HP0.out ?_
  rintro e v1 ⟨rfl, a1'⟩
  have Y1 := Lib.hid (Y0.out.trans a1')
  clear a1' Y0 HP0
  obtain ⟨c0, c2, c3, c4, c5, t2, t3, t4, m0, -, -⟩ := GC.out _ Y1.out.2
  go_wp2_with fail
  clear c0 c2 c3 c4 c5 t2 t3 t4 m0
  have HP1 := Lib.hid (nput g p l.s (macC p l.lay) LS (setL (C) l.t LT) ((E) ++ putE l.t (256 * l.a)) (Grow F W0 v1) v1 _ Y1.out.1 (GC.out _ Y1.out.2).2.2.2.2.2.2.2.2.2.1 rfl rfl (fun hg => hg.elim HG.out.2 (fun h => by have := HG.out.1; omega)) (rd_on HLS.out Y1.out.2) (by (try simp only [setL_length]); rw [HLN.out.2.1]; first | omega | exact HBA.out.2.1) (by (try simp only [List.length_append, putE_len]); rw [HLN.out.2.1]; have := HBA.out.2.2; omega))
  rw [HLN.out.2.1] at HP1
  refine Calls.mono (R := fun e w' => e = .returned (.tuple #[]) ∧ ArTo v1 (Grow F W0 v1) p (setL (setL (C) l.t LT) l.s LS) (((E) ++ putE l.t (256 * l.a)) ++ putE l.s (l.a)) w') HP1.out ?_
  rintro e v2 ⟨rfl, a1'⟩
  have Y2 := Lib.hid (Y1.out.trans a1')
  clear a1' Y1 HP1
  obtain ⟨c0, c2, c3, c4, c5, t2, t3, t4, m0, -, -⟩ := GC.out _ Y2.out.2
  go_wp2_with fail
  clear c0 c2 c3 c4 c5 t2 t3 t4 m0
  have HP2 := Lib.hid (nput g p l.f (macC p l.lay) LF (setL (setL (C) l.t LT) l.s LS) (((E) ++ putE l.t (256 * l.a)) ++ putE l.s (l.a)) (Grow F W0 v2) v2 _ Y2.out.1 (GC.out _ Y2.out.2).2.2.2.2.2.2.2.2.2.1 rfl rfl (fun hg => hg.elim HG.out.2 (fun h => by have := HG.out.1; omega)) (rd_on HLF.out Y2.out.2) (by (try simp only [setL_length]); rw [HLN.out.2.2]; first | omega | exact HBA.out.2.1) (by (try simp only [List.length_append, putE_len]); rw [HLN.out.2.2]; have := HBA.out.2.2; omega))
  rw [HLN.out.2.2] at HP2
  refine Calls.mono (R := fun e w' => e = .returned (.tuple #[]) ∧ ArTo v2 (Grow F W0 v2) p (setL (setL (setL (C) l.t LT) l.s LS) l.f LF) ((((E) ++ putE l.t (256 * l.a)) ++ putE l.s (l.a)) ++ putE l.f (l.b * l.a)) w') HP2.out ?_
  rintro e v3 ⟨rfl, a1'⟩
  have Y3 := Lib.hid (Y2.out.trans a1')
  clear a1' Y2 HP2
  obtain ⟨c0, c2, c3, c4, c5, t2, t3, t4, m0, -, -⟩ := GC.out _ Y3.out.2
  go_wp2_with fail
  clear c0 c2 c3 c4 c5 t2 t3 t4 m0
  obtain ⟨c0, c2, c3, c4, c5, t2, t3, t4, m0, -, -⟩ := GC.out _ Y3.out.2
  have hms := make_any l.a a1 a4
  have HP4 : Hid (∀ V, V = (v3.alloc (.cells (List.replicate l.a (Value.int .u64 0)).toArray 41)).drew → Calls Tryz.prog 44 #[.pointer (some ⟨g, 0, none⟩), .int .i64 l.st, .slice (some ⟨v3.heap.size, 0, none⟩) l.a l.a] V fun e w' => e = .returned (.tuple #[]) ∧ ArTo W0 F p (setL (setL (setL (setL (C) l.t LT) l.s LS) l.f LF) l.st (List.replicate l.a 0)) (E ++ suE l) w') := Lib.hid (fun V hV => by
    have o : Off Nob v3 V := by rw [hV]; exact (Off.alloc (Off.refl Nob v3) _).drew
    have hb := (GC.out _ Y3.out.2).2.2.2.2.2.2.2.2.2.1
    have hg : ¬ Grow F W0 v3 g := fun hg => hg.elim HG.out.2 (fun h => by have := HG.out.1; omega)
    have hl : Rd V (fun k => ¬ Grow F W0 v3 k) 1 (.slice (some ⟨v3.heap.size, 0, none⟩) l.a l.a) (List.replicate l.a (0 : BitVec 64)).length ((List.replicate l.a (0 : BitVec 64)).map fun u => .int .u64 (n64 u)) := by
      rw [hV, zeros_eq, List.length_replicate]
      exact ⟨_, _, rfl, by unfold maxLen; omega, by simp, fun _ => ⟨v3.heap.size, 0, rfl, fun h => by have := Y3.out.1.lt _ h; omega, by simp, fun j u hu => by
        rw [Nat.zero_add]
        refine ((Blk.new v3 41 (List.replicate l.a (Value.int .u64 0)).toArray).cell j).trans ?_
        rw [List.getElem?_toArray]
        exact hu⟩⟩
    refine (nput g p l.st (macC p l.lay) (List.replicate l.a 0) _ _ (Grow F W0 v3) V _ (Y3.out.1.keep o (fun _ _ hn => hn)) (hb.to (o.block _ hb.lt id)) rfl rfl hg hl (by simp only [setL_length, List.length_replicate]; exact ist) (by simp only [List.length_append, putE_len, List.length_replicate]; have := HBA.out.2.2; omega)).mono ?_
    rintro e w' ⟨rfl, a⟩
    refine ⟨rfl, ?_⟩
    have k := Y3.out.trans (ArTo.pre Y3.out.1 o a)
    rw [List.length_replicate] at k
    have e1 : ((((E) ++ putE l.t (256 * l.a)) ++ putE l.s (l.a)) ++ putE l.f (l.b * l.a)) ++ putE l.st l.a = E ++ suE l := by simp [suE, List.append_assoc]
    rw [← e1]
    exact k)
  go_region_held3 (fun W => W.cell? ⟨cb, 0, none⟩ = some (.pointer (some ⟨g, 0, none⟩)) ∧ W.cell? ⟨w.heap.size, 5, none⟩ = some (.int .i64 l.st) ∧ W.cell? ⟨w.heap.size, 0, none⟩ = some (.int .i64 l.a))
    (first | with_reducible assumption | go_keep)
    (first | (go_at_call 44; refine (HP4.out _ rfl).mono ?_; rintro e v4 ⟨rfl, a4'⟩; have Y4 := Lib.hid a4'; clear a4'; obtain ⟨c0, c2, c3, c4, c5, t2, t3, t4, m0, -, -⟩ := GC.out _ Y4.out.2))
  have r0 := (GC.out _ Y4.out.2).2.2.2.2.2.2.2.2.2.2.cell 0
  have fr := (GC.out _ Y4.out.2).2.2.2.2.2.2.2.2.2.2.frozen 0
  go_wp2_with fail
  have hq := GC.out _ Y4.out.2
  have hr := hq.2.2.2.2.2.2.2.2.2.2
  have hm := hq.2.2.2.2.2.2.2.2.2.1
  have o5 := off_same (i := 0) (u := .int .i64 0) hr rfl
  have q0 : (v4.setCell ⟨w.heap.size + 2, 0, none⟩ (.int .i64 0)).cell? ⟨cb, 0, none⟩ = some (.pointer (some ⟨g, 0, none⟩)) := (o5.cell_old (by have := X2.out.2.2.2.2.2.2.lt; exact Nat.lt_of_lt_of_le this Y4.out.2.size) 0).trans hq.2.2.2.2.2.2.2.2.1
  have hr2 := hr.to (o5.block _ hr.lt id)
  have hm2 := hm.to (o5.block _ hm.lt id)
  refine leaves_cons (f := 43) (args := #[.pointer (some ⟨cb, 0, none⟩), .pointer (some ⟨w.heap.size + 2, 0, none⟩)]) (by simp) (by simp [go_sem]) ?_
  refine (ndefer_setup g cb (w.heap.size + 2) _ (macC p l.lay) _ q0 hm2 rfl hr2).mono ?_
  rintro e u' w'' ⟨rfl, rfl, o6, rfl⟩
  have hr3 := hr2.put 0 (.int .i64 0)
  have r1 : ((v4.setCell ⟨w.heap.size + 2, 0, none⟩ (.int .i64 0)).setCell ⟨w.heap.size + 2, 0, none⟩ (.int .i64 0)).cell? ⟨w.heap.size + 1 + 1, 0, none⟩ = some (.int .i64 0) := hr3.cell 0
  have YE := Lib.hid (ArTo.pre HA.out X2.out.1 (Y4.out.trans (ArTo.off Y4.out.1 (o5.also o6))))
  simp [Leaves, settle, results, Tryz.results15, go_sem, r1]
  exact YE.out
end Go.Proofs.YtkflicifngohcaaGreatDoor

/-
  engine.Clear and State in general, where nothing is wrong.
-/
namespace Go.Proofs.YtkflicifngohcaaGreatDoor
open Go.RowKit
set_option linter.unusedVariables false
set_option linter.unusedSimpArgs false
set_option maxRecDepth 100000
def clC (l : LayN) (C : List (BitVec 64)) : List (BitVec 64) := setL C l.st (List.replicate l.a 0)
def clE (l : LayN) : List Ev := putE l.st l.a
set_option maxHeartbeats 8000000 in
theorem nclear_any (l : LayN) (w : World) (F : Nat → Prop) (p : Nat) (C : List (BitVec 64)) (E : List Ev) (h : Ar w F p C E) (hl : l.lay.Ok C.length) (hi : l.In C.length) (hE : E.length + l.a < 8388608) :
    Calls Tryz.prog 17 #[.pointer (some ⟨p, 0, none⟩), .agg #[.int .i64 l.a, .int .i64 l.b, .int .i64 l.t, .int .i64 l.s, .int .i64 l.f, .int .i64 l.st, .int .i64 l.n, .int .i64 l.h]] w fun e w' => e = .returned (.int .i64 0) ∧ ArTo w F p (clC l C) (E ++ clE l) w' := by
  have hmf : ∀ (fn : Fn) (first cap : Array Value) (w : World), (Instr.makeFunc fn first cap).run Tryz.prog w = .ok (.func fn first cap) w := fun _ _ _ _ => rfl
  have HA := Lib.hid h
  have HL := Lib.hid hl
  have HE := Lib.hid hE
  obtain ⟨a1, a4, b1, b16, it, is, if_, ist, in_, ih⟩ := hi
  clear h hl hE
  go_enter_defers Tryz.func17, Tryz.ntmps17
  have X0 : Hid (Off Nob w ((w.alloc (.cells #[.int .i64 l.a, .int .i64 l.b, .int .i64 l.t, .int .i64 l.s, .int .i64 l.f, .int .i64 l.st, .int .i64 l.n, .int .i64 l.h] 33)).alloc (.cells #[.int .i64 0] 29)) ∧ Blk ((w.alloc (.cells #[.int .i64 l.a, .int .i64 l.b, .int .i64 l.t, .int .i64 l.s, .int .i64 l.f, .int .i64 l.st, .int .i64 l.n, .int .i64 l.h] 33)).alloc (.cells #[.int .i64 0] 29)) w.heap.size 33 #[.int .i64 l.a, .int .i64 l.b, .int .i64 l.t, .int .i64 l.s, .int .i64 l.f, .int .i64 l.st, .int .i64 l.n, .int .i64 l.h] ∧ Blk ((w.alloc (.cells #[.int .i64 l.a, .int .i64 l.b, .int .i64 l.t, .int .i64 l.s, .int .i64 l.f, .int .i64 l.st, .int .i64 l.n, .int .i64 l.h] 33)).alloc (.cells #[.int .i64 0] 29)) (w.heap.size + 1) 29 #[.int .i64 0] ∧ ((w.alloc (.cells #[.int .i64 l.a, .int .i64 l.b, .int .i64 l.t, .int .i64 l.s, .int .i64 l.f, .int .i64 l.st, .int .i64 l.n, .int .i64 l.h] 33)).alloc (.cells #[.int .i64 0] 29)).heap.size = w.heap.size + 2) := Lib.hid ⟨((Off.refl _ _).alloc _).alloc _, (Blk.new _ _ _).alloc _, blk_second _ _ _ _, by simp⟩
  go_wp2_with fail
  revert X0
  generalize ((w.alloc (.cells #[.int .i64 l.a, .int .i64 l.b, .int .i64 l.t, .int .i64 l.s, .int .i64 l.f, .int .i64 l.st, .int .i64 l.n, .int .i64 l.h] 33)).alloc (.cells #[.int .i64 0] 29)) = w0
  intro X0
  have c0 := X0.out.2.1.cell 0
  have c1 := X0.out.2.1.cell 1
  have c2 := X0.out.2.1.cell 2
  have c3 := X0.out.2.1.cell 3
  have c4 := X0.out.2.1.cell 4
  have c5 := X0.out.2.1.cell 5
  have c6 := X0.out.2.1.cell 6
  have c7 := X0.out.2.1.cell 7
  have r0 := X0.out.2.2.1.cell 0
  have fr := X0.out.2.2.1.frozen 0
  have HBG := Lib.hid (nbegin_none l.lay w0 F p C E (HA.out.keep X0.out.1 (fun _ _ hn => hn)) HL.out (l.a : Int) (by omega) (by have := HE.out; omega) (fun W _ => nask_none W))
  go_wp2_with fail
  refine HBG.out.mono ?_
  rintro e w1 ⟨g, rfl, hg1, hg2, o1⟩
  have X1 := Lib.hid (And.intro (X0.out.1.also o1) (And.intro (X0.out.2.1.to (o1.block _ X0.out.2.1.lt id)) (And.intro (X0.out.2.2.1.to (o1.block _ X0.out.2.2.1.lt id)) (And.intro hg2 (And.intro hg1 o1.size)))))
  clear c0 c1 c2 c3 c4 c5 c6 c7 r0 fr HBG hg1 hg2 o1
  have R0 := Lib.hid (X1.out.2.2.1.alloc (.cells #[.pointer (some ⟨g, 0, none⟩)] 107))
  have hO := (Off.alloc (Off.refl Nob w1) (.cells #[.pointer (some ⟨g, 0, none⟩)] 107)).also (off_same (i := 0) (u := .int .i64 0) R0.out rfl)
  have r0 := R0.out.cell 0
  have fr := R0.out.frozen 0
  have hMV : Blk ((w1.alloc (.cells #[.pointer (some ⟨g, 0, none⟩)] 107)).setCell ⟨w.heap.size + 1, 0, none⟩ (.int .i64 0)) w1.heap.size 107 #[.pointer (some ⟨g, 0, none⟩)] := (Blk.new w1 107 #[.pointer (some ⟨g, 0, none⟩)]).far (by have := X1.out.2.2.1.lt; simp; omega) _
  have r0' : ((w1.alloc (.cells #[.pointer (some ⟨g, 0, none⟩)] 107)).setCell ⟨w.heap.size + 1, 0, none⟩ (.int .i64 0)).cell? ⟨w.heap.size + 1, 0, none⟩ = some (.int .i64 0) := (X1.out.2.2.1.to (hO.block _ X1.out.2.2.1.lt id)).cell 0
  have fr' : ((w1.alloc (.cells #[.pointer (some ⟨g, 0, none⟩)] 107)).setCell ⟨w.heap.size + 1, 0, none⟩ (.int .i64 0)).frozen? ⟨w.heap.size + 1, 0, none⟩ = false := (X1.out.2.2.1.to (hO.block _ X1.out.2.2.1.lt id)).frozen 0
  have m0 := hMV.cell 0
  have X2 : Hid (Off Nob w ((w1.alloc (.cells #[.pointer (some ⟨g, 0, none⟩)] 107)).setCell ⟨w.heap.size + 1, 0, none⟩ (.int .i64 0)) ∧ Blk ((w1.alloc (.cells #[.pointer (some ⟨g, 0, none⟩)] 107)).setCell ⟨w.heap.size + 1, 0, none⟩ (.int .i64 0)) w.heap.size 33 #[.int .i64 l.a, .int .i64 l.b, .int .i64 l.t, .int .i64 l.s, .int .i64 l.f, .int .i64 l.st, .int .i64 l.n, .int .i64 l.h] ∧ Blk ((w1.alloc (.cells #[.pointer (some ⟨g, 0, none⟩)] 107)).setCell ⟨w.heap.size + 1, 0, none⟩ (.int .i64 0)) (w.heap.size + 1) 29 #[.int .i64 0] ∧ Blk ((w1.alloc (.cells #[.pointer (some ⟨g, 0, none⟩)] 107)).setCell ⟨w.heap.size + 1, 0, none⟩ (.int .i64 0)) g 112 (macC p l.lay) ∧ w.heap.size ≤ g ∧ Blk ((w1.alloc (.cells #[.pointer (some ⟨g, 0, none⟩)] 107)).setCell ⟨w.heap.size + 1, 0, none⟩ (.int .i64 0)) w1.heap.size 107 #[.pointer (some ⟨g, 0, none⟩)]) := Lib.hid ⟨X1.out.1.also hO, X1.out.2.1.to (hO.block _ X1.out.2.1.lt id), X1.out.2.2.1.to (hO.block _ X1.out.2.2.1.lt id), X1.out.2.2.2.1.to (hO.block _ X1.out.2.2.2.1.lt id), by have := X0.out.1.size; have := X1.out.2.2.2.2.1; omega, hMV⟩
  clear hO hMV R0
  go_wp2_with fail
  obtain ⟨cb, hcb⟩ : ∃ cb, w1.heap.size = cb := ⟨_, rfl⟩
  have hcb2 : w.heap.size ≤ cb := by rw [← hcb]; exact X1.out.1.size
  rw [hcb] at X2 ⊢
  clear r0 fr r0' fr' m0 hcb X1 X0
  revert X2
  generalize ((w1.alloc (.cells #[.pointer (some ⟨g, 0, none⟩)] 107)).setCell ⟨w.heap.size + 1, 0, none⟩ (.int .i64 0)) = W0
  intro X2
  have hgF : ∀ k, w.heap.size ≤ k → ¬ F k := fun k hk hf => by have := HA.out.lt k hf; omega
  have GC : Hid (∀ W, Off F W0 W → W.cell? ⟨w.heap.size, 0, none⟩ = some (.int .i64 l.a) ∧ W.cell? ⟨w.heap.size, 5, none⟩ = some (.int .i64 l.st) ∧ W.cell? ⟨cb, 0, none⟩ = some (.pointer (some ⟨g, 0, none⟩)) ∧ Blk W g 112 (macC p l.lay) ∧ Blk W (w.heap.size + 1) 29 #[.int .i64 0]) := Lib.hid (fun W o => by
    have h1 := X2.out.2.1.to (o.block _ X2.out.2.1.lt (hgF _ (by omega)))
    have h3 := X2.out.2.2.2.2.2.to (o.block _ X2.out.2.2.2.2.2.lt (hgF _ hcb2))
    exact ⟨h1.cell 0, h1.cell 5, h3.cell 0, X2.out.2.2.2.1.to (o.block _ X2.out.2.2.2.1.lt (hgF _ X2.out.2.2.2.2.1)), X2.out.2.2.1.to (o.block _ X2.out.2.2.1.lt (hgF _ (by omega)))⟩)
  have HG := Lib.hid (show g < W0.heap.size ∧ ¬ F g from ⟨X2.out.2.2.2.1.lt, hgF _ X2.out.2.2.2.2.1⟩)
  have Y0 := Lib.hid (ArTo.refl (HA.out.keep X2.out.1 (fun _ _ hn => hn)))
  clear hgF
  obtain ⟨c0, c5, m0, -, -⟩ := GC.out _ Y0.out.2
  have hms := make_any l.a a1 a4
  have HP4 : Hid (∀ V, V = (W0.alloc (.cells (List.replicate l.a (Value.int .u64 0)).toArray 41)).drew → Calls Tryz.prog 44 #[.pointer (some ⟨g, 0, none⟩), .int .i64 l.st, .slice (some ⟨W0.heap.size, 0, none⟩) l.a l.a] V fun e w' => e = .returned (.tuple #[]) ∧ ArTo W0 F p (clC l C) (E ++ clE l) w') := Lib.hid (fun V hV => by
    have o : Off Nob W0 V := by rw [hV]; exact (Off.alloc (Off.refl Nob W0) _).drew
    have hb := (GC.out _ Y0.out.2).2.2.2.1
    have hg : ¬ Grow F W0 W0 g := fun hg => hg.elim HG.out.2 (fun h => by have := HG.out.1; omega)
    have hl : Rd V (fun k => ¬ Grow F W0 W0 k) 1 (.slice (some ⟨W0.heap.size, 0, none⟩) l.a l.a) (List.replicate l.a (0 : BitVec 64)).length ((List.replicate l.a (0 : BitVec 64)).map fun u => .int .u64 (n64 u)) := by
      rw [hV, zeros_eq, List.length_replicate]
      exact ⟨_, _, rfl, by unfold maxLen; omega, by simp, fun _ => ⟨W0.heap.size, 0, rfl, fun h => by have := Y0.out.1.lt _ h; omega, by simp, fun j u hu => by
        rw [Nat.zero_add]
        refine ((Blk.new W0 41 (List.replicate l.a (Value.int .u64 0)).toArray).cell j).trans ?_
        rw [List.getElem?_toArray]
        exact hu⟩⟩
    refine (nput g p l.st (macC p l.lay) (List.replicate l.a 0) _ _ (Grow F W0 W0) V _ (Y0.out.1.keep o (fun _ _ hn => hn)) (hb.to (o.block _ hb.lt id)) rfl rfl hg hl (by rw [List.length_replicate]; exact ist) (by rw [List.length_replicate]; exact HE.out)).mono ?_
    rintro e w' ⟨rfl, a⟩
    refine ⟨rfl, ?_⟩
    have k := Y0.out.trans (ArTo.pre Y0.out.1 o a)
    rw [List.length_replicate] at k
    exact k)
  go_region_held3 (fun W => W.cell? ⟨cb, 0, none⟩ = some (.pointer (some ⟨g, 0, none⟩)) ∧ W.cell? ⟨w.heap.size, 5, none⟩ = some (.int .i64 l.st) ∧ W.cell? ⟨w.heap.size, 0, none⟩ = some (.int .i64 l.a))
    (first | with_reducible assumption | go_keep)
    (first | (go_at_call 44; refine (HP4.out _ rfl).mono ?_; rintro e v4 ⟨rfl, a4'⟩; have Y4 := Lib.hid a4'; clear a4'; obtain ⟨c0, c5, m0, -, -⟩ := GC.out _ Y4.out.2))
  have r0 := (GC.out _ Y4.out.2).2.2.2.2.cell 0
  have fr := (GC.out _ Y4.out.2).2.2.2.2.frozen 0
  go_wp2_with fail
  have hq := GC.out _ Y4.out.2
  have hr := hq.2.2.2.2
  have hm := hq.2.2.2.1
  have o5 := off_same (i := 0) (u := .int .i64 0) hr rfl
  have q0 : (v4.setCell ⟨w.heap.size + 1, 0, none⟩ (.int .i64 0)).cell? ⟨cb, 0, none⟩ = some (.pointer (some ⟨g, 0, none⟩)) := (o5.cell_old (by have := X2.out.2.2.2.2.2.lt; exact Nat.lt_of_lt_of_le this Y4.out.2.size) 0).trans hq.2.2.1
  have hr2 := hr.to (o5.block _ hr.lt id)
  have hm2 := hm.to (o5.block _ hm.lt id)
  refine leaves_cons (f := 55) (args := #[.pointer (some ⟨cb, 0, none⟩), .pointer (some ⟨w.heap.size + 1, 0, none⟩)]) (by simp) (by simp [go_sem]) ?_
  refine (ndefer_clear g cb (w.heap.size + 1) _ (macC p l.lay) _ q0 hm2 rfl hr2).mono ?_
  rintro e u' w'' ⟨rfl, rfl, o6, rfl⟩
  have hr3 := hr2.put 0 (.int .i64 0)
  have r1 : ((v4.setCell ⟨w.heap.size + 1, 0, none⟩ (.int .i64 0)).setCell ⟨w.heap.size + 1, 0, none⟩ (.int .i64 0)).cell? ⟨w.heap.size + 1, 0, none⟩ = some (.int .i64 0) := hr3.cell 0
  have YE := Lib.hid (ArTo.pre HA.out X2.out.1 (Y4.out.trans (ArTo.off Y4.out.1 (o5.also o6))))
  simp [Leaves, settle, results, Tryz.results17, go_sem, r1]
  exact YE.out
theorem own_shape {w : World} {base n size : Nat} {t : TypeId} {v : Value} {L : List Value} (h : w.ownsRow base t size v n L) : ∃ A c, v = .slice A n c := by
  rcases h.2 with ⟨rfl, h0⟩ | ⟨g, cap, cur, rfl, _⟩
  · exact ⟨none, 0, by rw [h0]⟩
  · exact ⟨_, cap, rfl⟩
/-- The state's words. -/
def stL (l : LayN) (C : List (BitVec 64)) (k : Nat) : List (BitVec 64) := (List.range k).map (fun j => C.getD (l.st + j) 0)
theorem stL_succ (l : LayN) (C : List (BitVec 64)) (k : Nat) : stL l C (k + 1) = stL l C k ++ [C.getD (l.st + k) 0] := by
  unfold stL
  rw [List.range_succ, List.map_append]
  rfl
set_option maxHeartbeats 8000000 in
theorem nstate_any (l : LayN) (w : World) (F : Nat → Prop) (p : Nat) (C : List (BitVec 64)) (E : List Ev) (h : Ar w F p C E) (hl : l.lay.Ok C.length) (hi : l.In C.length) (hE : E.length + l.a < 8388608) :
    Calls Tryz.prog 18 #[.pointer (some ⟨p, 0, none⟩), .agg #[.int .i64 l.a, .int .i64 l.b, .int .i64 l.t, .int .i64 l.s, .int .i64 l.f, .int .i64 l.st, .int .i64 l.n, .int .i64 l.h]] w fun e w' => (∃ v, e = .returned (.tuple #[v, .int .i64 0]) ∧ Rd w' (fun k => w.heap.size ≤ k) 1 v l.a (u64s (stL l C l.a))) ∧ ArTo w F p C (ldE l.st E l.a) w' := by
  obtain ⟨i_u64, h_u64, z_u64, s_u64, b_u64⟩ := info_parts Tryz.infoU64
  have HA := Lib.hid h
  have HL := Lib.hid hl
  have HE := Lib.hid hE
  obtain ⟨a1, a4, b1, b16, it, is, if_, ist, in_, ih⟩ := hi
  clear h hl hE
  go_enter Tryz.func18, Tryz.ntmps18
  have X0 : Hid (Off Nob w (w.alloc (.cells #[.int .i64 l.a, .int .i64 l.b, .int .i64 l.t, .int .i64 l.s, .int .i64 l.f, .int .i64 l.st, .int .i64 l.n, .int .i64 l.h] 33)) ∧ Blk (w.alloc (.cells #[.int .i64 l.a, .int .i64 l.b, .int .i64 l.t, .int .i64 l.s, .int .i64 l.f, .int .i64 l.st, .int .i64 l.n, .int .i64 l.h] 33)) w.heap.size 33 #[.int .i64 l.a, .int .i64 l.b, .int .i64 l.t, .int .i64 l.s, .int .i64 l.f, .int .i64 l.st, .int .i64 l.n, .int .i64 l.h]) := Lib.hid ⟨(Off.refl _ _).alloc _, Blk.new _ _ _⟩
  go_wp2_with fail
  revert X0
  generalize (w.alloc (.cells #[.int .i64 l.a, .int .i64 l.b, .int .i64 l.t, .int .i64 l.s, .int .i64 l.f, .int .i64 l.st, .int .i64 l.n, .int .i64 l.h] 33)) = w0
  intro X0
  have c0 := X0.out.2.cell 0
  have c1 := X0.out.2.cell 1
  have c2 := X0.out.2.cell 2
  have c3 := X0.out.2.cell 3
  have c4 := X0.out.2.cell 4
  have c5 := X0.out.2.cell 5
  have c6 := X0.out.2.cell 6
  have c7 := X0.out.2.cell 7
  have HBG := Lib.hid (nbegin_none l.lay w0 F p C E (HA.out.keep X0.out.1 (fun _ _ hn => hn)) HL.out (l.a : Int) (by omega) (by have := HE.out; omega) (fun W _ => nask_none W))
  go_wp2_with fail
  refine HBG.out.mono ?_
  rintro e w1 ⟨g, rfl, hg1, hg2, o1⟩
  have X1 := Lib.hid (And.intro (X0.out.1.also o1) (And.intro (X0.out.2.to (o1.block _ X0.out.2.lt id)) (And.intro hg2 (show w.heap.size ≤ g by have := X0.out.1.size; omega))))
  clear c0 c1 c2 c3 c4 c5 c6 c7 HBG hg1 hg2 o1 X0
  have hgF : ∀ k, w.heap.size ≤ k → ¬ F k := fun k hk hf => by have := HA.out.lt k hf; omega
  have HGF := Lib.hid hgF
  have GC : Hid (∀ W, Off F w1 W → W.cell? ⟨w.heap.size, 0, none⟩ = some (.int .i64 l.a) ∧ W.cell? ⟨w.heap.size, 5, none⟩ = some (.int .i64 l.st) ∧ Blk W g 112 (macC p l.lay)) := Lib.hid (fun W o => by
    have h1 := X1.out.2.1.to (o.block _ X1.out.2.1.lt (hgF _ (Nat.le_refl _)))
    exact ⟨h1.cell 0, h1.cell 5, X1.out.2.2.1.to (o.block _ X1.out.2.2.1.lt (hgF _ X1.out.2.2.2))⟩)
  have Y0 := Lib.hid (HA.out.keep X1.out.1 (fun _ _ hn => hn))
  obtain ⟨c0, c5, -⟩ := GC.out _ (Off.refl _ _)
  go_wp2_with fail
  clear c0 c5 hgF
  go_loopw [4, 21] (fun v q wr => ∃ (k : Nat) (G : Nat → Prop), k ≤ l.a ∧ q = .int .i64 (k : Int) ∧ Ar wr G p C (ldE l.st E k) ∧ Off F w1 wr ∧ (∀ j, G j → F j ∨ w1.heap.size ≤ j) ∧ wr.ownsRow w1.heap.size 41 1 v k (u64s (stL l C k)) ∧ (∀ b, v.ownBlock = some b → ¬ G b)) (fun _ q _ => l.a - (intOf q).toNat)
  case atStart => exact ⟨0, F, Nat.zero_le _, rfl, Y0.out, Off.refl _ _, fun j hj => .inl hj, World.ownsRow_nil _ _ _ _, fun b hb => by cases hb⟩
  case round =>
    obtain ⟨k, G, hk, rfl, har, hoff, hG, hown, hnG⟩ := hrel
    obtain ⟨AA, cq, rfl⟩ := own_shape hown
    have HAR := Lib.hid har
    have HO := Lib.hid hoff
    have HG := Lib.hid hG
    have HOW := Lib.hid hown
    have HNG := Lib.hid hnG
    clear har hoff hG hown hnG Y0
    obtain ⟨c0, c5, -⟩ := GC.out _ HO.out
    by_cases hlt : k < l.a
    · have d1 : decide ((k : Int) < (l.a : Int)) = true := decide_eq_true (by omega)
      have hng : ¬ G g := fun h => by
        rcases HG.out g h with h | h
        · exact HGF.out g X1.out.2.2.2 h
        · have := X1.out.2.2.1.lt
          omega
      have HGET := Lib.hid (nget g p (l.st + k) (macC p l.lay) C (ldE l.st E k) G wr HAR.out (GC.out _ HO.out).2.2 rfl rfl hng (by omega) (by rw [length_ldE]; have := HE.out; omega))
      have hcast : ((l.st + k : Nat) : Int) = (l.st : Int) + (k : Int) := by push_cast; rfl
      rw [hcast] at HGET
      have HSU := Lib.hid (stL_succ l C k)
      have HMX := Lib.hid HAR.out.n2
      obtain ⟨x, hx⟩ : ∃ x, C.getD (l.st + k) 0 = x := ⟨_, rfl⟩
      rw [hx] at HGET HSU
      have hsb : (l.st : Int) + (k : Int) ≤ 65536 + 4 := by have := HMX.out; omega
      have hsb0 : (0 : Int) ≤ (l.st : Int) + (k : Int) := by omega
      clear hcast hng hx
      go_wp2_with fail
      refine HGET.out.mono ?_
      rintro e v1 ⟨rfl, z1⟩
      have A1 : Hid (Ar v1 (Grow G wr v1) p C (ldE l.st E (k + 1))) := Lib.hid z1.1
      have O1 : Hid (Off F w1 v1) := Lib.hid (HO.out.trans (z1.2.mono fun j hj e => (HG.out j e).elim .inl (fun h => .inr ⟨h, hj⟩)))
      have W1 : Hid (v1.ownsRow w1.heap.size 41 1 (.slice AA k cq) k (u64s (stL l C k))) := Lib.hid (own_to HOW.out (fun b hb => z1.2.block b (HOW.out.lt b hb).2 (HNG.out b hb)))
      have HSZ := Lib.hid z1.2.size
      have HLB := Lib.hid (fun b hb => (HOW.out.lt b hb).2)
      clear z1 HGET HAR HOW c0 c5
      obtain ⟨c0, c5, -⟩ := GC.out _ O1.out
      have HLX := Lib.hid (show (stL l C k).length = k by simp [stL])
      obtain ⟨M, hM⟩ : ∃ M, stL l C k = M := ⟨_, rfl⟩
      rw [hM] at W1 HSU HLX
      clear hM
      go_wp2_with (at_builtin; refine @wpList_append_lies _ _ _ _ _ _ _ rfl _ _ 23 rfl w1.heap.size 41 i_u64 (.int .u64 0) 1 8 Tryz.underlying23 h_u64 z_u64 s_u64 b_u64 rfl (by decide) (.slice AA k cq) k (u64s M) rfl (W1.out.alloc _) ⟨v1.heap.size, 0, none⟩ 1 1 [.int .u64 (n64 x)] rfl rfl ?c1 (by intro u hu; simp at hu; subst hu; rfl) (by decide) (by unfold maxLen; omega) (by omega) (by have := O1.out.size; simp; omega) _ rfl ?_)
      case c1 => exact cell_one _ _ _
      intro g' cap w4 hown hgrow hat hltg
      have OB : Off (fun b => (Value.slice AA k cq).ownBlock = some b) v1 w4 := Off.grown (Off.alloc (Off.refl _ _) _) hgrow (fun j hj => .inl hj)
      have ST : Hid (Ar w4 (Grow G wr v1) p C (ldE l.st E (k + 1)) ∧ Off F w1 w4 ∧ w4.ownsRow w1.heap.size 41 1 (.slice (some ⟨g', 0, none⟩) (k + 1) cap) (k + 1) (u64s (stL l C (k + 1))) ∧ ¬ Grow G wr v1 g') := Lib.hid ⟨A1.out.keep OB (fun j hj e => by
          rcases hj with h | h
          · exact HNG.out j e h
          · have := HLB.out j e
            omega), O1.out.trans (OB.mono fun j hj e => .inr ⟨(W1.out.lt j e).1, hj⟩), by rw [HSU.out]; unfold u64s at hown ⊢; rw [List.map_append]; exact hown, fun h => by
          rcases hat with e | e
          · rcases h with h | h
            · exact HNG.out g' e h
            · have := HLB.out g' e
              omega
          · rcases h with h | h
            · have h2 := A1.out.lt g' (.inl h)
              first | omega | (simp at e; omega)
            · have h2 := h.2
              first | omega | (simp at e; omega)⟩
      have HG2 := Lib.hid (show ∀ j, Grow G wr v1 j → F j ∨ w1.heap.size ≤ j from fun j hj => by
        rcases hj with h | h
        · exact HG.out j h
        · have := HO.out.size
          exact .inr (by omega))
      clear hown hgrow hat hltg OB A1 O1 W1 c0 c5
      go_wp2_with fail
      go_roundw
      case rel => exact ⟨k + 1, Grow G wr v1, hlt, by go_num, ST.out.1, ST.out.2.1, HG2.out, ST.out.2.2.1, fun b hb => by
        injection hb with hb
        subst hb
        exact ST.out.2.2.2⟩
      case measure => simp [intOf]; omega
    · obtain rfl : l.a = k := by omega
      have d1 : decide ((l.a : Int) < (l.a : Int)) = false := decide_eq_false (by omega)
      have m9 := (GC.out _ HO.out).2.2.cell 9
      have m9' : wr.cell? ⟨g, 9, none⟩ = some (.int .i64 0) := m9
      clear m9
      go_wp2_with fail
      go_quiet (fail)
      have HF : Hid ((∃ v, Ending.returned (.tuple #[.slice AA l.a cq, .int .i64 0]) = Ending.returned (.tuple #[v, .int .i64 0]) ∧ Rd (wr.drewN nq) (fun k => w.heap.size ≤ k) 1 v l.a (u64s (stL l C l.a))) ∧ ArTo w F p C (ldE l.st E l.a) (wr.drewN nq)) := Lib.hid (by
        have hsz := X1.out.1.size
        refine ⟨⟨_, rfl, (Rd.own HOW.out (fun b hb => by have := (HOW.out.lt b hb).1; omega)).drewN nq⟩, ?_, (Off.ofNob X1.out.1).also (HO.out.drewN nq)⟩
        refine (HAR.out.keep ((Off.refl Nob wr).drewN nq) (fun _ _ h => h)).mono (fun j hj => ?_) (fun j hj => ?_)
        · rcases HG.out j hj with h | h
          · exact .inl h
          · exact .inr ⟨by omega, HAR.out.lt j hj⟩
        · rcases hj with h | h
          · have h2 := HA.out.lt j h
            have := HO.out.size
            show j < wr.heap.size
            omega
          · exact h.2)
      go_wp2_with fail
      go_ret2
      exact HF.out
end Go.Proofs.YtkflicifngohcaaGreatDoor

/-
  engine.Byte over cells that agree: it leads to the same cells.
-/
namespace Go.Proofs.YtkflicifngohcaaGreatDoor
open Go.RowKit
set_option linter.unusedVariables false
set_option linter.unusedSimpArgs false
/-- The parts of a layout stand one behind the other, from the state on. -/
structure LayN.Seq (l : LayN) : Prop where
  n : l.n = l.st + l.a
  h : l.h = l.n + l.a
  t : l.t + 256 * l.a ≤ l.st
  s : l.s + l.a ≤ l.st
  f : l.f + l.b * l.a ≤ l.st
def AgreeTo (C D : List (BitVec 64)) (N : Nat) : Prop := C.length = D.length ∧ ∀ i, i < N → C.getD i 0 = D.getD i 0
theorem getD_set64 (L : List (BitVec 64)) (i j : Nat) (v : BitVec 64) : (L.set i v).getD j 0 = if i = j ∧ i < L.length then v else L.getD j 0 := by
  rw [List.getD_eq_getElem?_getD, List.getElem?_set, List.getD_eq_getElem?_getD]
  by_cases e : i = j
  · subst e
    by_cases h : i < L.length
    · simp [h]
    · simp [h]
  · simp [e]
theorem AgreeTo.set {C D : List (BitVec 64)} {N : Nat} (h : AgreeTo C D N) {v w : BitVec 64} (e : v = w) : AgreeTo (C.set N v) (D.set N w) (N + 1) := by
  subst e
  refine ⟨by simp [h.1], fun i hi => ?_⟩
  rw [getD_set64, getD_set64, h.1]
  by_cases hi2 : i = N
  · subst hi2
    by_cases hl : i < D.length
    · simp [hl]
    · have h1 : C.getD i 0 = 0 := by rw [List.getD_eq_getElem?_getD, List.getElem?_eq_none (by have := h.1; omega)]; rfl
      have h2 : D.getD i 0 = 0 := by rw [List.getD_eq_getElem?_getD, List.getElem?_eq_none (by omega)]; rfl
      rw [if_neg (fun e => hl e.2), if_neg (fun e => hl e.2), h1, h2]
  · rw [if_neg (fun e => hi2 e.1.symm), if_neg (fun e => hi2 e.1.symm)]
    exact h.2 i (by omega)
theorem AgreeTo.at {C D : List (BitVec 64)} {N x : Nat} (h : AgreeTo C D N) {v w : BitVec 64} (e : v = w) : AgreeTo (C.set x v) (D.set x w) N := by
  subst e
  refine ⟨by simp [h.1], fun i hi => ?_⟩
  rw [getD_set64, getD_set64, h.1, h.2 i hi]
theorem AgreeTo.eq {C D : List (BitVec 64)} {N : Nat} (h : AgreeTo C D N) (hn : C.length ≤ N) : C = D := by
  apply List.ext_getElem h.1
  intro i h1 h2
  have := h.2 i (by omega)
  rwa [List.getD_eq_getElem?_getD, List.getElem?_eq_getElem h1, List.getD_eq_getElem?_getD, List.getElem?_eq_getElem h2] at this
theorem AgreeTo.of_eq {C D : List (BitVec 64)} (h : C = D) (N : Nat) : AgreeTo C D N := by subst h; exact ⟨rfl, fun _ _ => rfl⟩
theorem gvF_congr {V U : Nat → BitVec 64} (idx : BitVec 64) : ∀ k : Nat, (∀ i, i < k → V i = U i) → gvF V idx k = gvF U idx k
  | 0, _ => rfl
  | k + 1, h => by
    show gvF V idx k ||| _ = gvF U idx k ||| _
    rw [gvF_congr idx k (fun i hi => h i (by omega)), h k (by omega)]
section
variable {l : LayN} {x m : BitVec 64} {C D : List (BitVec 64)}
theorem b1C_agree (hs : l.Seq) (h : AgreeTo C D l.n) : ∀ k : Nat, k ≤ l.a → AgreeTo (b1C l x C k) (b1C l x D k) (l.n + k)
  | 0, _ => h
  | k + 1, hk => by
    have ih := b1C_agree hs h k (by omega)
    show AgreeTo ((b1C l x C k).set (l.n + k) _) ((b1C l x D k).set (l.n + k) _) (l.n + k + 1)
    refine ih.set (gvF_congr x 256 (fun i hi => ?_))
    have h1 := hs.t
    have h2 := hs.n
    exact ih.2 _ (by omega)
theorem b2S_agree (hs : l.Seq) (h : AgreeTo C D l.h) : ∀ k : Nat, k ≤ l.a → AgreeTo (b2S l m C k).1 (b2S l m D k).1 l.h ∧ (b2S l m C k).2 = (b2S l m D k).2
  | 0, _ => ⟨h, rfl⟩
  | k + 1, hk => by
    obtain ⟨i1, i2⟩ := b2S_agree hs h k (by omega)
    have h1 := hs.n
    have h2 := hs.h
    have h3 := hs.s
    have e1 := i1.2 (l.st + k) (by omega)
    have e2 := i1.2 (l.s + k) (by omega)
    have e3 := i1.2 (l.n + k) (by omega)
    refine ⟨?_, ?_⟩
    · show AgreeTo ((b2S l m C k).1.set (l.st + k) _) ((b2S l m D k).1.set (l.st + k) _) l.h
      refine i1.at ?_
      rw [e1, e2, e3, i2]
    · show (b2S l m C k).1.getD (l.st + k) 0 >>> 63 = (b2S l m D k).1.getD (l.st + k) 0 >>> 63
      rw [e1]
theorem b3I_congr (hs : l.Seq) {N : Nat} (hN : l.h ≤ N) (h : AgreeTo C D N) {r : Nat} (hr : r < l.b) : ∀ k : Nat, k ≤ l.a → b3I l C r k = b3I l D r k
  | 0, _ => rfl
  | k + 1, hk => by
    have ih := b3I_congr hs hN h hr k (by omega)
    show b3I l C r k ||| _ = b3I l D r k ||| _
    have h1 := hs.n
    have h2 := hs.h
    have h3 := hs.f
    have h4 : (r + 1) * l.a ≤ l.b * l.a := Nat.mul_le_mul_right _ hr
    rw [Nat.add_mul] at h4
    rw [ih, h.2 (l.f + r * l.a + k) (by omega), h.2 (l.st + k) (by omega)]
theorem b3C_agree (hs : l.Seq) (h : AgreeTo C D l.h) : ∀ r : Nat, r ≤ l.b → AgreeTo (b3C l m C r) (b3C l m D r) (l.h + r)
  | 0, _ => h
  | r + 1, hr => by
    have ih := b3C_agree hs h r (by omega)
    show AgreeTo ((b3C l m C r).set (l.h + r) _) ((b3C l m D r).set (l.h + r) _) (l.h + r + 1)
    refine ih.set ?_
    rw [b3I_congr hs (Nat.le_add_right _ _) ih (by omega) l.a (Nat.le_refl _)]
/-- Cells that agree ahead of the next row: a byte leads to the same cells. -/
theorem byC_agree (hs : l.Seq) (h : AgreeTo C D l.n) (hn : C.length ≤ l.h + l.b) : byC l x m C = byC l x m D := by
  have h1 := b1C_agree (x := x) hs h l.a (Nat.le_refl _)
  rw [← hs.h] at h1
  have h2 := (b2S_agree (m := m) hs h1 l.a (Nat.le_refl _)).1
  have h3 := b3C_agree (m := m) hs h2 l.b (Nat.le_refl _)
  exact h3.eq (by rw [b3C_len, b2S_len, b1C_len]; exact hn)
theorem b1C_low (hs : l.Seq) {i : Nat} (hi : i < l.n) : ∀ k : Nat, (b1C l x C k).getD i 0 = C.getD i 0
  | 0 => rfl
  | k + 1 => by
    show ((b1C l x C k).set (l.n + k) _).getD i 0 = _
    rw [getD_set64, if_neg (by omega), b1C_low hs hi k]
theorem b2S_low {i : Nat} (hi : i < l.st) : ∀ k : Nat, (b2S l m C k).1.getD i 0 = C.getD i 0
  | 0 => rfl
  | k + 1 => by
    show ((b2S l m C k).1.set (l.st + k) _).getD i 0 = _
    rw [getD_set64, if_neg (by omega), b2S_low hi k]
theorem b3C_low {i : Nat} (hi : i < l.h) : ∀ r : Nat, (b3C l m C r).getD i 0 = C.getD i 0
  | 0 => rfl
  | r + 1 => by
    show ((b3C l m C r).set (l.h + r) _).getD i 0 = _
    rw [getD_set64, if_neg (by omega), b3C_low hi r]
theorem byC_low (hs : l.Seq) {i : Nat} (hi : i < l.st) : (byC l x m C).getD i 0 = C.getD i 0 := by
  have h1 := hs.n
  have h2 := hs.h
  unfold byC
  rw [b3C_low (by omega), b2S_low hi, b1C_low hs (by omega)]
end
theorem setL_get (L : List (BitVec 64)) : ∀ (C : List (BitVec 64)) (x i : Nat), x + L.length ≤ C.length → (setL C x L).getD i 0 = if x ≤ i ∧ i < x + L.length then L.getD (i - x) 0 else C.getD i 0 := by
  induction L with
  | nil => intro C x i _; simp [setL]; intro h1 h2; omega
  | cons v L ih =>
    intro C x i h
    simp only [List.length_cons] at h ⊢
    rw [setL, ih _ _ _ (by rw [List.length_set]; omega), getD_set64]
    by_cases h1 : x + 1 ≤ i ∧ i < x + 1 + L.length
    · rw [if_pos h1, if_pos (by omega), show i - x = (i - (x + 1)) + 1 from by omega, List.getD_cons_succ]
    · rw [if_neg h1]
      by_cases h2 : x = i
      · subst h2
        rw [if_pos ⟨rfl, by omega⟩, if_pos (by omega)]
        simp
      · rw [if_neg (fun e => h2 e.1), if_neg (by omega)]
theorem clC_get {l : LayN} {C : List (BitVec 64)} (h : l.st + l.a ≤ C.length) (i : Nat) : (clC l C).getD i 0 = if l.st ≤ i ∧ i < l.st + l.a then 0 else C.getD i 0 := by
  unfold clC
  rw [setL_get _ _ _ _ (by rw [List.length_replicate]; exact h), List.length_replicate]
  split
  · rw [List.getD_eq_getElem?_getD, List.getElem?_replicate]
    split <;> rfl
  · rfl
/-- Behind bytes, cleared, the cells ahead of the next row are those behind Setup. -/
theorem clear_agree {l : LayN} (hs : l.Seq) {C0 C : List (BitVec 64)} {T S Fi : List Nat} (hl : C.length = (suC l T S Fi C0).length) (h : l.st + l.a ≤ C0.length) (hlow : ∀ i, i < l.st → C.getD i 0 = (suC l T S Fi C0).getD i 0) : AgreeTo (clC l C) (suC l T S Fi C0) l.n := by
  have h0 := suC_len l T S Fi C0
  refine ⟨by unfold clC; rw [setL_length]; exact hl, fun i hi => ?_⟩
  rw [clC_get (by omega)]
  have h1 := hs.n
  by_cases h2 : l.st ≤ i
  · rw [if_pos ⟨h2, by omega⟩]
    unfold suC
    rw [setL_get _ _ _ _ (by rw [List.length_replicate]; simp only [setL_length]; exact h), List.length_replicate, if_pos ⟨h2, by omega⟩, List.getD_eq_getElem?_getD, List.getElem?_replicate]
    split <;> rfl
  · rw [if_neg (by omega)]
    exact hlow i (by omega)
theorem stL_clear {l : LayN} {C : List (BitVec 64)} (h : l.st + l.a ≤ C.length) : stL l (clC l C) l.a = List.replicate l.a 0 := by
  unfold stL
  apply List.ext_getElem (by simp)
  intro i h1 h2
  simp only [List.length_map, List.length_range] at h1
  simp only [List.getElem_map, List.getElem_range, List.getElem_replicate]
  rw [clC_get h, if_pos ⟨by omega, by omega⟩]
end Go.Proofs.YtkflicifngohcaaGreatDoor
