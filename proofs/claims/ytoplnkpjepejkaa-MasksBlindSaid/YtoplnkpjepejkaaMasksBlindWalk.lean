/-
  The walk of dragnetlaw07.MasksBlind.
-/
import Derived.Test.YtoplnkpjepejkaaDo07
import Derived.Test.YtoplnkpjepejkaaAwake07
import Derived.Test.YtoplnkpjepejkaaOpen
import Derived.Test.YtoplnkpjepejkaaTwin
import Derived.Test.YtoplnkpjepejkaaFive
import Derived.RegionTactic
import Derived.BigRegion
import Derived.Deep.DeepCutAuto
namespace Go.Proofs.Ytoplnkpjepejkaa
open Go.RowKit Go.ChangeShapes Go.WideShapes Go.ChangeAt
attribute [local go_sem] bits_and_u64 bits_or_u64 bits_xor_u64 bits_andNot_u64 wrap_u64 bv_add bv_neg bv_sub bv_mul
set_option linter.unusedVariables false
set_option maxRecDepth 100000
attribute [local go_sem ↓] run_max_nat
/-- The errors and the steps do not depend on the cells, nor on the masks. -/
def ckB (n nE : Nat) (k steps : Int) (rows : List Int) : Int := if rowsE n k rows = 0 then roomE nE steps else rowsE n k rows
theorem ckE_blind (n nE : Nat) (m : BitVec 64) (hm : isM m = true) (k steps : Int) (rows : List Int) : ckE n nE m k steps rows = ckB n nE k steps rows := by unfold ckE ckB; rw [if_pos hm]
def rwB (n nE : Nat) (x y k steps : Int) : Int :=
  if k < 1 ∨ 64 < k then 7 else if ckB n nE k 0 [x, y] = 0 then if x < y + k ∧ y < x + k then 2 else roomE nE (steps * k) else ckB n nE k 0 [x, y]
theorem rwE_blind (n nE : Nat) (m : BitVec 64) (hm : isM m = true) (x y k steps : Int) : rwE n nE m x y k steps = rwB n nE x y k steps := by unfold rwE rwB; rw [if_pos hm, ckE_blind _ _ _ hm]
def swE4 (x y : Nat) : List Ev := [(1, x), (1, y), (2, x), (2, y)]
def mvE3 (x y : Nat) : List Ev := [(1, x), (1, y), (2, y)]
def rowsV (g : Nat → List Ev) (k : Nat) : List Ev := (List.range k).flatMap g
theorem rowsV_succ (g : Nat → List Ev) (k : Nat) : rowsV g (k + 1) = rowsV g k ++ g k := by unfold rowsV; rw [List.range_succ, List.flatMap_append]; simp
theorem rep_sw_ev (m : BitVec 64) (x y : Nat) (C : List (BitVec 64)) (E : List Ev) (k : Nat) : (rep (swF m x y) (C, E) k).2 = E ++ rowsV (fun i => swE4 (x + i) (y + i)) k := by
  induction k with
  | zero => rw [rep_zero]; simp [rowsV]
  | succ k ih => rw [rep_succ, rowsV_succ]; unfold swF; show (rep (swF m x y) (C, E) k).2 ++ _ = _; rw [ih, List.append_assoc]; rfl
theorem rep_mv_ev (m : BitVec 64) (x y : Nat) (C : List (BitVec 64)) (E : List Ev) (k : Nat) : (rep (mvF m x y) (C, E) k).2 = E ++ rowsV (fun i => mvE3 (x + i) (y + i)) k := by
  induction k with
  | zero => rw [rep_zero]; simp [rowsV]
  | succ k ih => rw [rep_succ, rowsV_succ]; unfold mvF; show (rep (mvF m x y) (C, E) k).2 ++ _ = _; rw [ih, List.append_assoc]; rfl
def swV (n : Nat) (E : List Ev) (x y : Int) : List Ev := if ckB n E.length 1 4 [x, y] = 0 then E ++ swE4 x.toNat y.toNat else E
def mvV (n : Nat) (E : List Ev) (x y : Int) : List Ev := if ckB n E.length 1 3 [x, y] = 0 then E ++ mvE3 x.toNat y.toNat else E
def clV (n : Nat) (E : List Ev) (x : Int) : List Ev := if ckB n E.length 1 2 [x] = 0 then E ++ [(1, x.toNat), (2, x.toNat)] else E
def srV (n : Nat) (E : List Ev) (x y z : Int) : List Ev := if rwB n E.length x y z 4 = 0 then E ++ rowsV (fun i => swE4 (x.toNat + i) (y.toNat + i)) z.toNat else E
def mrV (n : Nat) (E : List Ev) (x y z : Int) : List Ev := if rwB n E.length x y z 3 = 0 then E ++ rowsV (fun i => mvE3 (x.toNat + i) (y.toNat + i)) z.toNat else E
theorem isM_ofM (a : BitVec 64) : isM (ofM a) = true := by unfold ofM; exact isM_msk _
theorem swR_bl (C : List (BitVec 64)) (E : List Ev) (m : BitVec 64) (hm : isM m = true) (x y : Int) : (swR C E m x y).1 = ckB C.length E.length 1 4 [x, y] ∧ (swR C E m x y).2.2 = swV C.length E x y ∧ (swR C E m x y).2.1.length = C.length := by
  unfold swR swV
  rw [ckE_blind _ _ _ hm]
  split
  · rename_i h; exact ⟨h.symm, rfl, swC_length _ _ _ _⟩
  · exact ⟨rfl, rfl, rfl⟩
theorem mvR_bl (C : List (BitVec 64)) (E : List Ev) (m : BitVec 64) (hm : isM m = true) (x y : Int) : (mvR C E m x y).1 = ckB C.length E.length 1 3 [x, y] ∧ (mvR C E m x y).2.2 = mvV C.length E x y ∧ (mvR C E m x y).2.1.length = C.length := by
  unfold mvR mvV
  rw [ckE_blind _ _ _ hm]
  split
  · rename_i h; exact ⟨h.symm, rfl, mvC_length _ _ _ _⟩
  · exact ⟨rfl, rfl, rfl⟩
theorem clR_bl (C : List (BitVec 64)) (E : List Ev) (m : BitVec 64) (hm : isM m = true) (x : Int) : (clR C E m x).1 = ckB C.length E.length 1 2 [x] ∧ (clR C E m x).2.2 = clV C.length E x ∧ (clR C E m x).2.1.length = C.length := by
  unfold clR clV
  rw [ckE_blind _ _ _ hm]
  split
  · rename_i h; exact ⟨h.symm, rfl, List.length_set⟩
  · exact ⟨rfl, rfl, rfl⟩
theorem srR_bl (C : List (BitVec 64)) (E : List Ev) (m : BitVec 64) (hm : isM m = true) (x y z : Int) : (rwR C E m x y z 4 (swF m x.toNat y.toNat)).1 = rwB C.length E.length x y z 4 ∧ (rwR C E m x y z 4 (swF m x.toNat y.toNat)).2.2 = srV C.length E x y z ∧ (rwR C E m x y z 4 (swF m x.toNat y.toNat)).2.1.length = C.length := by
  unfold rwR srV
  rw [rwE_blind _ _ _ hm]
  split
  · rename_i h; exact ⟨h.symm, rep_sw_ev _ _ _ _ _ _, (rep_sw_len _ _ _ _ _).1⟩
  · exact ⟨rfl, rfl, rfl⟩
theorem mrR_bl (C : List (BitVec 64)) (E : List Ev) (m : BitVec 64) (hm : isM m = true) (x y z : Int) : (rwR C E m x y z 3 (mvF m x.toNat y.toNat)).1 = rwB C.length E.length x y z 3 ∧ (rwR C E m x y z 3 (mvF m x.toNat y.toNat)).2.2 = mrV C.length E x y z ∧ (rwR C E m x y z 3 (mvF m x.toNat y.toNat)).2.1.length = C.length := by
  unfold rwR mrV
  rw [rwE_blind _ _ _ hm]
  split
  · rename_i h; exact ⟨h.symm, rep_mv_ev _ _ _ _ _ _, (rep_mv_len _ _ _ _ _).1⟩
  · exact ⟨rfl, rfl, rfl⟩
section
variable {w : World} {F : Nat → Prop} {p n : Nat} {C : List (BitVec 64)} {E : List Ev}
theorem sw_bl (hl : C.length = n) (h : Ar w F p C E) (m : BitVec 64) (x y : Int) :
    Calls Try.prog 30 #[.pointer (some ⟨p, 0, none⟩), .int .u64 (n64 (ofM m)), .int .i64 x, .int .i64 y] w fun e w' => e = .returned (.int .i64 (ckB n E.length 1 4 [x, y])) ∧ ∃ C2, C2.length = n ∧ ArTo w F p C2 (swV n E x y) w' := by
  subst hl
  obtain ⟨h1, h2, h3⟩ := swR_bl C E (ofM m) (isM_ofM m) x y
  refine (swapA_any h (ofM m) x y).mono fun e w' ⟨he, ha⟩ => ⟨by rw [he, h1], _, h3, by rw [← h2]; exact ha⟩
theorem mv_bl (hl : C.length = n) (h : Ar w F p C E) (m : BitVec 64) (x y : Int) :
    Calls Try.prog 31 #[.pointer (some ⟨p, 0, none⟩), .int .u64 (n64 (ofM m)), .int .i64 x, .int .i64 y] w fun e w' => e = .returned (.int .i64 (ckB n E.length 1 3 [x, y])) ∧ ∃ C2, C2.length = n ∧ ArTo w F p C2 (mvV n E x y) w' := by
  subst hl
  obtain ⟨h1, h2, h3⟩ := mvR_bl C E (ofM m) (isM_ofM m) x y
  refine (moveA_any h (ofM m) x y).mono fun e w' ⟨he, ha⟩ => ⟨by rw [he, h1], _, h3, by rw [← h2]; exact ha⟩
theorem cl_bl (hl : C.length = n) (h : Ar w F p C E) (m : BitVec 64) (x : Int) :
    Calls Try.prog 27 #[.pointer (some ⟨p, 0, none⟩), .int .u64 (n64 (ofM m)), .int .i64 x] w fun e w' => e = .returned (.int .i64 (ckB n E.length 1 2 [x])) ∧ ∃ C2, C2.length = n ∧ ArTo w F p C2 (clV n E x) w' := by
  subst hl
  obtain ⟨h1, h2, h3⟩ := clR_bl C E (ofM m) (isM_ofM m) x
  refine (clearA_any h (ofM m) x).mono fun e w' ⟨he, ha⟩ => ⟨by rw [he, h1], _, h3, by rw [← h2]; exact ha⟩
theorem sr_bl (hl : C.length = n) (h : Ar w F p C E) (m : BitVec 64) (x y z : Int) :
    Calls Try.prog 23 #[.pointer (some ⟨p, 0, none⟩), .int .u64 (n64 (ofM m)), .int .i64 x, .int .i64 y, .int .i64 z] w fun e w' => e = .returned (.int .i64 (rwB n E.length x y z 4)) ∧ ∃ C2, C2.length = n ∧ ArTo w F p C2 (srV n E x y z) w' := by
  subst hl
  obtain ⟨h1, h2, h3⟩ := srR_bl C E (ofM m) (isM_ofM m) x y z
  refine (swapRows_any h (ofM m) x y z).mono fun e w' ⟨he, ha⟩ => ⟨by rw [he, h1], _, h3, by rw [← h2]; exact ha⟩
theorem mr_bl (hl : C.length = n) (h : Ar w F p C E) (m : BitVec 64) (x y z : Int) :
    Calls Try.prog 26 #[.pointer (some ⟨p, 0, none⟩), .int .u64 (n64 (ofM m)), .int .i64 x, .int .i64 y, .int .i64 z] w fun e w' => e = .returned (.int .i64 (rwB n E.length x y z 3)) ∧ ∃ C2, C2.length = n ∧ ArTo w F p C2 (mrV n E x y z) w' := by
  subst hl
  obtain ⟨h1, h2, h3⟩ := mrR_bl C E (ofM m) (isM_ofM m) x y z
  refine (moveRows_any h (ofM m) x y z).mono fun e w' ⟨he, ha⟩ => ⟨by rw [he, h1], _, h3, by rw [← h2]; exact ha⟩
end
/-- All five calls. -/
def fV1 (n : Nat) (E : List Ev) (x y : Int) : List Ev := swV n E x y
def fV2 (n : Nat) (E : List Ev) (x y : Int) : List Ev := mvV n (fV1 n E x y) x y
def fV3 (n : Nat) (E : List Ev) (x y : Int) : List Ev := clV n (fV2 n E x y) x
def fV4 (n : Nat) (E : List Ev) (x y z : Int) : List Ev := srV n (fV3 n E x y) x y z
def fV5 (n : Nat) (E : List Ev) (x y z : Int) : List Ev := mrV n (fV4 n E x y z) x y z
def fA (n : Nat) (E : List Ev) (x y z : Int) : Array Value := #[.int .i64 (ckB n E.length 1 4 [x, y]), .int .i64 (ckB n (fV1 n E x y).length 1 3 [x, y]), .int .i64 (ckB n (fV2 n E x y).length 1 2 [x]), .int .i64 (rwB n (fV3 n E x y).length x y z 4), .int .i64 (rwB n (fV4 n E x y z).length x y z 3)]
theorem w_cells {w : World} {bw : Nat} {m : BitVec 64} {x y z : Int} {t : TypeId} (h : Blk w bw t #[.int .u64 (n64 m), .int .i64 x, .int .i64 y, .int .i64 z]) : w.cell? ⟨bw, 1, none⟩ = some (.int .i64 x) ∧ w.cell? ⟨bw, 2, none⟩ = some (.int .i64 y) ∧ w.cell? ⟨bw, 3, none⟩ = some (.int .i64 z) := ⟨h.cell 1, h.cell 2, h.cell 3⟩
theorem w_keep2 {w : World} {bw : Nat} {m : BitVec 64} {x y z : Int} {t : TypeId} (h : Blk w bw t #[.int .u64 (n64 m), .int .i64 x, .int .i64 y, .int .i64 z]) (o : Obj) : (w.alloc o).cell? ⟨bw, 1, none⟩ = some (.int .i64 x) ∧ (w.alloc o).cell? ⟨bw, 2, none⟩ = some (.int .i64 y) ∧ (w.alloc o).cell? ⟨bw, 3, none⟩ = some (.int .i64 z) := w_cells (h.alloc o)
theorem w_keep3 {w : World} {bw : Nat} {m : BitVec 64} {x y z : Int} {t : TypeId} (h : Blk w bw t #[.int .u64 (n64 m), .int .i64 x, .int .i64 y, .int .i64 z]) (o : Obj) : (w.alloc o).drew.cell? ⟨bw, 1, none⟩ = some (.int .i64 x) ∧ (w.alloc o).drew.cell? ⟨bw, 2, none⟩ = some (.int .i64 y) ∧ (w.alloc o).drew.cell? ⟨bw, 3, none⟩ = some (.int .i64 z) := w_cells ((h.alloc o).to rfl)
theorem w_keep4 {w : World} {bw : Nat} {m : BitVec 64} {x y z : Int} {t : TypeId} (h : Blk w bw t #[.int .u64 (n64 m), .int .i64 x, .int .i64 y, .int .i64 z]) : w.drew.cell? ⟨bw, 1, none⟩ = some (.int .i64 x) ∧ w.drew.cell? ⟨bw, 2, none⟩ = some (.int .i64 y) ∧ w.drew.cell? ⟨bw, 3, none⟩ = some (.int .i64 z) := w_cells (h.to rfl)
theorem TwinD.ne {w0 w : World} {bs : Bks} {p q n g b : Nat} {E E' : List Ev} {t t2 : TypeId} {cs cs2 : Array Value} (h : TwinD w0 w ((g, t, cs) :: bs) p q n E E') (hm : (b, t2, cs2) ∈ bs) : b ≠ g := by
  have hn := h.2
  rw [List.map_cons, List.nodup_cons] at hn
  exact fun he => hn.1 (List.mem_map.2 ⟨_, hm, he⟩)
theorem w_keep5 {w0 w : World} {bs : Bks} {p q n g bw : Nat} {E E' : List Ev} {t t2 : TypeId} {cs : Array Value} {m : BitVec 64} {x y z : Int} (h : TwinD w0 w ((g, t, cs) :: bs) p q n E E') (hm : (bw, t2, #[.int .u64 (n64 m), .int .i64 x, .int .i64 y, .int .i64 z]) ∈ bs) (v0 v1 v2 v3 v4 : Value) :
    (((((w.setCell ⟨g, 0, none⟩ v0).setCell ⟨g, 1, none⟩ v1).setCell ⟨g, 2, none⟩ v2).setCell ⟨g, 3, none⟩ v3).setCell ⟨g, 4, none⟩ v4).cell? ⟨bw, 1, none⟩ = some (.int .i64 x) ∧ (((((w.setCell ⟨g, 0, none⟩ v0).setCell ⟨g, 1, none⟩ v1).setCell ⟨g, 2, none⟩ v2).setCell ⟨g, 3, none⟩ v3).setCell ⟨g, 4, none⟩ v4).cell? ⟨bw, 2, none⟩ = some (.int .i64 y) ∧ (((((w.setCell ⟨g, 0, none⟩ v0).setCell ⟨g, 1, none⟩ v1).setCell ⟨g, 2, none⟩ v2).setCell ⟨g, 3, none⟩ v3).setCell ⟨g, 4, none⟩ v4).cell? ⟨bw, 3, none⟩ = some (.int .i64 z) := by
  have hne := h.ne hm
  have hb := h.blk (List.mem_cons_of_mem _ hm)
  exact w_cells (((((hb.far (p := ⟨g, 0, none⟩) hne v0).far (p := ⟨g, 1, none⟩) hne v1).far (p := ⟨g, 2, none⟩) hne v2).far (p := ⟨g, 3, none⟩) hne v3).far (p := ⟨g, 4, none⟩) hne v4)
theorem TwinD.put5 {w0 w : World} {bs : Bks} {p q n g : Nat} {E E' : List Ev} {t : TypeId} (h : TwinD w0 w ((g, t, #[.int .i64 0, .int .i64 0, .int .i64 0, .int .i64 0, .int .i64 0]) :: bs) p q n E E') (hg : w0.heap.size ≤ g) (v0 v1 v2 v3 v4 : Value) :
    TwinD w0 (((((w.setCell ⟨g, 0, none⟩ v0).setCell ⟨g, 1, none⟩ v1).setCell ⟨g, 2, none⟩ v2).setCell ⟨g, 3, none⟩ v3).setCell ⟨g, 4, none⟩ v4) ((g, t, #[v0, v1, v2, v3, v4]) :: bs) p q n E E' :=
  ((((h.put hg 0 v0).put hg 1 v1).put hg 2 v2).put hg 3 v3).put hg 4 v4
theorem five_zero {w0 w : World} {bs : Bks} {p q n g : Nat} {E E' : List Ev} {t : TypeId} (h : TwinD w0 w ((g, t, #[.int .i64 0, .int .i64 0, .int .i64 0, .int .i64 0, .int .i64 0]) :: bs) p q n E E') :
    (w.cell? ⟨g, 0, none⟩ = some (.int .i64 0) ∧ w.cell? ⟨g, 1, none⟩ = some (.int .i64 0) ∧ w.cell? ⟨g, 2, none⟩ = some (.int .i64 0) ∧ w.cell? ⟨g, 3, none⟩ = some (.int .i64 0) ∧ w.cell? ⟨g, 4, none⟩ = some (.int .i64 0)) ∧
    (w.frozen? ⟨g, 0, none⟩ = false ∧ w.frozen? ⟨g, 1, none⟩ = false ∧ w.frozen? ⟨g, 2, none⟩ = false ∧ w.frozen? ⟨g, 3, none⟩ = false ∧ w.frozen? ⟨g, 4, none⟩ = false) := by
  have h1 := h.blk (List.mem_cons_self ..)
  exact ⟨⟨h1.cell 0, h1.cell 1, h1.cell 2, h1.cell 3, h1.cell 4⟩, ⟨h1.frozen 0, h1.frozen 1, h1.frozen 2, h1.frozen 3, h1.frozen 4⟩⟩
set_option maxHeartbeats 32000000 in
theorem blind_small {w : World} (A0 A1 : Option Addr) (n0 c0 n1 c1 : Nat) (X Y : List (BitVec 64)) (h0 : Rd w (Old w) 1 (.slice A0 n0 c0) n0 (u64s X)) (h1 : Rd w (Old w) 1 (.slice A1 n1 c1) n1 (u64s Y)) (z0 : NilOk (.slice A0 n0 c0)) (z1 : NilOk (.slice A1 n1 c1)) (hn0 : n0 ≤ 200) (hn1 : n1 ≤ 200) (x y z x2 y2 z2 : Int) (m m2 : BitVec 64) :
    Calls Try.prog 8 #[.slice A0 n0 c0, .slice A1 n1 c1, .agg #[.int .u64 (n64 m), .int .i64 x, .int .i64 y, .int .i64 z, .int .u64 (n64 m2), .int .i64 x2, .int .i64 y2, .int .i64 z2]] w (BoolNew true w) := by
  obtain ⟨i0, hi, hz0, hz1, hz2⟩ := info_parts Try.infoU
  have hl0 : X.length = n0 := by obtain ⟨_, _, _, _, hl, _⟩ := h0; rw [length_u64s] at hl; omega
  have hl1 : Y.length = n1 := by obtain ⟨_, _, _, _, hl, _⟩ := h1; rw [length_u64s] at hl; omega
  obtain ⟨hge0, hge1, hle⟩ := mxN_ge n0 n1
  have H0 := Lib.hid h0
  have H1 := Lib.hid h1
  have Z0 := Lib.hid z0
  have Z1 := Lib.hid z1
  have L0 := Lib.hid hl0
  have L1 := Lib.hid hl1
  have hd0 : decide (200 < (n0 : Int)) = false := by simp; omega
  have hd1 : decide (200 < (n1 : Int)) = false := by simp; omega
  clear h0 h1 z0 z1 hl0 hl1

  go_enter Try.func8, Try.ntmps8
  go_wp2_with (at_builtin; refine wpList_append_rd rfl _ _ 29 rfl (w.heap.size + 1) 22 i0 (.int .u64 0) 1 8 Try.underlying29 hi hz0 hz1 hz2 rfl (by decide) (w.heap.size + 1) 0 0 [] rfl ?c0 (.slice A0 n0 c0) n0 (u64s X) rfl (F := Old w) ?c1 Z0.out (u64s_one' X) ?c3 ?c4 ?c5 ?_)
  case c0 => simpa using World.ownsRow_made (w.alloc (.cells #[.int .u64 (n64 m), .int .i64 x, .int .i64 y, .int .i64 z, .int .u64 (n64 m2), .int .i64 x2, .int .i64 y2, .int .i64 z2] 49)) #[] 0 (Nat.le_refl _) (Nat.zero_le _) rfl
  case c1 => exact H0.out.keep (Off.alloc (Off.alloc (Off.refl Nob w) _) _) (fun _ _ h => h)
  case c3 => unfold maxLen; omega
  case c4 => omega
  case c5 => simp
  intro g1 cap1 w1 ho1 hg1 ha1
  have O1 : Hid (Off Nob (w.alloc (.cells #[.int .u64 (n64 m), .int .i64 x, .int .i64 y, .int .i64 z, .int .u64 (n64 m2), .int .i64 x2, .int .i64 y2, .int .i64 z2] 49)) w1) := Off.grown (Off.alloc (Off.refl _ _) _) hg1 (fun k hk => .inr (by injection hk with hk; simp; omega))
  have W1 := Lib.hid ho1
  clear hg1 ha1 ho1
  go_wp2_with (at_builtin; refine wpList_append_zeros rfl _ _ 29 3 rfl (w.heap.size + 1) 22 i0 (.int .u64 0) 8 .i64 .i64 Try.underlying29 Try.underlying3 hi hz0 hz1 hz2 rfl rfl g1 n0 cap1 (u64s X) rfl W1.out (mxN n0 n1 - n0) (mxN n0 n1) ?d0 ?d1 ?d2 ?d3 ?d4 ?_)
  case d0 => omega
  case d1 => exact congrArg (Value.int .i64) (by omega)
  case d2 => unfold maxLen; omega
  case d3 => omega
  case d4 => have := O1.out.size; simp at this; omega
  intro g2 cap2 w2 ho2 hg2 ha2
  have O2 : Hid (Off Nob (w.alloc (.cells #[.int .u64 (n64 m), .int .i64 x, .int .i64 y, .int .i64 z, .int .u64 (n64 m2), .int .i64 x2, .int .i64 y2, .int .i64 z2] 49)) w2) := Off.grown O1.out hg2 (fun k hk => .inr (by injection hk with hk; subst hk; have := (W1.out.lt g1 rfl).1; simp; omega))
  have W2 : Hid (Rd w2 (fun k => w.heap.size + 1 ≤ k ∧ k < w2.heap.size) 1 (.slice (some ⟨g2, 0, none⟩) (mxN n0 n1) cap2) (mxN n0 n1) (u64s (padTo X (mxN n0 n1)))) := by
    have := Rd.own ho2 (F := fun k => w.heap.size + 1 ≤ k ∧ k < w2.heap.size) (fun k hk => ho2.lt k hk)
    rw [u64s_zeros] at this
    unfold padTo
    rw [L0.out]
    exact this
  clear hg2 ha2 ho2 W1 O1
  go_wp2_with fail
  refine (arena_any W2.out (by rw [padTo_length _ _ (by have := L0.out; omega)]; omega)).mono ?_
  rintro e w3 h3
  obtain ⟨p, r, rfl, k3⟩ := h3.one (w0 := w) (bs := [(w.heap.size, 49, #[.int .u64 (n64 m), .int .i64 x, .int .i64 y, .int .i64 z, .int .u64 (n64 m2), .int .i64 x2, .int .i64 y2, .int .i64 z2])]) ((Off.alloc (Off.refl _ _) _).also O2.out) (fun x hx => by
    rw [List.mem_singleton] at hx
    subst hx
    exact (Blk.new _ _ _).to (O2.out.block _ (by simp) (fun h => h)))
  rw [padTo_length _ _ (by have := L0.out; omega)] at k3
  have H3 := Lib.hid k3
  clear h3 k3 W2 O2
  go_wp2_with (at_builtin; refine wpList_append_rd rfl _ _ 29 rfl w3.heap.size 22 i0 (.int .u64 0) 1 8 Try.underlying29 hi hz0 hz1 hz2 rfl (by decide) w3.heap.size 0 0 [] rfl ?c0 (.slice A1 n1 c1) n1 (u64s Y) rfl (F := Old w) ?c1 Z1.out (u64s_one' Y) ?c3 ?c4 ?c5 ?_)
  case c0 => exact World.ownsRow_made w3 #[] 0 (Nat.le_refl _) (Nat.zero_le _) rfl
  case c1 => exact H1.out.keep (Off.alloc H3.out.old _) (fun _ _ h => h)
  case c3 => unfold maxLen; omega
  case c4 => omega
  case c5 => simp
  intro g3 cap3 w4 ho3 hg3 ha3
  have O3 : Hid (Off Nob w3 w4) := Off.grown (Off.alloc (Off.refl _ _) _) hg3 (fun k hk => .inr (by injection hk with hk; omega))
  have W3 := Lib.hid ho3
  clear hg3 ha3 ho3
  go_wp2_with (at_builtin; refine wpList_append_zeros rfl _ _ 29 3 rfl w3.heap.size 22 i0 (.int .u64 0) 8 .i64 .i64 Try.underlying29 Try.underlying3 hi hz0 hz1 hz2 rfl rfl g3 n1 cap3 (u64s Y) rfl W3.out (mxN n0 n1 - n1) (mxN n0 n1) ?d0 ?d1 ?d2 ?d3 ?d4 ?_)
  case d0 => omega
  case d1 => exact congrArg (Value.int .i64) (by omega)
  case d2 => unfold maxLen; omega
  case d3 => omega
  case d4 => exact O3.out.size
  intro g4 cap4 w5 ho4 hg4 ha4
  have O4 : Hid (Off Nob w3 w5) := Off.grown O3.out hg4 (fun k hk => .inr (by injection hk with hk; subst hk; exact (W3.out.lt g3 rfl).1))
  have W4 : Hid (Rd w5 (fun k => w3.heap.size ≤ k ∧ k < w5.heap.size) 1 (.slice (some ⟨g4, 0, none⟩) (mxN n0 n1) cap4) (mxN n0 n1) (u64s (padTo Y (mxN n0 n1)))) := by
    have := Rd.own ho4 (F := fun k => w3.heap.size ≤ k ∧ k < w5.heap.size) (fun k hk => ho4.lt k hk)
    rw [u64s_zeros] at this
    unfold padTo
    rw [L1.out]
    exact this
  clear hg4 ha4 ho4 W3 O3
  go_wp2_with fail
  refine (arena_any W4.out (by rw [padTo_length _ _ (by have := L1.out; omega)]; omega)).mono ?_
  rintro e w6 h6
  obtain ⟨q, r2, rfl, k6⟩ := (H3.out.off O4.out).two h6
  rw [padTo_length _ _ (by have := L1.out; omega)] at k6
  have TW := Lib.hid k6
  have PX : Hid ((pad (padTo X (mxN n0 n1))).length = max (mxN n0 n1) 1) := Lib.hid (by rw [pad_length, padTo_length _ _ (by have := L0.out; omega)])
  have PY : Hid ((pad (padTo Y (mxN n0 n1))).length = max (mxN n0 n1) 1) := Lib.hid (by rw [pad_length, padTo_length _ _ (by have := L1.out; omega)])
  clear h6 k6 W4 O4 H3 H0 H1 Z0 Z1 L0 L1
  revert TW PX PY
  generalize pad (padTo X (mxN n0 n1)) = CX
  generalize pad (padTo Y (mxN n0 n1)) = CY
  intro TW PX PY
  have hN200 : mxN n0 n1 ≤ 200 := by omega
  clear hge0 hge1 hle hn0 hn1 hd0 hd1 hi hz0 hz1 hz2
  revert TW PX PY hN200
  generalize mxN n0 n1 = N
  intro TW PX PY hN200

  have hB := TW.out.blk (List.mem_cons_self ..)
  have b0 := hB.cell 0
  have b1 := hB.cell 1
  have b2 := hB.cell 2
  have b3 := hB.cell 3
  have b4 := hB.cell 4
  have hblt := hB.lt
  simp only [List.getElem?_toArray, List.getElem?_cons_succ, List.getElem?_cons_zero] at b0 b1 b2 b3 b4
  have HB := Lib.hid hB
  clear hB
  go_wp2_with fail
  go_region_held3 (fun w' => w'.cell? ⟨w.heap.size, 0, none⟩ = some (.int .u64 (n64 m)) ∧ w'.cell? ⟨w.heap.size, 4, none⟩ = some (.int .u64 (n64 m2)))
    (first | exact ⟨b0, b4⟩ | go_keep)
    (first | (go_at_call 10; refine (rof_any _ _).mono ?_; rintro e w' ⟨rfl, rfl⟩))
  go_upto_region 8 with fail
  have T1 : Hid (TwinD w (w6.alloc (.cells #[.int .u64 (n64 m), .int .i64 x, .int .i64 y, .int .i64 z] 31)).drew ((w6.heap.size, 31, #[.int .u64 (n64 m), .int .i64 x, .int .i64 y, .int .i64 z]) :: [(w.heap.size, 49, #[.int .u64 (n64 m), .int .i64 x, .int .i64 y, .int .i64 z, .int .u64 (n64 m2), .int .i64 x2, .int .i64 y2, .int .i64 z2])]) p q (max N 1) (stores N) (stores N)) :=
    ((show TwinD w w6 [(w.heap.size, 49, #[.int .u64 (n64 m), .int .i64 x, .int .i64 y, .int .i64 z, .int .u64 (n64 m2), .int .i64 x2, .int .i64 y2, .int .i64 z2])] p q (max N 1) (stores N) (stores N) from ⟨⟨_, _, PX.out, PY.out, TW.out⟩, by simp⟩).push 31 #[.int .u64 (n64 m), .int .i64 x, .int .i64 y, .int .i64 z]).off (Off.drew (Off.refl _ _))
  clear b0 b1 b2 b3 b4 hblt TW PX PY HB
  revert T1
  generalize (w6.alloc (.cells #[.int .u64 (n64 m), .int .i64 x, .int .i64 y, .int .i64 z] 31)).drew = W
  generalize w6.heap.size = bw
  generalize max N 1 = n
  generalize stores N = E0
  intro T1
  have hk := w_cells (T1.out.blk (b := bw) (t := 31) (cs := #[.int .u64 (n64 m), .int .i64 x, .int .i64 y, .int .i64 z]) (by simp))
  go_cut [15] (fun s wx => ∃ g : Nat, s = .pointer (some ⟨g, 0, none⟩) ∧ TwinD w wx ((g, 51, fA n E0 x y z) :: [(bw, 31, #[.int .u64 (n64 m), .int .i64 x, .int .i64 y, .int .i64 z]), (w.heap.size, 49, #[.int .u64 (n64 m), .int .i64 x, .int .i64 y, .int .i64 z, .int .u64 (n64 m2), .int .i64 x2, .int .i64 y2, .int .i64 z2])]) p q n (fV5 n E0 x y z) E0)
  case first =>
    go_region_held3 (fun w' => w'.cell? ⟨bw, 1, none⟩ = some (.int .i64 x) ∧ w'.cell? ⟨bw, 2, none⟩ = some (.int .i64 y) ∧ w'.cell? ⟨bw, 3, none⟩ = some (.int .i64 z))
      (first | with_reducible assumption  | with_reducible exact w_keep2 (T1.out.blk (b := bw) (t := 31) (cs := #[.int .u64 (n64 m), .int .i64 x, .int .i64 y, .int .i64 z]) (by simp)) _ | with_reducible exact w_keep3 (T1.out.blk (b := bw) (t := 31) (cs := #[.int .u64 (n64 m), .int .i64 x, .int .i64 y, .int .i64 z]) (by simp)) _ | with_reducible exact w_keep4 (T1.out.blk (b := bw) (t := 31) (cs := #[.int .u64 (n64 m), .int .i64 x, .int .i64 y, .int .i64 z]) (by simp)) | with_reducible exact w_keep2 (S1.out.blk (b := bw) (t := 31) (cs := #[.int .u64 (n64 m), .int .i64 x, .int .i64 y, .int .i64 z]) (by simp)) _ | with_reducible exact w_keep3 (S1.out.blk (b := bw) (t := 31) (cs := #[.int .u64 (n64 m), .int .i64 x, .int .i64 y, .int .i64 z]) (by simp)) _ | with_reducible exact w_keep4 (S1.out.blk (b := bw) (t := 31) (cs := #[.int .u64 (n64 m), .int .i64 x, .int .i64 y, .int .i64 z]) (by simp)) | with_reducible exact w_keep2 (S2.out.blk (b := bw) (t := 31) (cs := #[.int .u64 (n64 m), .int .i64 x, .int .i64 y, .int .i64 z]) (by simp)) _ | with_reducible exact w_keep3 (S2.out.blk (b := bw) (t := 31) (cs := #[.int .u64 (n64 m), .int .i64 x, .int .i64 y, .int .i64 z]) (by simp)) _ | with_reducible exact w_keep4 (S2.out.blk (b := bw) (t := 31) (cs := #[.int .u64 (n64 m), .int .i64 x, .int .i64 y, .int .i64 z]) (by simp)) | with_reducible exact w_keep2 (S3.out.blk (b := bw) (t := 31) (cs := #[.int .u64 (n64 m), .int .i64 x, .int .i64 y, .int .i64 z]) (by simp)) _ | with_reducible exact w_keep3 (S3.out.blk (b := bw) (t := 31) (cs := #[.int .u64 (n64 m), .int .i64 x, .int .i64 y, .int .i64 z]) (by simp)) _ | with_reducible exact w_keep4 (S3.out.blk (b := bw) (t := 31) (cs := #[.int .u64 (n64 m), .int .i64 x, .int .i64 y, .int .i64 z]) (by simp)) | with_reducible exact w_keep2 (S4.out.blk (b := bw) (t := 31) (cs := #[.int .u64 (n64 m), .int .i64 x, .int .i64 y, .int .i64 z]) (by simp)) _ | with_reducible exact w_keep3 (S4.out.blk (b := bw) (t := 31) (cs := #[.int .u64 (n64 m), .int .i64 x, .int .i64 y, .int .i64 z]) (by simp)) _ | with_reducible exact w_keep4 (S4.out.blk (b := bw) (t := 31) (cs := #[.int .u64 (n64 m), .int .i64 x, .int .i64 y, .int .i64 z]) (by simp)) | with_reducible exact w_keep2 (S5.out.blk (b := bw) (t := 31) (cs := #[.int .u64 (n64 m), .int .i64 x, .int .i64 y, .int .i64 z]) (by simp)) _ | with_reducible exact w_keep3 (S5.out.blk (b := bw) (t := 31) (cs := #[.int .u64 (n64 m), .int .i64 x, .int .i64 y, .int .i64 z]) (by simp)) _ | with_reducible exact w_keep4 (S5.out.blk (b := bw) (t := 31) (cs := #[.int .u64 (n64 m), .int .i64 x, .int .i64 y, .int .i64 z]) (by simp)) | with_reducible exact w_keep5 (m := m) (x := x) (y := y) (z := z) (t2 := 31) (bw := bw) S5.out (by simp) _ _ _ _ _ | go_keep)
      (first
        | (go_at_call_of 30 (Value.pointer (some ⟨p, 0, none⟩)); refine (TwinD.first (by first | with_reducible exact T1.out | with_reducible exact T1.out.off (Off.drew (Off.refl _ _)) | with_reducible exact T1.out.push _ _ | with_reducible exact (T1.out.push _ _).off (Off.drew (Off.refl _ _)) | with_reducible exact T1.out.off (Off.drewN (Off.refl _ _) _)) (fun C w F hl h => sw_bl hl h m x y)).mono ?_; rintro e s1 ⟨rfl, hs1⟩; have ks1 : s1.cell? ⟨bw, 1, none⟩ = some (.int .i64 x) ∧ s1.cell? ⟨bw, 2, none⟩ = some (.int .i64 y) ∧ s1.cell? ⟨bw, 3, none⟩ = some (.int .i64 z) := w_cells (hs1.blk (b := bw) (t := 31) (cs := #[.int .u64 (n64 m), .int .i64 x, .int .i64 y, .int .i64 z]) (by simp)); (try with_reducible have zs1 := five_zero hs1); have S1 := Lib.hid hs1; clear hs1)
        | (go_at_call_of 31 (Value.pointer (some ⟨p, 0, none⟩)); refine (TwinD.first (by first | with_reducible exact S1.out | with_reducible exact S1.out.off (Off.drew (Off.refl _ _)) | with_reducible exact S1.out.push _ _ | with_reducible exact (S1.out.push _ _).off (Off.drew (Off.refl _ _)) | with_reducible exact S1.out.off (Off.drewN (Off.refl _ _) _)) (fun C w F hl h => mv_bl hl h m x y)).mono ?_; rintro e s2 ⟨rfl, hs2⟩; have ks2 : s2.cell? ⟨bw, 1, none⟩ = some (.int .i64 x) ∧ s2.cell? ⟨bw, 2, none⟩ = some (.int .i64 y) ∧ s2.cell? ⟨bw, 3, none⟩ = some (.int .i64 z) := w_cells (hs2.blk (b := bw) (t := 31) (cs := #[.int .u64 (n64 m), .int .i64 x, .int .i64 y, .int .i64 z]) (by simp)); (try with_reducible have zs2 := five_zero hs2); have S2 := Lib.hid hs2; clear hs2)
        | (go_at_call_of 27 (Value.pointer (some ⟨p, 0, none⟩)); refine (TwinD.first (by first | with_reducible exact S2.out | with_reducible exact S2.out.off (Off.drew (Off.refl _ _)) | with_reducible exact S2.out.push _ _ | with_reducible exact (S2.out.push _ _).off (Off.drew (Off.refl _ _)) | with_reducible exact S2.out.off (Off.drewN (Off.refl _ _) _)) (fun C w F hl h => cl_bl hl h m x)).mono ?_; rintro e s3 ⟨rfl, hs3⟩; have ks3 : s3.cell? ⟨bw, 1, none⟩ = some (.int .i64 x) ∧ s3.cell? ⟨bw, 2, none⟩ = some (.int .i64 y) ∧ s3.cell? ⟨bw, 3, none⟩ = some (.int .i64 z) := w_cells (hs3.blk (b := bw) (t := 31) (cs := #[.int .u64 (n64 m), .int .i64 x, .int .i64 y, .int .i64 z]) (by simp)); (try with_reducible have zs3 := five_zero hs3); have S3 := Lib.hid hs3; clear hs3)
        | (go_at_call_of 23 (Value.pointer (some ⟨p, 0, none⟩)); refine (TwinD.first (by first | with_reducible exact S3.out | with_reducible exact S3.out.off (Off.drew (Off.refl _ _)) | with_reducible exact S3.out.push _ _ | with_reducible exact (S3.out.push _ _).off (Off.drew (Off.refl _ _)) | with_reducible exact S3.out.off (Off.drewN (Off.refl _ _) _)) (fun C w F hl h => sr_bl hl h m x y z)).mono ?_; rintro e s4 ⟨rfl, hs4⟩; have ks4 : s4.cell? ⟨bw, 1, none⟩ = some (.int .i64 x) ∧ s4.cell? ⟨bw, 2, none⟩ = some (.int .i64 y) ∧ s4.cell? ⟨bw, 3, none⟩ = some (.int .i64 z) := w_cells (hs4.blk (b := bw) (t := 31) (cs := #[.int .u64 (n64 m), .int .i64 x, .int .i64 y, .int .i64 z]) (by simp)); (try with_reducible have zs4 := five_zero hs4); have S4 := Lib.hid hs4; clear hs4)
        | (go_at_call_of 26 (Value.pointer (some ⟨p, 0, none⟩)); refine (TwinD.first (by first | with_reducible exact S4.out | with_reducible exact S4.out.off (Off.drew (Off.refl _ _)) | with_reducible exact S4.out.push _ _ | with_reducible exact (S4.out.push _ _).off (Off.drew (Off.refl _ _)) | with_reducible exact S4.out.off (Off.drewN (Off.refl _ _) _)) (fun C w F hl h => mr_bl hl h m x y z)).mono ?_; rintro e s5 ⟨rfl, hs5⟩; have ks5 : s5.cell? ⟨bw, 1, none⟩ = some (.int .i64 x) ∧ s5.cell? ⟨bw, 2, none⟩ = some (.int .i64 y) ∧ s5.cell? ⟨bw, 3, none⟩ = some (.int .i64 z) := w_cells (hs5.blk (b := bw) (t := 31) (cs := #[.int .u64 (n64 m), .int .i64 x, .int .i64 y, .int .i64 z]) (by simp)); (try with_reducible have zs5 := five_zero hs5); have S5 := Lib.hid hs5; clear hs5))
    all_goals go_wp2_with fail
    all_goals go_meet
    all_goals unfold fA fV5 fV4 fV3 fV2 fV1
    all_goals first
      | with_reducible exact ⟨_, rfl, S5.out.push _ _⟩
      | with_reducible exact ⟨_, rfl, S5.out.put5 (by first  | with_reducible exact T1.out.old.size | with_reducible exact S1.out.old.size | with_reducible exact S2.out.old.size | with_reducible exact S3.out.old.size | with_reducible exact S4.out.old.size | with_reducible exact S5.out.old.size) _ _ _ _ _⟩
  case rest =>
    obtain ⟨ga, rfl, hcut⟩ := hcut
    have T2 := Lib.hid hcut
    clear hcut hk
    go_upto_region 9 with fail
    have hk := w_cells (T2.out.blk (b := bw) (t := 31) (cs := #[.int .u64 (n64 m), .int .i64 x, .int .i64 y, .int .i64 z]) (by simp))
    go_cut [16] (fun s wx => ∃ g : Nat, s = .pointer (some ⟨g, 0, none⟩) ∧ TwinD w wx ((g, 51, fA n E0 x y z) :: (ga, 51, fA n E0 x y z) :: [(bw, 31, #[.int .u64 (n64 m), .int .i64 x, .int .i64 y, .int .i64 z]), (w.heap.size, 49, #[.int .u64 (n64 m), .int .i64 x, .int .i64 y, .int .i64 z, .int .u64 (n64 m2), .int .i64 x2, .int .i64 y2, .int .i64 z2])]) p q n (fV5 n E0 x y z) (fV5 n E0 x y z))
    case first =>
      go_region_held3 (fun w' => w'.cell? ⟨bw, 1, none⟩ = some (.int .i64 x) ∧ w'.cell? ⟨bw, 2, none⟩ = some (.int .i64 y) ∧ w'.cell? ⟨bw, 3, none⟩ = some (.int .i64 z))
        (first | with_reducible assumption  | with_reducible exact w_keep2 (T2.out.blk (b := bw) (t := 31) (cs := #[.int .u64 (n64 m), .int .i64 x, .int .i64 y, .int .i64 z]) (by simp)) _ | with_reducible exact w_keep3 (T2.out.blk (b := bw) (t := 31) (cs := #[.int .u64 (n64 m), .int .i64 x, .int .i64 y, .int .i64 z]) (by simp)) _ | with_reducible exact w_keep4 (T2.out.blk (b := bw) (t := 31) (cs := #[.int .u64 (n64 m), .int .i64 x, .int .i64 y, .int .i64 z]) (by simp)) | with_reducible exact w_keep2 (R1.out.blk (b := bw) (t := 31) (cs := #[.int .u64 (n64 m), .int .i64 x, .int .i64 y, .int .i64 z]) (by simp)) _ | with_reducible exact w_keep3 (R1.out.blk (b := bw) (t := 31) (cs := #[.int .u64 (n64 m), .int .i64 x, .int .i64 y, .int .i64 z]) (by simp)) _ | with_reducible exact w_keep4 (R1.out.blk (b := bw) (t := 31) (cs := #[.int .u64 (n64 m), .int .i64 x, .int .i64 y, .int .i64 z]) (by simp)) | with_reducible exact w_keep2 (R2.out.blk (b := bw) (t := 31) (cs := #[.int .u64 (n64 m), .int .i64 x, .int .i64 y, .int .i64 z]) (by simp)) _ | with_reducible exact w_keep3 (R2.out.blk (b := bw) (t := 31) (cs := #[.int .u64 (n64 m), .int .i64 x, .int .i64 y, .int .i64 z]) (by simp)) _ | with_reducible exact w_keep4 (R2.out.blk (b := bw) (t := 31) (cs := #[.int .u64 (n64 m), .int .i64 x, .int .i64 y, .int .i64 z]) (by simp)) | with_reducible exact w_keep2 (R3.out.blk (b := bw) (t := 31) (cs := #[.int .u64 (n64 m), .int .i64 x, .int .i64 y, .int .i64 z]) (by simp)) _ | with_reducible exact w_keep3 (R3.out.blk (b := bw) (t := 31) (cs := #[.int .u64 (n64 m), .int .i64 x, .int .i64 y, .int .i64 z]) (by simp)) _ | with_reducible exact w_keep4 (R3.out.blk (b := bw) (t := 31) (cs := #[.int .u64 (n64 m), .int .i64 x, .int .i64 y, .int .i64 z]) (by simp)) | with_reducible exact w_keep2 (R4.out.blk (b := bw) (t := 31) (cs := #[.int .u64 (n64 m), .int .i64 x, .int .i64 y, .int .i64 z]) (by simp)) _ | with_reducible exact w_keep3 (R4.out.blk (b := bw) (t := 31) (cs := #[.int .u64 (n64 m), .int .i64 x, .int .i64 y, .int .i64 z]) (by simp)) _ | with_reducible exact w_keep4 (R4.out.blk (b := bw) (t := 31) (cs := #[.int .u64 (n64 m), .int .i64 x, .int .i64 y, .int .i64 z]) (by simp)) | with_reducible exact w_keep2 (R5.out.blk (b := bw) (t := 31) (cs := #[.int .u64 (n64 m), .int .i64 x, .int .i64 y, .int .i64 z]) (by simp)) _ | with_reducible exact w_keep3 (R5.out.blk (b := bw) (t := 31) (cs := #[.int .u64 (n64 m), .int .i64 x, .int .i64 y, .int .i64 z]) (by simp)) _ | with_reducible exact w_keep4 (R5.out.blk (b := bw) (t := 31) (cs := #[.int .u64 (n64 m), .int .i64 x, .int .i64 y, .int .i64 z]) (by simp)) | with_reducible exact w_keep5 (m := m) (x := x) (y := y) (z := z) (t2 := 31) (bw := bw) R5.out (by simp) _ _ _ _ _ | go_keep)
        (first
          | (go_at_call_of 30 (Value.pointer (some ⟨q, 0, none⟩)); refine (TwinD.second (by first | with_reducible exact T2.out | with_reducible exact T2.out.off (Off.drew (Off.refl _ _)) | with_reducible exact T2.out.push _ _ | with_reducible exact (T2.out.push _ _).off (Off.drew (Off.refl _ _)) | with_reducible exact T2.out.off (Off.drewN (Off.refl _ _) _)) (fun C w F hl h => sw_bl hl h m2 x y)).mono ?_; rintro e r1 ⟨rfl, hr1⟩; have kr1 : r1.cell? ⟨bw, 1, none⟩ = some (.int .i64 x) ∧ r1.cell? ⟨bw, 2, none⟩ = some (.int .i64 y) ∧ r1.cell? ⟨bw, 3, none⟩ = some (.int .i64 z) := w_cells (hr1.blk (b := bw) (t := 31) (cs := #[.int .u64 (n64 m), .int .i64 x, .int .i64 y, .int .i64 z]) (by simp)); (try with_reducible have zr1 := five_zero hr1); have R1 := Lib.hid hr1; clear hr1)
          | (go_at_call_of 31 (Value.pointer (some ⟨q, 0, none⟩)); refine (TwinD.second (by first | with_reducible exact R1.out | with_reducible exact R1.out.off (Off.drew (Off.refl _ _)) | with_reducible exact R1.out.push _ _ | with_reducible exact (R1.out.push _ _).off (Off.drew (Off.refl _ _)) | with_reducible exact R1.out.off (Off.drewN (Off.refl _ _) _)) (fun C w F hl h => mv_bl hl h m2 x y)).mono ?_; rintro e r2 ⟨rfl, hr2⟩; have kr2 : r2.cell? ⟨bw, 1, none⟩ = some (.int .i64 x) ∧ r2.cell? ⟨bw, 2, none⟩ = some (.int .i64 y) ∧ r2.cell? ⟨bw, 3, none⟩ = some (.int .i64 z) := w_cells (hr2.blk (b := bw) (t := 31) (cs := #[.int .u64 (n64 m), .int .i64 x, .int .i64 y, .int .i64 z]) (by simp)); (try with_reducible have zr2 := five_zero hr2); have R2 := Lib.hid hr2; clear hr2)
          | (go_at_call_of 27 (Value.pointer (some ⟨q, 0, none⟩)); refine (TwinD.second (by first | with_reducible exact R2.out | with_reducible exact R2.out.off (Off.drew (Off.refl _ _)) | with_reducible exact R2.out.push _ _ | with_reducible exact (R2.out.push _ _).off (Off.drew (Off.refl _ _)) | with_reducible exact R2.out.off (Off.drewN (Off.refl _ _) _)) (fun C w F hl h => cl_bl hl h m2 x)).mono ?_; rintro e r3 ⟨rfl, hr3⟩; have kr3 : r3.cell? ⟨bw, 1, none⟩ = some (.int .i64 x) ∧ r3.cell? ⟨bw, 2, none⟩ = some (.int .i64 y) ∧ r3.cell? ⟨bw, 3, none⟩ = some (.int .i64 z) := w_cells (hr3.blk (b := bw) (t := 31) (cs := #[.int .u64 (n64 m), .int .i64 x, .int .i64 y, .int .i64 z]) (by simp)); (try with_reducible have zr3 := five_zero hr3); have R3 := Lib.hid hr3; clear hr3)
          | (go_at_call_of 23 (Value.pointer (some ⟨q, 0, none⟩)); refine (TwinD.second (by first | with_reducible exact R3.out | with_reducible exact R3.out.off (Off.drew (Off.refl _ _)) | with_reducible exact R3.out.push _ _ | with_reducible exact (R3.out.push _ _).off (Off.drew (Off.refl _ _)) | with_reducible exact R3.out.off (Off.drewN (Off.refl _ _) _)) (fun C w F hl h => sr_bl hl h m2 x y z)).mono ?_; rintro e r4 ⟨rfl, hr4⟩; have kr4 : r4.cell? ⟨bw, 1, none⟩ = some (.int .i64 x) ∧ r4.cell? ⟨bw, 2, none⟩ = some (.int .i64 y) ∧ r4.cell? ⟨bw, 3, none⟩ = some (.int .i64 z) := w_cells (hr4.blk (b := bw) (t := 31) (cs := #[.int .u64 (n64 m), .int .i64 x, .int .i64 y, .int .i64 z]) (by simp)); (try with_reducible have zr4 := five_zero hr4); have R4 := Lib.hid hr4; clear hr4)
          | (go_at_call_of 26 (Value.pointer (some ⟨q, 0, none⟩)); refine (TwinD.second (by first | with_reducible exact R4.out | with_reducible exact R4.out.off (Off.drew (Off.refl _ _)) | with_reducible exact R4.out.push _ _ | with_reducible exact (R4.out.push _ _).off (Off.drew (Off.refl _ _)) | with_reducible exact R4.out.off (Off.drewN (Off.refl _ _) _)) (fun C w F hl h => mr_bl hl h m2 x y z)).mono ?_; rintro e r5 ⟨rfl, hr5⟩; have kr5 : r5.cell? ⟨bw, 1, none⟩ = some (.int .i64 x) ∧ r5.cell? ⟨bw, 2, none⟩ = some (.int .i64 y) ∧ r5.cell? ⟨bw, 3, none⟩ = some (.int .i64 z) := w_cells (hr5.blk (b := bw) (t := 31) (cs := #[.int .u64 (n64 m), .int .i64 x, .int .i64 y, .int .i64 z]) (by simp)); (try with_reducible have zr5 := five_zero hr5); have R5 := Lib.hid hr5; clear hr5))
      all_goals go_wp2_with fail
      all_goals go_meet
      all_goals unfold fA fV5 fV4 fV3 fV2 fV1
      all_goals first
        | with_reducible exact ⟨_, rfl, R5.out.push _ _⟩
        | with_reducible exact ⟨_, rfl, R5.out.put5 (by first  | with_reducible exact T2.out.old.size | with_reducible exact R1.out.old.size | with_reducible exact R2.out.old.size | with_reducible exact R3.out.old.size | with_reducible exact R4.out.old.size | with_reducible exact R5.out.old.size) _ _ _ _ _⟩
    case rest =>
      obtain ⟨gb, rfl, hcut⟩ := hcut
      have T3 := Lib.hid hcut
      clear hcut hk
      have q1 := (T3.out.blk (b := ga) (t := 51) (cs := fA n E0 x y z) (by simp))
      have q2 := (T3.out.blk (b := gb) (t := 51) (cs := fA n E0 x y z) (by simp))
      have a0 := q1.cell 0
      have a1 := q1.cell 1
      have a2 := q1.cell 2
      have a3 := q1.cell 3
      have a4 := q1.cell 4
      have d0 := q2.cell 0
      have d1 := q2.cell 1
      have d2 := q2.cell 2
      have d3 := q2.cell 3
      have d4 := q2.cell 4
      clear q1 q2
      unfold fA at a0 a1 a2 a3 a4 d0 d1 d2 d3 d4
      simp only [List.getElem?_toArray, List.getElem?_cons_succ, List.getElem?_cons_zero] at a0 a1 a2 a3 a4 d0 d1 d2 d3 d4
      revert a0 a1 a2 a3 a4 d0 d1 d2 d3 d4
      generalize ckB n E0.length 1 4 [x, y] = e1
      generalize ckB n (fV1 n E0 x y).length 1 3 [x, y] = e2
      generalize ckB n (fV2 n E0 x y).length 1 2 [x] = e3
      generalize rwB n (fV3 n E0 x y).length x y z 4 = e4
      generalize rwB n (fV4 n E0 x y z).length x y z 3 = e5
      intro a0 a1 a2 a3 a4 d0 d1 d2 d3 d4
      have hfe := fun w => five_eq w e1 e2 e3 e4 e5
      have hfg := five_guard
      go_wp2_with fail
      obtain ⟨CP, FP, hp⟩ := T3.out.1.ar1
      have HP := Lib.hid (events_ok hp)
      clear hp
      refine HP.out.mono ?_
      rintro e v1 ⟨l1, rfl, hl1, o1⟩
      have V1 := Lib.hid (NewE.rd hl1)
      have T4 := Lib.hid (T3.out.off o1)
      clear hl1 o1 HP
      go_wp2_with fail
      obtain ⟨CQ, FQ, hq⟩ := T4.out.1.ar2
      have HQ := Lib.hid (events_ok hq)
      clear hq
      refine HQ.out.mono ?_
      rintro e v2 ⟨l2, rfl, hl2, o2⟩
      have V2 := Lib.hid (V1.out.keep o2 (fun _ _ h => h))
      have V3 := Lib.hid (NewE.rd hl2)
      have T5 := Lib.hid (T4.out.off o2)
      clear hl2 o2 HQ V1
      go_wp2_with fail
      refine (sameEv V2.out V3.out).mono ?_
      rintro e v3 ⟨rfl, o3⟩
      have O3 := Lib.hid (T5.out.old.also o3)
      clear o3 V2 V3
      go_wp2_with fail
      refine (awake_ok _).mono ?_
      rintro e v4 ⟨rfl, o4⟩
      have O4 := Lib.hid (O3.out.also o4)
      clear o4
      go_wp2
      go_ret
      exact ⟨ret_bool (by simp), O4.out⟩
theorem blind_long0 {w : World} (A0 A1 : Option Addr) (n0 c0 n1 c1 : Nat) (x y z x2 y2 z2 : Int) (m m2 : BitVec 64) (h : 200 < n0) (b0 : n0 ≤ maxLen) (b1 : n1 ≤ maxLen) :
    Calls Try.prog 8 #[.slice A0 n0 c0, .slice A1 n1 c1, .agg #[.int .u64 (n64 m), .int .i64 x, .int .i64 y, .int .i64 z, .int .u64 (n64 m2), .int .i64 x2, .int .i64 y2, .int .i64 z2]] w (BoolNew true w) := by
  unfold maxLen at b0 b1
  have hd0 : decide (200 < (n0 : Int)) = true := by simp; omega
  go_enter Try.func8, Try.ntmps8
  go_wp2_with fail
  refine (awake_ok _).mono ?_
  rintro e w4 ⟨rfl, h4⟩
  have H4 := Lib.hid h4
  clear h4
  go_wp2
  go_ret
  exact ⟨rfl, (Off.alloc (Off.refl _ _) _).also H4.out⟩
theorem blind_long1 {w : World} (A0 A1 : Option Addr) (n0 c0 n1 c1 : Nat) (x y z x2 y2 z2 : Int) (m m2 : BitVec 64) (h0 : ¬ 200 < n0) (h : 200 < n1) (b0 : n0 ≤ maxLen) (b1 : n1 ≤ maxLen) :
    Calls Try.prog 8 #[.slice A0 n0 c0, .slice A1 n1 c1, .agg #[.int .u64 (n64 m), .int .i64 x, .int .i64 y, .int .i64 z, .int .u64 (n64 m2), .int .i64 x2, .int .i64 y2, .int .i64 z2]] w (BoolNew true w) := by
  unfold maxLen at b0 b1
  have hd0 : decide (200 < (n0 : Int)) = false := by simp; omega
  have hd1 : decide (200 < (n1 : Int)) = true := by simp; omega
  go_enter Try.func8, Try.ntmps8
  go_wp2_with fail
  refine (awake_ok _).mono ?_
  rintro e w4 ⟨rfl, h4⟩
  have H4 := Lib.hid h4
  clear h4
  go_wp2
  go_ret
  exact ⟨rfl, (Off.alloc (Off.refl _ _) _).also H4.out⟩
theorem masksBlind_walk {w : World} {v0 v1 : Value} {n0 n1 : Nat} {X Y : List (BitVec 64)} (h0 : Rd w (Old w) 1 v0 n0 (u64s X)) (z0 : NilOk v0) (h1 : Rd w (Old w) 1 v1 n1 (u64s Y)) (z1 : NilOk v1)
    (l : List Value) (hl : l.length = 8) (hk : ∀ f j κ, kindAt Try.prog f 49 j = some κ → ∃ u, l[j]? = some u ∧ okV κ u) :
    Calls Try.prog 8 #[v0, v1, .agg l.toArray] w (BoolNew true w) := by
  obtain ⟨u0, e0, o0⟩ := hk 4 0 (some .u64) (by kernel_rfl)
  obtain ⟨u1, e1, o1⟩ := hk 4 1 (some .i64) (by kernel_rfl)
  obtain ⟨u2, e2, o2⟩ := hk 4 2 (some .i64) (by kernel_rfl)
  obtain ⟨u3, e3, o3⟩ := hk 4 3 (some .i64) (by kernel_rfl)
  obtain ⟨u4, e4, o4⟩ := hk 4 4 (some .u64) (by kernel_rfl)
  obtain ⟨u5, e5, o5⟩ := hk 4 5 (some .i64) (by kernel_rfl)
  obtain ⟨u6, e6, o6⟩ := hk 4 6 (some .i64) (by kernel_rfl)
  obtain ⟨u7, e7, o7⟩ := hk 4 7 (some .i64) (by kernel_rfl)
  obtain ⟨m, rfl⟩ := okV_u64 o0
  obtain ⟨x, rfl, _⟩ := okV_i64 o1
  obtain ⟨y, rfl, _⟩ := okV_i64 o2
  obtain ⟨z, rfl, _⟩ := okV_i64 o3
  obtain ⟨m2, rfl⟩ := okV_u64 o4
  obtain ⟨x2, rfl, _⟩ := okV_i64 o5
  obtain ⟨y2, rfl, _⟩ := okV_i64 o6
  obtain ⟨z2, rfl, _⟩ := okV_i64 o7
  match l, hl with
  | [a, b, c, d, e, f, g, h], _ =>
    simp at e0 e1 e2 e3 e4 e5 e6 e7
    subst e0 e1 e2 e3 e4 e5 e6 e7
    obtain ⟨A0, c0, rfl, m0, _⟩ := h0.form
    obtain ⟨A1, c1, rfl, m1, _⟩ := h1.form
    by_cases g0 : 200 < n0
    · exact blind_long0 _ _ _ _ _ _ _ _ _ _ _ _ _ _ g0 m0 m1
    by_cases g1 : 200 < n1
    · exact blind_long1 _ _ _ _ _ _ _ _ _ _ _ _ _ _ g0 g1 m0 m1
    exact blind_small A0 A1 n0 c0 n1 c1 X Y h0 h1 z0 z1 (by omega) (by omega) x y z x2 y2 z2 m m2

end Go.Proofs.Ytoplnkpjepejkaa
