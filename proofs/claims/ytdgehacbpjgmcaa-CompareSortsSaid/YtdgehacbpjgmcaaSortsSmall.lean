/-
  The walk of dragnetlaw08.CompareSorts where it sorts.
-/
import Derived.Test.YtdgehacbpjgmcaaSortPlain
import Derived.Test.YtdgehacbpjgmcaaAwake08
import Derived.Test.YtdgehacbpjgmcaaAppend
import Derived.Test.YtdgehacbpjgmcaaOpen
import Derived.Test.YtdgehacbpjgmcaaTwin
import Derived.RegionTactic
import Derived.Test.YtdgehacbpjgmcaaOneRow
import Derived.BigRegion
import Derived.BigQuiet
import Derived.Deep.RegionHeld3
import Derived.Laws.Bits64
import Derived.IntWalk
namespace Go.Proofs.Ytdgehacbpjgmcaa
open Go.RowKit Go.ChangeShapes Go.WideShapes Go.ChangeAt
set_option linter.unusedVariables false
set_option linter.unusedSimpArgs false
set_option maxRecDepth 100000
def mnI (a b : Int) : Int := min a b
theorem run_min_mnI {P : Program} {w : World} (ts : Array TypeId) (t : TypeId) (a b : Int) : (Builtin.min_ ts t #[.int .i64 a, .int .i64 b]).run P w = .ok (.int .i64 (mnI a b)) w := by
  rw [run_min_int2]
  congr 2
  unfold mnI
  split <;> omega
attribute [local go_sem ↓] run_min_mnI
theorem u64s_setO (l : List (BitVec 64)) (i : Nat) (v : BitVec 64) : (u64s l).set i (.int .u64 (n64 v)) = u64s (l.set i v) := by simp [u64s, List.map_set]
/-- The cells with keys made small, each followed by its number: the first rows. -/
def owL (X N q : Nat) (C : List (BitVec 64)) : Nat → List (BitVec 64)
  | 0 => C
  | i + 1 => ((owL X N q C i).set (X + i * N) (BitVec.ofNat 64 ((cl (owL X N q C i) (X + i * N)).toNat % q))).set (X + i * N + 1) (BitVec.ofNat 64 i)
theorem owL_len (X N q : Nat) (C : List (BitVec 64)) (i : Nat) : (owL X N q C i).length = C.length := by
  induction i with
  | zero => rfl
  | succ i ih => show ((List.set _ _ _).set _ _).length = _; rw [List.length_set, List.length_set, ih]
theorem owL_num (X N q Y : Nat) (C : List (BitVec 64)) (hN : 2 ≤ N) (hX : X + Y * N ≤ C.length) : ∀ i, i ≤ Y → ∀ j, j < i → cl (owL X N q C i) (X + j * N + 1) = BitVec.ofNat 64 j := by
  intro i
  induction i with
  | zero => exact fun _ j h => absurd h (Nat.not_lt_zero _)
  | succ i ih =>
    intro hi j hj
    have r := row_le (N := N) (show i < Y by omega)
    show cl ((List.set _ _ _).set _ _) _ = _
    rw [cl_set _ _ _ _ (by rw [List.length_set, owL_len]; omega), cl_set _ _ _ _ (by rw [owL_len]; omega)]
    by_cases e : j = i
    · subst e; rw [if_pos rfl]
    · have ap := row_ap (N := N) e
      rw [if_neg (by omega), if_neg (by omega)]
      exact ih (by omega) j (by omega)
def SoM (w wr : World) (b : Nat) (bv : Array Value) (g n cap : Nat) (D : List (BitVec 64)) : Prop := Off Nob w wr ∧ (Blk wr b 35 bv ∧ g ≠ b) ∧ wr.ownsRow w.heap.size 28 1 (.slice (some ⟨g, 0, none⟩) n cap) n (u64s D)
theorem SoM.put {w wr : World} {b g n cap : Nat} {bv : Array Value} {D : List (BitVec 64)} (h : SoM w wr b bv g n cap D) (j : Nat) (x : BitVec 64) : SoM w (wr.setCell ⟨g, j, none⟩ (.int .u64 (n64 x))) b bv g n cap (D.set j x) := by
  obtain ⟨h1, ⟨h2, h3⟩, h5⟩ := h
  refine ⟨h1.put (p := ⟨g, _, none⟩) (.inr (h5.lt g rfl).1) _, ⟨h2.far (p := ⟨g, j, none⟩) (fun e => h3 e.symm) _, h3⟩, ?_⟩
  have := (h5.stored j (.int .u64 (n64 x))).1
  rw [u64s_setO] at this
  exact this
theorem SoM.off {w wr w2 : World} {b g n cap : Nat} {bv : Array Value} {D : List (BitVec 64)} (h : SoM w wr b bv g n cap D) (o : Off Nob wr w2) : SoM w w2 b bv g n cap D :=
  ⟨h.1.also o, ⟨h.2.1.1.to (o.block _ h.2.1.1.lt (fun h => h)), h.2.1.2⟩, own_to h.2.2 (fun g hg => o.block g (h.2.2.lt g hg).2 (fun h => h))⟩
theorem SoM.at_ {w wr : World} {b g n cap : Nat} {bv : Array Value} {D : List (BitVec 64)} (h : SoM w wr b bv g n cap D) (hD : D.length = n) (i : Nat) (hi : i < n) : wr.cell? ⟨g, i, none⟩ = some (.int .u64 (n64 (cl D i))) ∧ wr.frozen? ⟨g, i, none⟩ = false := by
  refine ⟨?_, h.2.2.frozenAt i⟩
  rw [h.2.2.cellAt i (by omega)]
  exact getElem_u64s D i (by omega)
theorem own_base {w : World} {b b2 : Nat} {e : TypeId} {size : Nat} {v : Value} {n : Nat} {xs : List Value} (h : w.ownsRow b e size v n xs) (hb : b2 ≤ b) : w.ownsRow b2 e size v n xs := by
  obtain ⟨h1, h2⟩ := h
  refine ⟨h1, ?_⟩
  rcases h2 with h2 | ⟨g, cap, cur, hv, k1, k2⟩
  · exact .inl h2
  · exact .inr ⟨g, cap, cur, hv, Nat.le_trans hb k1, k2⟩
theorem One.addNew {w0 w w' : World} {bs : Bks} {p x : Nat} {t : TypeId} {cs : Array Value} {C : List (BitVec 64)} {E : List Ev} (h : One w0 w bs p C E) (o : Off Nob w w') (hb : Blk w' x t cs) (hx : w.heap.size ≤ x) : One w0 w' ((x, t, cs) :: bs) p C E := by
  obtain ⟨F, ha, ho, hf, hbs⟩ := h
  refine ⟨F, ha.keep o (fun _ _ hn => hn), ho.also o, hf, fun y hy => ?_⟩
  rcases List.mem_cons.1 hy with rfl | hy
  · exact ⟨hb, fun hk => by have := ha.lt _ hk; dsimp only at this; omega⟩
  · obtain ⟨k1, k2⟩ := hbs y hy
    exact ⟨k1.to (o.block _ k1.lt (fun h => h)), k2⟩
/-- An arena, blocks that stay, and a list of bits that is written. -/
def SoJ (w wr : World) (bs : Bks) (p : Nat) (C : List (BitVec 64)) (E : List Ev) (m Y : Nat) (ml : List Bool) : Prop := One w wr bs p C E ∧ wr.ownsRow w.heap.size 4 1 (.slice (some ⟨m, 0, none⟩) Y Y) Y (boolsV ml) ∧ (∀ x ∈ bs, x.1 ≠ m) ∧ (∃ F, Ar wr F p C E ∧ Off Nob w wr ∧ (∀ k, F k → w.heap.size ≤ k) ∧ (∀ x ∈ bs, Blk wr x.1 x.2.1 x.2.2 ∧ ¬ F x.1) ∧ ¬ F m)
theorem SoJ.off {w wr w2 : World} {bs : Bks} {p m Y : Nat} {C : List (BitVec 64)} {E : List Ev} {ml : List Bool} (h : SoJ w wr bs p C E m Y ml) (o : Off Nob wr w2) : SoJ w w2 bs p C E m Y ml := by
  obtain ⟨h1, h2, h3, F, a1, a2, a3, a4, a5⟩ := h
  exact ⟨h1.off o, own_to h2 (fun g hg => o.block g (h2.lt g hg).2 (fun h => h)), h3, F, a1.keep o (fun _ _ hn => hn), a2.also o, a3, fun x hx => ⟨(a4 x hx).1.to (o.block _ (a4 x hx).1.lt (fun h => h)), (a4 x hx).2⟩, a5⟩
theorem boolsV_set (l : List Bool) (i : Nat) (v : Bool) : (boolsV l).set i (.bool v) = boolsV (l.set i v) := by simp [boolsV, List.map_set]
theorem SoJ.put {w wr : World} {bs : Bks} {p m Y : Nat} {C : List (BitVec 64)} {E : List Ev} {ml : List Bool} (h : SoJ w wr bs p C E m Y ml) (j : Nat) : SoJ w (wr.setCell ⟨m, j, none⟩ (.bool true)) bs p C E m Y (ml.set j true) := by
  obtain ⟨h1, h2, h3, F, a1, a2, a3, a4, a5⟩ := h
  have off : Off (fun k => k = m) wr (wr.setCell ⟨m, j, none⟩ (.bool true)) := Off.put (F := fun k => k = m) (p := ⟨m, j, none⟩) (Off.refl _ _) (Or.inl (Eq.refl m)) _
  have hm := (h2.lt m rfl).1
  have b1 : Ar (wr.setCell ⟨m, j, none⟩ (.bool true)) F p C E := a1.keep off (fun k hk hn => a5 (by have e : k = m := hn; rw [← e]; exact hk))
  have b2 : Off Nob w (wr.setCell ⟨m, j, none⟩ (.bool true)) := a2.own off (fun k hk => by rw [hk]; exact hm)
  have b4 : ∀ x ∈ bs, Blk (wr.setCell ⟨m, j, none⟩ (.bool true)) x.1 x.2.1 x.2.2 ∧ ¬ F x.1 := fun x hx => ⟨(a4 x hx).1.to (off.block _ (a4 x hx).1.lt (fun e => h3 x hx e)), (a4 x hx).2⟩
  refine ⟨⟨F, b1, b2, a3, b4⟩, ?_, h3, F, b1, b2, a3, b4, a5⟩
  have := (h2.stored j (.bool true)).1
  rw [boolsV_set] at this
  exact this
/-- Which numbers were met. -/
def meL (f : Nat → Nat) (Y i : Nat) : List Bool := (List.range Y).map fun j => (List.range i).any fun k => f k == j
theorem meL_len (f : Nat → Nat) (Y i : Nat) : (meL f Y i).length = Y := by simp [meL]
theorem meL_at (f : Nat → Nat) (Y i j : Nat) (hj : j < Y) : (meL f Y i)[j]? = some ((List.range i).any fun k => f k == j) := by simp [meL, hj]
theorem meL_zero (f : Nat → Nat) (Y : Nat) : meL f Y 0 = List.replicate Y false := by
  apply List.ext_getElem
  · simp [meL]
  · intro i h1 h2; simp [meL]
theorem meL_set (f : Nat → Nat) (Y i : Nat) : (meL f Y i).set (f i) true = meL f Y (i + 1) := by
  apply List.ext_getElem?
  intro j
  rw [List.getElem?_set]
  by_cases hj : j < Y
  · rw [meL_at _ _ _ _ hj, meL_at _ _ _ _ hj, List.range_succ, List.any_append]
    by_cases e : f i = j
    · rw [if_pos e, if_pos (by rw [meL_len]; omega)]; simp [e]
    · rw [if_neg e]; simp [e]
  · rw [List.getElem?_eq_none (by rw [meL_len]; omega), List.getElem?_eq_none (by rw [meL_len]; omega)]
    by_cases e : f i = j
    · rw [if_pos e, if_neg (by rw [meL_len]; omega)]
    · rw [if_neg e]
theorem made_bs (N : Nat) : (madeCells (Value.bool false).cells (N * 1)).toList = boolsV (List.replicate N false) := by
  rw [Nat.mul_one]
  show (madeCells #[.bool false] N).toList = _
  rw [toList_madeCells_one]
  simp [boolsV]
theorem Try.infoBo : (Try.prog.info? 4).map (fun i => (i.zero, i.size, i.bytes)) = some (some (.bool false), 1, 1) := by kernel_rfl
theorem Arr.row {X N Y : Nat} {own C : List (BitVec 64)} {f : Nat → Nat} (h : Arr X N Y own C f) {j : Nat} (hj : j < Y) : (List.range N).map (fun t => cl C (X + j * N + t)) = (List.range N).map (fun t => cl own (X + f j * N + t)) := List.map_congr_left (fun t ht => h.2.1 j hj t (List.mem_range.1 ht))
theorem rd_part {w : World} {b n : Nat} {C : List (BitVec 64)} (hC : C.length = n) (hb : b < w.heap.size) (hc : ∀ i, i < n → w.cell? ⟨b, i, none⟩ = some (.int .u64 (n64 (cl C i)))) (a k c : Nat) (hk : a + k ≤ n) (hm : k ≤ maxLen) : Rd w (fun _ => True) 1 (.slice (some ⟨b, a, none⟩) k c) k (u64s ((List.range k).map fun t => cl C (a + t))) :=
  ⟨_, _, rfl, hm, by simp [u64s], fun _ => ⟨b, a, rfl, trivial, hb, fun j u hu => by
    by_cases hj : j < k
    · rw [hc _ (by omega)]
      simpa [u64s, hj] using hu
    · rw [List.getElem?_eq_none (by simp [u64s]; omega)] at hu
      cases hu⟩⟩
theorem blk_cells {w : World} {g n : Nat} {cur : Array Value} {D : List (BitVec 64)} (h : Blk w g 28 cur) (hc : cur.toList.take n = u64s D) (hD : D.length = n) (i : Nat) (hi : i < n) : w.cell? ⟨g, i, none⟩ = some (.int .u64 (n64 (cl D i))) := by
  rw [h.cell, ← Array.getElem?_toList]
  have := getElem_u64s D i (by omega)
  rw [← hc, List.getElem?_take_of_lt hi] at this
  exact this
theorem own_cur {w : World} {base g n cap : Nat} {D : List (BitVec 64)} (h : w.ownsRow base 28 1 (.slice (some ⟨g, 0, none⟩) n cap) n (u64s D)) : ∃ cur, Blk w g 28 cur ∧ cur.toList.take n = u64s D ∧ n ≤ cap ∧ cap ≤ maxLen := by
  rcases h.2 with ⟨h1, _⟩ | ⟨g', cap', cur, hv, h2, h3, h4, h5, h6, h7⟩
  · cases h1
  · injection hv with hv1 hv2 hv3
    injection hv1 with hv1
    injection hv1 with hv1
    subst hv1 hv3
    exact ⟨cur, h3, by rw [Nat.mul_one] at h7; exact h7, h4, h5⟩
theorem soE_so (nC nE X Y N R : Nat) (hR : N * Y = R) (hR2 : R ≤ 64) (hN1 : 2 ≤ N) (hN2 : N ≤ 64) (hY1 : 1 ≤ Y) (hY2 : Y ≤ 16) (hX : X + R ≤ nC) (hE : nE ≤ 1000) : soE nC nE (X : Int) (Y : Int) (N : Int) = 0 := by
  have m1 : (Y : Int) * (N : Int) = (R : Int) := by rw [← hR]; push_cast; rw [Int.mul_comm]
  unfold soE
  rw [m1, if_neg (by omega)]
  have g1 : hasE nC (X : Int) (R : Int) = 0 := by unfold hasE; rw [if_neg (by omega)]
  rw [if_pos g1, pl_tot N Y hY1]
  have h1 := pl_len (Y - 1)
  have h2 : (Y - 1) * (Y - 1 + 1) ≤ 15 * 16 := Nat.mul_le_mul (by omega) (by omega)
  have h3 : (4 * N + 2) * (pl (Y - 1)).length ≤ 258 * 120 := Nat.mul_le_mul (by omega) (by omega)
  unfold roomE
  rw [if_neg (by omega), if_neg (by omega)]
theorem pad_ofO (C : List (BitVec 64)) (h : 1 ≤ C.length) : pad C = C := by unfold pad; rw [if_neg (fun e => by rw [e] at h; exact absurd h (by decide))]
theorem u64s_oneO (C : List (BitVec 64)) : ∀ u ∈ u64s C, u.oneCell' = true := by
  intro u hu
  obtain ⟨x, _, rfl⟩ := List.mem_map.1 hu
  rfl
set_option maxHeartbeats 16000000 in
theorem sorts_small (w : World) (A0 : Option Addr) (n0 c0 X Y N ms : Nat) (C0 : List (BitVec 64)) (H0 : Hid (Rd w (Old w) 1 (.slice A0 n0 c0) n0 (u64s C0))) (Z0 : Hid (NilOk (.slice A0 n0 c0))) (L0 : Hid (C0.length = n0))
    (hn0 : n0 ≤ 200) (hN1 : 2 ≤ N) (hN2 : N ≤ 64) (hY1 : 1 ≤ Y) (hY2 : Y ≤ 16) (hms : ms ≤ 255) (R : Nat) (hR : N * Y = R) (hR2 : R ≤ 64) (hX : X + R ≤ n0) :
    Calls Try.prog 4 #[.slice A0 n0 c0, .agg #[.int .i64 (X : Int), .int .i64 (Y : Int), .int .i64 (N : Int)], .int .u8 (ms : Int)] w (BoolNew true w) := by
  obtain ⟨iu0, hi, hz0, hz1, hz2⟩ := info_parts Try.infoU
  have hR1 : 2 ≤ R := by rw [← hR]; exact Nat.mul_le_mul hN1 hY1
  have g0 : decide ((200 : Int) < (n0 : Int)) = false := decide_eq_false (by omega)
  have g1 : decide ((N : Int) < 2) = false := decide_eq_false (by omega)
  have g2 : decide ((64 : Int) < (N : Int)) = false := decide_eq_false (by omega)
  have g3 : decide ((Y : Int) < 1) = false := decide_eq_false (by omega)
  have g4 : decide ((16 : Int) < (Y : Int)) = false := decide_eq_false (by omega)
  have g5 : decide ((X : Int) < 0) = false := decide_eq_false (by omega)
  have g6 : decide ((n0 : Int) < (X : Int)) = false := decide_eq_false (by omega)
  have hNY : (N : Int) * (Y : Int) = (R : Int) := by rw [← hR]; push_cast; rfl
  have g7 : decide (mnI 64 ((n0 : Int) - (X : Int)) < (R : Int)) = false := decide_eq_false (by unfold mnI; omega)
  obtain ⟨q0, hq0⟩ : ∃ q0 : Nat, (ms : Int) % 6 = (q0 : Int) := ⟨ms % 6, by omega⟩
  have hq1 : q0 ≤ 5 := by omega
  go_enter Try.func4, Try.ntmps4
  go_wp2_with (at_builtin; refine wpList_append_rd rfl _ _ 22 rfl (w.heap.size + 1) 28 iu0 (.int .u64 0) 1 8 Try.underlying22 hi hz0 hz1 hz2 rfl (by decide) (w.heap.size + 1) 0 0 [] rfl ?d0 (.slice A0 n0 c0) n0 (u64s C0) rfl (F := Old w) ?d1 Z0.out (u64s_oneO C0) ?d3 ?d4 ?d5 ?_)
  case d0 => simpa using World.ownsRow_made (w.alloc (.cells #[.int .i64 (X : Int), .int .i64 (Y : Int), .int .i64 (N : Int)] 35)) #[] 0 (Nat.le_refl _) (Nat.zero_le _) rfl
  case d1 => exact H0.out.keep (Off.alloc (Off.alloc (Off.refl Nob w) _) _) (fun _ _ h => h)
  case d3 => unfold maxLen; omega
  case d4 => omega
  case d5 => simp
  intro g cap w1 ho1 hg1 ha1
  have O1 : Off Nob (w.alloc (.cells #[.int .i64 (X : Int), .int .i64 (Y : Int), .int .i64 (N : Int)] 35)) w1 := Off.grown (Off.alloc (Off.refl _ _) _) hg1 (fun k hk => .inr (by injection hk with hk; simp; omega))
  have hgb : g ≠ w.heap.size := by have := (ho1.lt g rfl).1; omega
  have M0 : Hid (SoM w w1 w.heap.size #[.int .i64 (X : Int), .int .i64 (Y : Int), .int .i64 (N : Int)] g n0 cap (owL X N (q0 + 1) C0 0)) := by
    refine Lib.hid ⟨(Off.alloc (Off.refl _ _) _).also O1, ⟨(Blk.new w 35 #[.int .i64 (X : Int), .int .i64 (Y : Int), .int .i64 (N : Int)]).to (O1.block _ (by simp) (fun h => h)), hgb⟩, ?_⟩
    exact own_base ho1 (Nat.le_succ _)
  clear hg1 ha1 ho1 O1 hgb
  generalize hb : w.heap.size = b at *
  clear hb
  go_wp2_with fail
  go_loopw [8] (fun iv wr => ∃ i : Nat, i ≤ Y ∧ iv = .int .i64 (i : Int) ∧ SoM w wr b #[.int .i64 (X : Int), .int .i64 (Y : Int), .int .i64 (N : Int)] g n0 cap (owL X N (q0 + 1) C0 i)) (fun iv _ => Y - (intOf iv).toNat)
  case atStart => exact ⟨0, Nat.zero_le _, rfl, M0.out⟩
  case round =>
    obtain ⟨i, hi', rfl, hrel⟩ := hrel
    have M1 := Lib.hid hrel
    clear hrel M0
    have kb := M1.out.2.1.1
    have x0 := kb.cell 0
    have x1 := kb.cell 1
    have x2 := kb.cell 2
    simp only [List.getElem?_toArray, List.getElem?_cons_succ, List.getElem?_cons_zero] at x0 x1 x2
    clear kb
    by_cases hiY : i < Y
    · have hrow := row_le (N := N) hiY
      rw [Nat.mul_comm Y N, hR] at hrow
      obtain ⟨a, ha⟩ : ∃ a, X + i * N = a := ⟨_, rfl⟩
      have han : a + 1 < n0 := by omega
      have hai : (X : Int) + (i : Int) * (N : Int) = (a : Int) := by rw [← ha]; push_cast; rfl
      have hinc : ((i * N : Nat) : Int) = (i : Int) * (N : Int) := by push_cast; rfl
      have hin : (i : Int) * (N : Int) ≤ 64 := by omega
      have hin0 : 0 ≤ (i : Int) * (N : Int) := Int.mul_nonneg (by omega) (by omega)
      obtain ⟨y0, y1⟩ := M1.out.at_ (by rw [owL_len]; exact L0.out) a (by omega)
      have m2 := (M1.out.put a (BitVec.ofNat 64 ((cl (owL X N (q0 + 1) C0 i) a).toNat % (q0 + 1)))).off (w2 := (wr.setCell ⟨g, a, none⟩ (.int .u64 (n64 (BitVec.ofNat 64 ((cl (owL X N (q0 + 1) C0 i) a).toNat % (q0 + 1)))))).drew) (Off.drew (Off.refl _ _))
      obtain ⟨y2, y3⟩ := m2.at_ (by rw [List.length_set, owL_len]; exact L0.out) (a + 1) (by omega)
      have kb2 := m2.2.1.1
      have u0 := kb2.cell 0
      have u1 := kb2.cell 1
      have u2 := kb2.cell 2
      simp only [List.getElem?_toArray, List.getElem?_cons_succ, List.getElem?_cons_zero] at u0 u1 u2
      clear kb2
      have M2 := Lib.hid (m2.put (a + 1) (BitVec.ofNat 64 i))
      clear m2
      rw [show ((owL X N (q0 + 1) C0 i).set a (BitVec.ofNat 64 ((cl (owL X N (q0 + 1) C0 i) a).toNat % (q0 + 1)))).set (a + 1) (BitVec.ofNat 64 i) = owL X N (q0 + 1) C0 (i + 1) by rw [← ha]; rfl] at M2
      have hi64 : n64 (BitVec.ofNat 64 i) = (i : Int) := by unfold n64; rw [BitVec.toNat_ofNat]; omega
      rw [hi64] at M2
      generalize n64 (cl ((owL X N (q0 + 1) C0 i).set a (BitVec.ofNat 64 ((cl (owL X N (q0 + 1) C0 i) a).toNat % (q0 + 1)))) (a + 1)) = zz at y2
      have hd1 : decide ((n0 : Int) ≤ (a : Int)) = false := decide_eq_false (by omega)
      have hd2 : decide (n0 ≤ a) = false := decide_eq_false (by omega)
      have hd3 : decide ((a : Int) < 0) = false := decide_eq_false (by omega)
      have hq3 : IntKind.u64.wrap (q0 : Int) = (q0 : Int) := by rw [IntKind.wrap_u64]; omega
      have hq4 : IntKind.u64.wrap ((q0 : Int) + 1) = (q0 : Int) + 1 := by rw [IntKind.wrap_u64]; omega
      have hq5 : ((q0 : Int) + 1 == 0) = false := by rw [beq_eq_false_iff_ne]; omega
      obtain ⟨v, hv⟩ : ∃ v, (cl (owL X N (q0 + 1) C0 i) a).toNat = v := ⟨_, rfl⟩
      have hvn : n64 (cl (owL X N (q0 + 1) C0 i) a) = (v : Int) := by rw [← hv]; rfl
      rw [hvn] at y0
      rw [hv] at M2 y2 y3 u0 u1 u2
      have hvm : n64 (BitVec.ofNat 64 (v % (q0 + 1))) = (v : Int) % ((q0 : Int) + 1) := by
        have := Nat.mod_lt v (show 0 < q0 + 1 by omega)
        unfold n64
        rw [BitVec.toNat_ofNat, Nat.mod_eq_of_lt (by omega)]
        push_cast
        rfl
      rw [hvm] at M2 y2 y3 u0 u1 u2
      have hvb : v < 18446744073709551616 := by rw [← hv]; exact (cl (owL X N (q0 + 1) C0 i) a).isLt
      clear hv hvn
      go_wp2_with fail
      go_region
      go_wp2_with fail
      go_roundw
      case rel => exact ⟨i + 1, by omega, by go_num, M2.out⟩
      case measure => simp [intOf]; omega
    · obtain rfl : Y = i := by omega
      have HNUM := Lib.hid (owL_num X N (q0 + 1) Y C0 hN1 (by rw [L0.out, Nat.mul_comm]; omega) Y (Nat.le_refl _))
      have HOL := Lib.hid (show (owL X N (q0 + 1) C0 Y).length = n0 by rw [owL_len]; exact L0.out)
      obtain ⟨own, hown⟩ : ∃ D, owL X N (q0 + 1) C0 Y = D := ⟨_, rfl⟩
      rw [hown] at M1 HNUM HOL
      clear hown
      go_wp2_with fail
      obtain ⟨cur, hbg, hcur, hcap, hcap2⟩ := own_cur M1.out.2.2
      have HCUR := Lib.hid hcur
      have H0a : Hid (∀ e w', Made wr own e w' → ∃ p r, e = .returned (.tuple #[.pointer (some ⟨p, 0, none⟩), .pointer (some ⟨r, 0, none⟩)]) ∧ One w w' [(b, 35, #[.int .i64 (X : Int), .int .i64 (Y : Int), .int .i64 (N : Int)]), (g, 28, cur)] p own (stores n0)) := Lib.hid (fun e w' k => by
        have := Made.one (bs := [(b, 35, #[.int .i64 (X : Int), .int .i64 (Y : Int), .int .i64 (N : Int)]), (g, 28, cur)]) k M1.out.1 (fun x hx => by
          rcases List.mem_cons.1 hx with rfl | hx
          · exact M1.out.2.1.1
          · rw [List.mem_singleton.1 hx]; exact hbg)
        rwa [pad_ofO own (by rw [HOL.out]; omega), HOL.out] at this)
      have HA0 := Lib.hid (arena_any (Rd.own M1.out.2.2 (F := fun k => True) (fun k _ => trivial)) (by rw [HOL.out]; omega))
      have HGB := Lib.hid M1.out.2.1.2
      have HGW := Lib.hid (M1.out.2.2.lt g rfl).1
      clear hcur hbg M1 x0 x1 x2
      refine HA0.out.mono ?_
      rintro e w3 k
      obtain ⟨p, r, rfl, u0⟩ := H0a.out _ _ k
      clear k H0a HA0
      have U0 := Lib.hid u0
      have x0 := (u0.blk (List.mem_cons_self ..)).cell 0
      have x1 := (u0.blk (List.mem_cons_self ..)).cell 1
      have x2 := (u0.blk (List.mem_cons_self ..)).cell 2
      simp only [List.getElem?_toArray, List.getElem?_cons_succ, List.getElem?_cons_zero] at x0 x1 x2
      clear u0
      have HSO := Lib.hid (soE_so own.length (stores n0).length X Y N R hR hR2 hN1 hN2 hY1 hY2 (by rw [HOL.out]; exact hX) (by rw [length_stores]; omega))
      obtain ⟨f, hf⟩ := sort_ord X N Y own (stores n0) (by omega) hY1 (by rw [HOL.out, Nat.mul_comm]; omega)
      have HSL := Lib.hid (soL_len X N (own, stores n0) (pl (Y - 1)))
      have HF := Lib.hid hf
      clear hf
      have HCS : Hid (∀ (w : World) (F : Nat → Prop), Ar w F p own (stores n0) → Calls Try.prog 14 #[.pointer (some ⟨p, 0, none⟩), .int .i64 (X : Int), .int .i64 (Y : Int), .int .i64 (N : Int)] w fun e w' => e = .returned (.int .i64 0) ∧ ArTo w F p (soL X N (own, stores n0) (pl (Y - 1))).1 (soL X N (own, stores n0) (pl (Y - 1))).2 w') := Lib.hid (fun w F ha => csort_ok ha X Y N HSO.out)
      have HEL : Hid ((soL X N (own, stores n0) (pl (Y - 1))).2.length = n0 + (4 * N + 2) * (pl (Y - 1)).length) := Lib.hid (by rw [HSL.out.2]; show (stores n0).length + _ = _; rw [length_stores])
      clear HSO HSL
      revert HF HCS HEL
      generalize (soL X N (own, stores n0) (pl (Y - 1))).1 = got
      generalize (soL X N (own, stores n0) (pl (Y - 1))).2 = E2
      intro HF HCS HEL
      have HGL : Hid (got.length = n0) := Lib.hid (by rw [HF.out.1.1, HOL.out])
      go_wp2_with fail
      refine (U0.out.call HCS.out).mono ?_
      rintro e w4 ⟨rfl, h4⟩
      have U4 := Lib.hid h4
      clear h4 U0 HCS x0 x1 x2
      go_wp2_with fail
      refine Calls.mono (R := fun e w' => ∃ h c, e = .returned (.slice (some ⟨h, 0, none⟩) n0 c) ∧ w'.ownsRow w4.heap.size 28 1 (.slice (some ⟨h, 0, none⟩) n0 c) n0 (u64s got) ∧ Off Nob w4 w') (by
        obtain ⟨F, ha⟩ := U4.out.ar
        refine (cells_ok ha).mono fun e w' ⟨v, he, hv, ho⟩ => ?_
        rw [HGL.out] at hv
        rcases hv.2 with ⟨_, h2⟩ | ⟨g, cap, cur, hv2, _⟩
        · omega
        · subst hv2; exact ⟨g, cap, he, hv, ho⟩) ?_
      rintro e w5 ⟨h, c, rfl, ho5, o5⟩
      obtain ⟨cu2, hbh, hcu2, hcc, hcc2⟩ := own_cur ho5
      have HCU2 := Lib.hid hcu2
      have U5 := Lib.hid (U4.out.addNew o5 hbh (ho5.lt h rfl).1)
      have HHW := Lib.hid (Nat.le_trans U4.out.old.size (ho5.lt h rfl).1)
      have kb := (U5.out.blk (List.mem_cons_of_mem _ (List.mem_cons_self ..)))
      have x0 := kb.cell 0
      have x1 := kb.cell 1
      have x2 := kb.cell 2
      simp only [List.getElem?_toArray, List.getElem?_cons_succ, List.getElem?_cons_zero] at x0 x1 x2
      clear kb ho5 o5 hcu2 hbh U4
      unfold maxLen at hcap2 hcc2
      obtain ⟨ib0, hib, hb0, hb1, hb2⟩ := info_parts Try.infoBo
      go_wp2_with (at_make; refine wpList_make_full _ rfl _ _ 38 rfl w.heap.size 4 ib0 (.bool false) 1 Try.underlying38 hib hb0 hb1 .i64 .i64 _ _ Y rfl rfl rfl rfl (by rw [hb2]; omega) (by unfold maxLen; omega) (U5.out.old.size) ?_; intro w6 hown6 hgrow6)
      have MARK4 := True.intro
      have J0 : Hid (SoJ w w6 [(h, 28, cu2), (b, 35, #[.int .i64 (X : Int), .int .i64 (Y : Int), .int .i64 (N : Int)]), (g, 28, cur)] p got E2 w5.heap.size Y (meL f Y 0)) := by
        refine Lib.hid ?_
        rw [show (madeCells (Value.bool false).cells (Y * 1)).toList = boolsV (meL f Y 0) by rw [meL_zero]; exact made_bs Y] at hown6
        have o6 : Off Nob w5 w6 := Off.grown (Off.refl _ _) hgrow6 (fun k hk => by cases hk)
        obtain ⟨F, a1, a2, a3, a4⟩ := U5.out
        have a4' : ∀ x ∈ [(h, 28, cu2), (b, 35, #[.int .i64 (X : Int), .int .i64 (Y : Int), .int .i64 (N : Int)]), (g, 28, cur)], Blk w6 x.1 x.2.1 x.2.2 ∧ ¬ F x.1 := fun x hx => ⟨(a4 x hx).1.to (o6.block _ (a4 x hx).1.lt (fun h => h)), (a4 x hx).2⟩
        have a1' := a1.keep o6 (fun _ _ hn => hn)
        have a2' := a2.also o6
        exact ⟨⟨F, a1', a2', a3, a4'⟩, hown6, fun x hx => Nat.ne_of_lt (a4 x hx).1.lt, F, a1', a2', a3, a4', fun hk => by have := a1.lt _ hk; omega⟩
      clear hown6 hgrow6 U5
      generalize w5.heap.size = m at *
      clear x0 x1 x2
      go_wp2_with fail
      go_loopw [14] (fun iv wr => ∃ i : Nat, i ≤ Y ∧ iv = .int .i64 (i : Int) ∧ SoJ w wr [(h, 28, cu2), (b, 35, #[.int .i64 (X : Int), .int .i64 (Y : Int), .int .i64 (N : Int)]), (g, 28, cur)] p got E2 m Y (meL f Y i)) (fun iv _ => Y - (intOf iv).toNat)
      case atStart => exact ⟨0, Nat.zero_le _, rfl, J0.out⟩
      case round =>
        obtain ⟨i, hi', rfl, hrel⟩ := hrel
        have J1 := Lib.hid hrel
        clear hrel J0
        have kb := J1.out.1.blk (List.mem_cons_of_mem _ (List.mem_cons_self ..))
        have x0 := kb.cell 0
        have x1 := kb.cell 1
        have x2 := kb.cell 2
        simp only [List.getElem?_toArray, List.getElem?_cons_succ, List.getElem?_cons_zero] at x0 x1 x2
        clear kb
        by_cases hiY : i < Y
        · have hrY := HF.out.2.1 i hiY
          have hrow := row_le (N := N) hiY
          have hrow2 := row_le (N := N) hrY
          rw [Nat.mul_comm Y N, hR] at hrow hrow2
          have hc1 := HF.out.1.2.1 i hiY 1 (by omega)
          have hc0 := HF.out.1.2.1 i hiY 0 (by omega)
          rw [HNUM.out _ hrY] at hc1
          have HROW := Lib.hid (HF.out.1.row hiY)
          have HST := Lib.hid (HF.out.2.2.2)
          have HLT : Hid (((List.range i).any fun k => f k == f i) = false) := Lib.hid (by
            rw [Bool.eq_false_iff]
            intro hq
            obtain ⟨k, hk, he⟩ := List.any_eq_true.1 hq
            exact HF.out.2.2.1 k i (List.mem_range.1 hk) (by simpa using he))
          have HSET := Lib.hid (meL_set f Y i)
          have HPREV : Hid (∀ j, j < i → f j < Y ∧ cl got (X + j * N + 1) = BitVec.ofNat 64 (f j) ∧ cl got (X + j * N) = cl own (X + f j * N)) := Lib.hid (fun j hj => by
            have k1 := HF.out.2.1 j (by omega)
            have k2 := HF.out.1.2.1 j (by omega) 1 (by omega)
            have k3 := HF.out.1.2.1 j (by omega) 0 (by omega)
            rw [HNUM.out _ k1] at k2
            exact ⟨k1, k2, k3⟩)
          obtain ⟨r', hr'⟩ : ∃ r', f i = r' := ⟨_, rfl⟩
          rw [hr'] at hrY hrow2 hc1 hc0 HROW HLT HSET
          have HFI := Lib.hid hr'
          clear hr'
          obtain ⟨a, ha⟩ : ∃ a, X + i * N = a := ⟨_, rfl⟩
          obtain ⟨a2, ha2⟩ : ∃ a, X + r' * N = a := ⟨_, rfl⟩
          have hai : (X : Int) + (i : Int) * (N : Int) = (a : Int) := by rw [← ha]; push_cast; rfl
          have hai2 : (X : Int) + (r' : Int) * (N : Int) = (a2 : Int) := by rw [← ha2]; push_cast; rfl
          have hinc : ((i * N : Nat) : Int) = (i : Int) * (N : Int) := by push_cast; rfl
          have hinc2 : ((r' * N : Nat) : Int) = (r' : Int) * (N : Int) := by push_cast; rfl
          have hin : (i : Int) * (N : Int) ≤ 64 := by omega
          have hin0 : 0 ≤ (i : Int) * (N : Int) := by omega
          have hin2 : (r' : Int) * (N : Int) ≤ 64 := by omega
          have hin3 : 0 ≤ (r' : Int) * (N : Int) := by omega
          have haN : a + N ≤ n0 := by omega
          have haN2 : a2 + N ≤ n0 := by omega
          rw [ha, ha2] at HROW
          simp only [Nat.add_zero] at hc0
          rw [ha] at hc1 hc0
          rw [ha2] at hc0
          have CG : Hid (∀ W ml, SoJ w W [(h, 28, cu2), (b, 35, #[.int .i64 (X : Int), .int .i64 (Y : Int), .int .i64 (N : Int)]), (g, 28, cur)] p got E2 m Y ml → (W.cell? ⟨b, 0, none⟩ = some (.int .i64 (X : Int)) ∧ W.cell? ⟨b, 1, none⟩ = some (.int .i64 (Y : Int)) ∧ W.cell? ⟨b, 2, none⟩ = some (.int .i64 (N : Int))) ∧ (∀ k, k < n0 → W.cell? ⟨h, k, none⟩ = some (.int .u64 (n64 (cl got k)))) ∧ (∀ k, k < n0 → W.cell? ⟨g, k, none⟩ = some (.int .u64 (n64 (cl own k)))) ∧ h < W.heap.size ∧ g < W.heap.size) := Lib.hid (fun W ml hj => by
            have k1 := hj.1.blk (List.mem_cons_self ..)
            have k2 := hj.1.blk (List.mem_cons_of_mem _ (List.mem_cons_self ..))
            have k3 := hj.1.blk (List.mem_cons_of_mem _ (List.mem_cons_of_mem _ (List.mem_cons_self ..)))
            exact ⟨⟨k2.cell 0, k2.cell 1, k2.cell 2⟩, fun k hk => blk_cells k1 HCU2.out HGL.out k hk, fun k hk => blk_cells k3 HCUR.out HOL.out k hk, k1.lt, k3.lt⟩)
          have hn64r : n64 (BitVec.ofNat 64 r') = (r' : Int) := by unfold n64; rw [BitVec.toNat_ofNat]; omega
          obtain ⟨_, gk, _, _, _⟩ := CG.out _ _ J1.out
          have z1 := gk (a + 1) (by omega)
          rw [hc1, hn64r] at z1
          have zm : wr.cell? ⟨m, r', none⟩ = some (.bool false) := by
            rw [J1.out.2.1.cellAt r' (by omega), boolsV, List.getElem?_map, meL_at _ _ _ _ hrY, HLT.out]; rfl
          clear gk
          have hd1 : decide ((Y : Int) ≤ (r' : Int)) = false := decide_eq_false (by omega)
          have hd1b : decide (Y ≤ r') = false := decide_eq_false (by omega)
          go_wp2_with fail
          rw [show a + N - a = N by omega]
          have MARK5 := True.intro
          go_quiet (fail)
          have J2 := Lib.hid (J1.out.off (Off.drewN (Off.refl Nob wr) nq))
          have MARK6 := True.intro
          clear J1 x0 x1 x2 z1 zm
          generalize wr.drewN nq = W0 at *
          obtain ⟨_, gk, _, _, _⟩ := CG.out _ _ J2.out
          have z1 := gk (a + 1) (by omega)
          rw [hc1, hn64r] at z1
          have zm : W0.cell? ⟨m, r', none⟩ = some (.bool false) := by
            rw [J2.out.2.1.cellAt r' (by omega), boolsV, List.getElem?_map, meL_at _ _ _ _ hrY, HLT.out]; rfl
          have zf := J2.out.2.1.frozenAt r'
          have J3 : Hid (SoJ w (W0.setCell ⟨m, r', none⟩ (.bool true)) [(h, 28, cu2), (b, 35, #[.int .i64 (X : Int), .int .i64 (Y : Int), .int .i64 (N : Int)]), (g, 28, cur)] p got E2 m Y (meL f Y (i + 1))) := Lib.hid (by have := J2.out.put r'; rwa [HSET.out] at this)
          clear gk
          go_wp2_with fail
          have MARK7 := True.intro
          generalize W0.setCell ⟨m, r', none⟩ (.bool true) = W1 at *
          clear z1 zm zf J2
          obtain ⟨⟨x0, x1, x2⟩, gk, _, _, _⟩ := CG.out _ _ J3.out
          have z1 := gk (a + 1) (by omega)
          rw [hc1, hn64r] at z1
          clear gk
          have hri : IntKind.i64.wrap (r' : Int) = (r' : Int) := IntWalk.i64_in _ (by omega)
          go_quiet (fail)
          have J4 := Lib.hid (J3.out.off (Off.drewN (Off.refl Nob W1) nq))
          have MARK8 := True.intro
          clear J3 x0 x1 x2 z1
          generalize W1.drewN nq = W2 at *
          obtain ⟨⟨x0, x1, x2⟩, gk, go, hh1, hh2⟩ := CG.out _ _ J4.out
          have RD1 := Lib.hid (rd_part HGL.out hh1 gk a N (c - a) haN (by unfold maxLen; omega))
          have RD2 := Lib.hid (rd_part HOL.out hh2 go a2 N (cap - a2) haN2 (by unfold maxLen; omega))
          rw [HROW.out] at RD1
          clear gk go hh1 hh2
          go_wp2_with fail
          rw [show a2 + N - a2 = N by omega]
          have MARK9 := True.intro
          refine Calls.mono (R := fun e w' => e = .returned (.bool true) ∧ Off Nob W2 w') ((sameCells_any RD1.out RD2.out).mono fun e w' ⟨he, ho⟩ => ⟨by rw [he]; unfold sameB; rw [decide_eq_true rfl], ho⟩) ?_
          rintro e W3 ⟨rfl, o3⟩
          have J5 := Lib.hid (J4.out.off o3)
          clear o3 J4 RD1 RD2 x0 x1 x2
          obtain ⟨⟨x0, x1, x2⟩, gk, _, _, _⟩ := CG.out _ _ J5.out
          by_cases hi0 : i = 0
          · have hz0 : decide ((0 : Int) < (i : Int)) = false := decide_eq_false (by omega)
            clear gk
            go_wp2_with fail
            go_quiet (fail)
            have J6 := Lib.hid (J5.out.off (Off.drewN (Off.refl Nob W3) nq))
            go_wp2_with fail
            go_roundw
            case rel => exact ⟨i + 1, by omega, by go_num, J6.out⟩
            case measure => simp [intOf]; omega
          · have hz0 : decide ((0 : Int) < (i : Int)) = true := decide_eq_true (by omega)
            obtain ⟨i1, hi1⟩ : ∃ i1, i = i1 + 1 := ⟨i - 1, by omega⟩
            have hz1 : decide (0 < i) = true := decide_eq_true (by omega)
            obtain ⟨k1, k2, k3⟩ := HPREV.out i1 (by omega)
            have hst := HST.out i1 (by omega)
            rw [← hi1, HFI.out] at hst
            obtain ⟨a3, ha3⟩ : ∃ a3, X + i1 * N = a3 := ⟨_, rfl⟩
            have haa : a = a3 + N := by rw [← ha, ← ha3, hi1, Nat.add_mul, Nat.one_mul, Nat.add_assoc]
            have hsub : (a : Int) - (N : Int) = (a3 : Int) := by omega
            rw [ha3] at k2 k3
            obtain ⟨r1, hr1⟩ : ∃ r1, f i1 = r1 := ⟨_, rfl⟩
            rw [hr1] at k1 k2 k3 hst
            have y0 := gk a (by omega)
            have y1 := gk (a + 1) (by omega)
            have y2 := gk a3 (by omega)
            have y3 := gk (a3 + 1) (by omega)
            have hn64r1 : n64 (BitVec.ofNat 64 r1) = (r1 : Int) := by unfold n64; rw [BitVec.toNat_ofNat]; omega
            rw [hc1, hn64r] at y1
            rw [hc0] at y0
            rw [k2, hn64r1] at y3
            rw [k3] at y2
            unfold Rle keyO at hst
            rw [ha2] at hst
            have ev0 : n64 (cl own a2) = (((cl own a2).toNat : Nat) : Int) := rfl
            have ev1 : n64 (cl own (X + r1 * N)) = (((cl own (X + r1 * N)).toNat : Nat) : Int) := rfl
            rw [ev0] at y0
            rw [ev1] at y2
            generalize (cl own a2).toNat = v0 at *
            generalize (cl own (X + r1 * N)).toNat = v1 at *
            have hlt0 : decide ((v0 : Int) < (v1 : Int)) = false := decide_eq_false (by omega)
            have hlt0b : decide (v0 < v1) = false := decide_eq_false (by omega)
            clear gk ev0 ev1 haa hi1
            rcases hst with hst | ⟨hst, hst2⟩
            · have heq : ((v1 : Int) == (v0 : Int)) = false := beq_eq_false_iff_ne.2 (by omega)
              have heqb : (v1 == v0) = false := beq_eq_false_iff_ne.2 (by omega)
              have heqc : decide (v1 = v0) = false := decide_eq_false (by omega)
              go_wp2_with fail
              have MARKA := True.intro
              go_quiet (fail)
              have J6 := Lib.hid (J5.out.off (Off.drewN (Off.refl Nob W3) nq))
              go_wp2_with fail
              go_roundw
              case rel => exact ⟨i + 1, by omega, by go_num, J6.out⟩
              case measure => simp [intOf]; omega
            · have heq : ((v1 : Int) == (v0 : Int)) = true := beq_iff_eq.2 (by omega)
              have hlt1 : decide ((r' : Int) < (r1 : Int)) = false := decide_eq_false (by omega)
              have hlt1b : decide (r' < r1) = false := decide_eq_false (by omega)
              subst hst
              go_wp2_with fail
              go_quiet (fail)
              have J6 := Lib.hid (J5.out.off (Off.drewN (Off.refl Nob W3) nq))
              go_wp2_with fail
              go_roundw
              case rel => exact ⟨i + 1, by omega, by go_num, J6.out⟩
              case measure => simp [intOf]; omega
        · obtain rfl : Y = i := by omega
          obtain ⟨en, hen⟩ : ∃ en, X + R = en := ⟨_, rfl⟩
          have heni : (X : Int) + (R : Int) = (en : Int) := by omega
          obtain ⟨dn, hdn⟩ : ∃ dn, n0 - en = dn := ⟨_, rfl⟩
          have C2 : Hid (∀ W, Off Nob wr W → W.cell? ⟨b, 0, none⟩ = some (.int .i64 (X : Int)) ∧ W.cell? ⟨b, 1, none⟩ = some (.int .i64 (Y : Int)) ∧ W.cell? ⟨b, 2, none⟩ = some (.int .i64 (N : Int))) := Lib.hid (fun W o => by
            have k2 := (J1.out.off o).1.blk (List.mem_cons_of_mem _ (List.mem_cons_self ..))
            exact ⟨k2.cell 0, k2.cell 1, k2.cell 2⟩)
          obtain ⟨Ah, hAh⟩ : ∃ A : Option Addr, (if c = en then some ⟨h, 0, none⟩ else some ⟨h, en, none⟩) = A := ⟨_, rfl⟩
          obtain ⟨Ag, hAg⟩ : ∃ A : Option Addr, (if cap = en then some ⟨g, 0, none⟩ else some ⟨g, en, none⟩) = A := ⟨_, rfl⟩
          have SC : Hid (∀ W, Off Nob wr W → ∀ v1 v2 : Value, (v1 = .slice (some ⟨h, 0, none⟩) X c ∧ v2 = .slice (some ⟨g, 0, none⟩) X cap) ∨ (v1 = .slice Ah dn (c - en) ∧ v2 = .slice Ag dn (cap - en)) → Calls Try.prog 16 #[v1, v2] W fun e w' => e = .returned (.bool true) ∧ Off Nob W w') := Lib.hid (fun W o v1 v2 hv => by
            have hj := J1.out.off o
            have k1 := hj.1.blk (List.mem_cons_self ..)
            have k3 := hj.1.blk (List.mem_cons_of_mem _ (List.mem_cons_of_mem _ (List.mem_cons_self ..)))
            have key : ∀ a k c1 c2 : Nat, (a = 0 ∧ k = X) ∨ (a = en ∧ k = dn) → Calls Try.prog 16 #[.slice (some ⟨h, a, none⟩) k c1, .slice (some ⟨g, a, none⟩) k c2] W fun e w' => e = .returned (.bool true) ∧ Off Nob W w' := fun a k c1 c2 hak => by
              have hk : a + k ≤ n0 := by omega
              have r1 := rd_part HGL.out k1.lt (fun q hq => blk_cells k1 HCU2.out HGL.out q hq) a k c1 hk (by unfold maxLen; omega)
              have r2 := rd_part HOL.out k3.lt (fun q hq => blk_cells k3 HCUR.out HOL.out q hq) a k c2 hk (by unfold maxLen; omega)
              have e : (List.range k).map (fun t => cl got (a + t)) = (List.range k).map (fun t => cl own (a + t)) := List.map_congr_left (fun t ht => HF.out.1.2.2 (a + t) (by
                have := List.mem_range.1 ht
                rw [Nat.mul_comm Y N, hR]
                omega))
              rw [e] at r1
              exact (sameCells_any r1 r2).mono fun e w' ⟨he, ho⟩ => ⟨by rw [he]; unfold sameB; rw [decide_eq_true rfl], ho⟩
            rcases hv with ⟨rfl, rfl⟩ | ⟨rfl, rfl⟩
            · exact key _ _ _ _ (.inl ⟨rfl, rfl⟩)
            · by_cases hdz : dn = 0
              · rw [hdz]; exact sameCells_zero W _ _ _ _
              · rw [← hAh, ← hAg, if_neg (by omega), if_neg (by omega)]
                exact key _ _ _ _ (.inr ⟨rfl, rfl⟩))
          have SS : Hid (∀ W, Off Nob wr W → Calls Try.prog 17 #[.pointer (some ⟨p, 0, none⟩)] W fun e w' => e = .returned (.int .i64 (((n0 + (4 * N + 2) * (pl (Y - 1)).length : Nat)) : Int)) ∧ W = w') := Lib.hid (fun W o => by
            obtain ⟨F, ha⟩ := (J1.out.off o).1.ar
            have := steps_any ha
            rwa [HEL.out] at this)
          have OW := Lib.hid J1.out.1.old
          have hpt := pl_tot N Y hY1
          obtain ⟨n4, hn4⟩ : ∃ n4 : Nat, 4 * (N : Int) + 2 = (n4 : Int) := ⟨4 * N + 2, by push_cast; rfl⟩
          have hn4b : n4 ≤ 258 := by omega
          obtain ⟨n5, hn5⟩ : ∃ n5 : Nat, (n4 : Int) * (Y : Int) = (n5 : Int) := ⟨n4 * Y, by push_cast; rfl⟩
          have hn5c : (n4 : Int) * (Y : Int) = ((n4 * Y : Nat) : Int) := by push_cast; rfl
          have hn5b : n4 * Y ≤ 258 * 16 := Nat.mul_le_mul hn4b hY2
          have hn5d : n5 ≤ 4128 := by omega
          obtain ⟨y1, hy1⟩ : ∃ y1 : Nat, (Y : Int) - 1 = (y1 : Int) := ⟨Y - 1, by omega⟩
          have hy1b : y1 ≤ 15 := by omega
          obtain ⟨n6, hn6⟩ : ∃ n6 : Nat, (n5 : Int) * (y1 : Int) = (n6 : Int) := ⟨n5 * y1, by push_cast; rfl⟩
          have hn6c : (n5 : Int) * (y1 : Int) = ((n5 * y1 : Nat) : Int) := by push_cast; rfl
          have hn6b : n5 * y1 ≤ 4128 * 15 := Nat.mul_le_mul hn5d hy1b
          have hn6d : n6 ≤ 61920 := by omega
          rw [hn4, hn5, hy1, hn6] at hpt
          obtain ⟨T, hT⟩ : ∃ T, (4 * N + 2) * (pl (Y - 1)).length = T := ⟨_, rfl⟩
          rw [hT] at hpt SS
          have hTb : T ≤ 61920 := by omega
          have hpt2 : (n6 : Int).tdiv 2 = (T : Int) := by rw [Int.tdiv_eq_ediv_of_nonneg (by omega)]; exact hpt
          obtain ⟨nT, hnT⟩ : ∃ nT, n0 + T = nT := ⟨_, rfl⟩
          rw [hnT] at SS
          have hnTi : (n0 : Int) + (T : Int) = (nT : Int) := by omega
          have hnTb : nT ≤ 62120 := by omega
          have hx1 : (0 : Int) ≤ (X : Int) := by omega
          have hx2 : (X : Int) ≤ (n0 : Int) := by omega
          have hx3 : (X : Int) ≤ (c : Int) := by omega
          have hx4 : (X : Int) ≤ (cap : Int) := by omega
          have hx5 : (n0 : Int) ≤ (c : Int) := by omega
          have hx6 : (n0 : Int) ≤ (cap : Int) := by omega
          have hx7 : (X : Int).toNat = X := by omega
          have hx8 : (en : Int) ≤ (c : Int) := by omega
          have hx9 : (en : Int) ≤ (cap : Int) := by omega
          have hwN : IntKind.i64.wrap (4 * (N : Int)) = 4 * (N : Int) := IntWalk.i64_in _ (by omega)
          have hw_n4 : IntKind.i64.wrap (n4 : Int) = (n4 : Int) := IntWalk.i64_in _ (by omega)
          have hw_n5 : IntKind.i64.wrap (n5 : Int) = (n5 : Int) := IntWalk.i64_in _ (by omega)
          have hw_n6 : IntKind.i64.wrap (n6 : Int) = (n6 : Int) := IntWalk.i64_in _ (by omega)
          have hw_y1 : IntKind.i64.wrap (y1 : Int) = (y1 : Int) := IntWalk.i64_in _ (by omega)
          have hw_T : IntKind.i64.wrap (T : Int) = (T : Int) := IntWalk.i64_in _ (by omega)
          have hw_nT : IntKind.i64.wrap (nT : Int) = (nT : Int) := IntWalk.i64_in _ (by omega)
          have he1 : en ≤ n0 := by omega
          have he2 : (en : Int) ≤ (n0 : Int) := by omega
          have he3 : (0 : Int) ≤ (en : Int) := by omega
          have he4 : decide ((n0 : Int) < (en : Int)) = false := decide_eq_false (by omega)
          have he5 : decide (n0 < en) = false := decide_eq_false (by omega)
          have he6 : decide ((en : Int) < 0) = false := decide_eq_false (by omega)
          have he7 : ¬ ((n0 : Int) < (en : Int)) := by omega
          have he8 : ¬ n0 < en := by omega
          have he9 : (en : Int).toNat = en := by omega
          clear hn5c hn5b hn6c hn6b hT hen J1 HEL HF HNUM
          have kk := C2.out _ (Off.refl _ _)
          have OX : Hid (Off Nob wr wr) := Lib.hid (Off.refl _ _)
          clear x0 x1 x2
          obtain ⟨x0, x1, x2⟩ := kk
          have hnw : IntKind.i64.wrap ((X : Int) + (R : Int)) = (en : Int) := by rw [heni]; exact IntWalk.i64_in _ (by omega)
          go_wp2_with fail
          have MARKB := True.intro
          go_region_held3 (fun w' => w'.cell? ⟨b, 0, none⟩ = some (.int .i64 (X : Int)) ∧ w'.cell? ⟨b, 1, none⟩ = some (.int .i64 (Y : Int)) ∧ w'.cell? ⟨b, 2, none⟩ = some (.int .i64 (N : Int)))
            (first | with_reducible assumption | go_keep)
            (first
              | (go_at_call 16; refine (SC.out _ (show Off Nob wr _ by first | with_reducible exact OX.out | with_reducible exact Off.drew OX.out | with_reducible exact Off.drewN OX.out _) _ _ (by first | exact .inl ⟨rfl, rfl⟩ | exact .inr ⟨rfl, rfl⟩)).mono ?_; rintro e w' ⟨rfl, o1⟩; have OY : Hid (Off Nob wr w') := Lib.hid (Off.also (show Off Nob wr _ by first | with_reducible exact OX.out | with_reducible exact Off.drew OX.out | with_reducible exact Off.drewN OX.out _) o1); have kq := C2.out _ OY.out; clear o1 OX; have OX := Lib.hid OY.out; clear OY)
              | (go_at_call 17; refine (SS.out _ (show Off Nob wr _ by first | with_reducible exact OX.out | with_reducible exact Off.drew OX.out | with_reducible exact Off.drewN OX.out _)).mono ?_; rintro e w' ⟨rfl, rfl⟩)
              | (go_at_call 9; refine (awake_ok _).mono ?_; rintro e w' ⟨rfl, o1⟩; have OY : Hid (Off Nob wr w') := Lib.hid (Off.also (show Off Nob wr _ by first | with_reducible exact OX.out | with_reducible exact Off.drew OX.out | with_reducible exact Off.drewN OX.out _) o1); have kq := C2.out _ OY.out; clear o1 OX; have OX := Lib.hid OY.out; clear OY))
          have MARKC := True.intro
          go_wp2_with fail
          go_ret
          exact ⟨rfl, OW.out.also OX.out⟩
end Go.Proofs.Ytdgehacbpjgmcaa
