/-
  The walk of dragnetlaw24.NetworkBlind.
-/
import Derived.Test.YtlefjlclhmapaaaNetRouteErr
import Derived.Test.YtlefjlclhmapaaaAwake24
import Derived.Test.YtlefjlclhmapaaaOpen
import Derived.Test.YtlefjlclhmapaaaTwin
import Derived.RegionTactic
import Derived.BigRegion
import Derived.Deep.RegionHeld3
namespace Go.Proofs.Ytlefjlclhmapaaa
open Go.RowKit Go.ChangeShapes Go.WideShapes Go.ChangeAt
set_option linter.unusedVariables false
set_option maxRecDepth 100000
attribute [local go_sem ↓] run_max_nat
theorem prS_false (s : List (BitVec 64) × List Ev) (f t : Nat) : (prS false s f t).1 = s.1 := by
  have hs : ∀ (l : List (BitVec 64)) (i : Nat), l.set i (cl l i) = l := fun l i => by
    apply List.ext_getElem?
    intro j
    rw [List.getElem?_set]
    by_cases e : i = j
    · subst e
      by_cases h : i < l.length
      · rw [if_pos rfl, if_pos h]; simp [cl, List.getD, h]
      · rw [if_pos rfl, if_neg h, List.getElem?_eq_none (by omega)]
    · rw [if_neg e]
  show (s.1.set t (cl s.1 t)).set f (cl s.1 f) = s.1
  rw [hs, hs]
theorem rcS_false (f t : Nat) (s : List (BitVec 64) × List Ev) (c : Nat) : (rcS false f t s c).1 = s.1 := by
  induction c with
  | zero => rfl
  | succ c ih => exact (prS_false _ _ _).trans ih
theorem bitB_zero (j : Nat) : bitB 0#64 j = false := by unfold bitB; simp
theorem rtL_zero (base far : Nat) (s : List (BitVec 64) × List Ev) (ms : List Mv) (h : ∀ m ∈ ms, cl s.1 (far + m.2.1) = 0#64) : (rtL base far s ms).1 = s.1 := by
  unfold rtL
  induction ms generalizing s with
  | nil => rfl
  | cons m ms ih =>
    have h1 : (rtM base far s m).1 = s.1 := by
      unfold rtM
      rw [h m (List.mem_cons_self ..), bitB_zero]
      exact (rcS_false _ _ _ _).trans (prS_false _ _ _)
    rw [List.foldl_cons, ih _ (fun m' hm' => by rw [h1]; exact h m' (List.mem_cons_of_mem _ hm')), h1]
/-- The steps of Route. -/
def rcV (f t : Nat) : Nat → List Ev
  | 0 => []
  | c + 1 => rcV f t c ++ [(1, f + c), (1, t + c), (2, t + c), (2, f + c)]
def rtV (base far : Nat) (ms : List Mv) : List Ev := ms.flatMap fun m => [(1, far + m.2.1), (1, far + m.2.2), (2, far + m.2.2), (2, far + m.2.1)] ++ rcV (base + 3 * m.2.1) (base + 3 * m.2.2) 3
theorem rcS_ev (b : Bool) (f t : Nat) (s : List (BitVec 64) × List Ev) (c : Nat) : (rcS b f t s c).2 = s.2 ++ rcV f t c := by
  induction c with
  | zero => simp [rcS, rcV]
  | succ c ih =>
    show (rcS b f t s c).2 ++ _ = _
    rw [ih, List.append_assoc]
    rfl
theorem rtL_ev (base far : Nat) (s : List (BitVec 64) × List Ev) (ms : List Mv) : (rtL base far s ms).2 = s.2 ++ rtV base far ms := by
  unfold rtL
  induction ms generalizing s with
  | nil => simp [rtV]
  | cons m ms ih =>
    rw [List.foldl_cons, ih]
    have h1 : (rtM base far s m).2 = s.2 ++ ([(1, far + m.2.1), (1, far + m.2.2), (2, far + m.2.2), (2, far + m.2.1)] ++ rcV (base + 3 * m.2.1) (base + 3 * m.2.2) 3) := by
      unfold rtM
      rw [rcS_ev]
      show (s.2 ++ _) ++ _ = _
      rw [List.append_assoc]
    rw [h1, List.append_assoc]
    rfl
theorem rtR_bl (C : List (BitVec 64)) (E : List Ev) (x y z : Int) : (rtR C E x y z).1.length = C.length ∧ (rtR C E x y z).2 = if rtE C.length E.length x y z = 0 then E ++ rtV x.toNat z.toNat (moves y.toNat) else E := by
  unfold rtR
  split
  · exact ⟨(rtL_len _ _ _ _).1, rtL_ev _ _ _ _⟩
  · exact ⟨rfl, rfl⟩
/-- Some numbers made 0: the first k, where c says so. -/
def zrL (c : Nat → Bool) (Y : List (BitVec 64)) (k : Nat) : List (BitVec 64) := Y.mapIdx fun i v => if i < k && c i then 0#64 else v
theorem zrL_zero (c : Nat → Bool) (Y : List (BitVec 64)) : zrL c Y 0 = Y := by unfold zrL; apply List.ext_getElem <;> simp
theorem zrL_len (c : Nat → Bool) (Y : List (BitVec 64)) (k : Nat) : (zrL c Y k).length = Y.length := by simp [zrL]
theorem zrL_yes (c : Nat → Bool) (Y : List (BitVec 64)) (k : Nat) (h : c k = true) : zrL c Y (k + 1) = (zrL c Y k).set k 0#64 := by
  unfold zrL
  apply List.ext_getElem
  · simp
  · intro i h1 h2
    rw [List.getElem_mapIdx, List.getElem_set, List.getElem_mapIdx]
    by_cases e : k = i
    · subst e; simp [h]
    · rw [if_neg e]
      by_cases h3 : i < k
      · simp [h3, show i < k + 1 by omega]
      · simp [h3, show ¬ i < k + 1 by omega]
theorem zrL_no (c : Nat → Bool) (Y : List (BitVec 64)) (k : Nat) (h : c k = false) : zrL c Y (k + 1) = zrL c Y k := by
  unfold zrL
  apply List.ext_getElem
  · simp
  · intro i h1 h2
    rw [List.getElem_mapIdx, List.getElem_mapIdx]
    by_cases e : k = i
    · subst e; simp [h]
    · by_cases h3 : i < k
      · simp [h3, show i < k + 1 by omega]
      · simp [h3, show ¬ i < k + 1 by omega]
theorem zrL_at (c : Nat → Bool) (Y : List (BitVec 64)) (i : Nat) (hi : i < Y.length) (h : c i = true) : cl (zrL c Y Y.length) i = 0#64 := by
  unfold cl zrL
  simp [List.getD, hi, h]
def zc (y z : Int) (i : Nat) : Bool := decide (z ≤ (i : Int)) && decide (IntKind.i64.wrap ((i : Int) - z) < y)
theorem u64s_set (l : List (BitVec 64)) (i : Nat) (v : BitVec 64) : (u64s l).set i (.int .u64 (n64 v)) = u64s (l.set i v) := by simp [u64s, List.map_set]
theorem own_blkB {w : World} {base : Nat} {e : TypeId} {size n g c : Nat} {xs : List Value} (h : w.ownsRow base e size (.slice (some ⟨g, 0, none⟩) n c) n xs) : ∃ cur, Blk w g e cur := by
  rcases h.2 with ⟨hx, _⟩ | ⟨g', cap, cur, hv, _, hh, _⟩
  · cases hx
  · injection hv with hv1
    injection hv1 with hv1
    injection hv1 with hv1
    subst hv1
    exact ⟨cur, hh⟩
/-- An arena, beside a block, and a row that is no part of it. -/
def OneX (w w' : World) (b : Nat) (t : TypeId) (cs : Array Value) (p : Nat) (C : List (BitVec 64)) (E : List Ev) (g : Nat) : Prop := ∃ F, Ar w' F p C E ∧ Off Nob w w' ∧ (∀ k, F k → w.heap.size ≤ k) ∧ Blk w' b t cs ∧ ¬ F b ∧ ¬ F g
theorem OneX.put {w w' : World} {b : Nat} {t : TypeId} {cs : Array Value} {p : Nat} {C : List (BitVec 64)} {E : List Ev} {g : Nat} (h : OneX w w' b t cs p C E g) (hg : w.heap.size ≤ g) (hne : b ≠ g) (i : Nat) (u : Value) : OneX w (w'.setCell ⟨g, i, none⟩ u) b t cs p C E g := by
  obtain ⟨F, h1, h2, h3, h4, h5, h6⟩ := h
  have off : Off (fun k => k = g) w' (w'.setCell ⟨g, i, none⟩ u) := Off.put (F := fun k => k = g) (p := ⟨g, i, none⟩) (Off.refl _ _) (Or.inl (Eq.refl g)) u
  exact ⟨F, h1.keep off (fun k hk hn => h6 (by have e : k = g := hn; rw [← e]; exact hk)), h2.own off (fun k hk => by rw [hk]; exact hg), h3, h4.far (p := ⟨g, i, none⟩) hne u, h5, h6⟩
theorem OneX.one {w w' : World} {b : Nat} {t : TypeId} {cs : Array Value} {p : Nat} {C : List (BitVec 64)} {E : List Ev} {g : Nat} (h : OneX w w' b t cs p C E g) : One w w' [(b, t, cs)] p C E := by
  obtain ⟨F, h1, h2, h3, h4, h5, h6⟩ := h
  exact ⟨F, h1, h2, h3, fun x hx => by rw [List.mem_singleton] at hx; subst hx; exact ⟨h4, h5⟩⟩
theorem OneX.blk {w w' : World} {b : Nat} {t : TypeId} {cs : Array Value} {p : Nat} {C : List (BitVec 64)} {E : List Ev} {g : Nat} (h : OneX w w' b t cs p C E g) : Blk w' b t cs := by
  obtain ⟨F, h1, h2, h3, h4, h5, h6⟩ := h
  exact h4
/-- New blocks beside two arenas. -/
theorem Twin.newRow {w0 w w' : World} {bs : Bks} {p q : Nat} {C C' : List (BitVec 64)} {E E' : List Ev} {g : Nat} {t : TypeId} {cs : Array Value} (h : Twin w0 w bs p q C E C' E') (o : Off Nob w w') (hb : Blk w' g t cs) (hg : w.heap.size ≤ g) : Twin w0 w' ((g, t, cs) :: bs) p q C E C' E' := by
  obtain ⟨F, R, ha, hr, ho, hf, hgr, hd, hbs⟩ := h
  refine ⟨F, R, ha.keep o (fun _ _ h => h), hr.keep o (fun _ _ h => h), ho.also o, hf, hgr, hd, fun x hx => ?_⟩
  rcases List.mem_cons.1 hx with rfl | hx
  · exact ⟨hb, fun hk => by have := ha.lt _ hk; dsimp only at this; omega, fun hk => by have := hr.lt _ hk; dsimp only at this; omega⟩
  · obtain ⟨g1, g2, g3⟩ := hbs x hx
    exact ⟨g1.to (o.block _ g1.lt (fun h => h)), g2, g3⟩
theorem own_formB {w : World} {base size n : Nat} {e : TypeId} {v : Value} {xs : List Value} (h : w.ownsRow base e size v n xs) (hn : 0 < n) : ∃ g cap, v = .slice (some ⟨g, 0, none⟩) n cap := by
  rcases h.2 with ⟨_, h0⟩ | ⟨g, cap, cur, hv, _⟩
  · omega
  · exact ⟨g, cap, hv⟩
/-- A row that stays because its block does. -/
theorem Rd.ofB {w7 w : World} {F : Nat → Prop} {g n c : Nat} {t : TypeId} {cur : Array Value} {xs : List Value} (h : Rd w7 F 1 (.slice (some ⟨g, 0, none⟩) n c) n xs) (h7 : Blk w7 g t cur) (hb : Blk w g t cur) : Rd w (fun j => j = g) 1 (.slice (some ⟨g, 0, none⟩) n c) n xs := by
  obtain ⟨A, c', he, hm, hl, hc⟩ := h
  injection he with h1 h2 h3
  subst h1 h3
  refine ⟨_, _, rfl, hm, hl, fun hn => ?_⟩
  obtain ⟨b, o, hA, _, _, hu⟩ := hc hn
  injection hA with hA
  injection hA with hA1 hA2
  subst hA1 hA2
  refine ⟨_, _, rfl, rfl, hb.lt, fun j u hj => ?_⟩
  have := hu j u hj
  rw [h7.cell] at this
  rw [hb.cell]
  exact this
/-- What the calls of Route record. -/
def rtU (n : Nat) (E : List Ev) (x y z : Int) : List Ev := if rtE n E.length x y z = 0 then E ++ rtV x.toNat z.toNat (moves y.toNat) else E
section
variable {w : World} {F : Nat → Prop} {p : Nat} {C : List (BitVec 64)} {E : List Ev}
theorem route_p (n : Nat) (h : Ar w F p C E) (hl : C.length = n) (x y z : Int) (bx : -9223372036854775808 ≤ x ∧ x ≤ 9223372036854775807) (bz : -9223372036854775808 ≤ z ∧ z ≤ 9223372036854775807) :
    Calls Try.prog 25 #[.pointer (some ⟨p, 0, none⟩), .int .i64 x, .int .i64 y, .int .i64 z] w fun e w' => e = .returned (.int .i64 (rtE n E.length x y z)) ∧ ArTo w F p (rtR C E x y z).1 (rtU n E x y z) w' := by
  subst hl
  have := nroute_any h x y z bx bz
  rwa [(rtR_bl C E x y z).2] at this
theorem rtR_zc (C : List (BitVec 64)) (E : List Ev) (x y z : Int) (hz : ∀ i, i < C.length → zc y z i = true → cl C i = 0#64) : (rtR C E x y z).1 = C := by
  unfold rtR
  split
  · rename_i h0
    obtain ⟨g1, g2, g3, g4, g5, g6, _⟩ := rtE_zero h0
    refine rtL_zero _ _ _ _ fun m hm => ?_
    obtain ⟨m1, m2, m3, m4⟩ := moves_mem hm
    have hlt : z.toNat + m.2.1 < C.length := by omega
    refine hz _ hlt ?_
    unfold zc
    have e1 : ((z.toNat + m.2.1 : Nat) : Int) - z = (m.2.1 : Int) := by omega
    rw [e1, show IntKind.i64.wrap (m.2.1 : Int) = (m.2.1 : Int) by simp [IntKind.wrap, go_sem]; omega]
    simp
    omega
  · rfl
theorem route_q (n : Nat) (h : Ar w F p C E) (hl : C.length = n) (x y z : Int) (bx : -9223372036854775808 ≤ x ∧ x ≤ 9223372036854775807) (bz : -9223372036854775808 ≤ z ∧ z ≤ 9223372036854775807) (hz : ∀ i, i < C.length → zc y z i = true → cl C i = 0#64) :
    Calls Try.prog 25 #[.pointer (some ⟨p, 0, none⟩), .int .i64 x, .int .i64 y, .int .i64 z] w fun e w' => e = .returned (.int .i64 (rtE n E.length x y z)) ∧ ArTo w F p C (rtU n E x y z) w' := by
  have := route_p n h hl x y z bx bz
  rwa [rtR_zc C E x y z hz] at this
end
set_option maxHeartbeats 16000000 in
theorem blind_small {w : World} (A0 A1 : Option Addr) (n0 c0 n1 c1 : Nat) (X Y : List (BitVec 64)) (h0 : Rd w (Old w) 1 (.slice A0 n0 c0) n0 (u64s X)) (h1 : Rd w (Old w) 1 (.slice A1 n1 c1) n1 (u64s Y)) (z0 : NilOk (.slice A0 n0 c0)) (z1 : NilOk (.slice A1 n1 c1)) (hn0 : n0 ≤ 200) (hn1 : n1 ≤ 200) (x y z : Int) (bx : -9223372036854775808 ≤ x ∧ x ≤ 9223372036854775807) (bz : -9223372036854775808 ≤ z ∧ z ≤ 9223372036854775807) :
    Calls Try.prog 8 #[.slice A0 n0 c0, .slice A1 n1 c1, .agg #[.int .i64 x, .int .i64 y, .int .i64 z]] w (BoolNew true w) := by
  have BX := Lib.hid bx
  have BZ := Lib.hid bz
  clear bx bz
  obtain ⟨i0, hi, hz0, hz1, hz2⟩ := info_parts Try.infoU
  have hl0 : X.length = n0 := by obtain ⟨_, _, _, _, hl, _⟩ := h0; rw [length_u64s] at hl; omega
  have hl1 : Y.length = n1 := by obtain ⟨_, _, _, _, hl, _⟩ := h1; rw [length_u64s] at hl; omega
  obtain ⟨hge0, hge1, hle⟩ := mxN_ge n0 n1
  have H0 := Lib.hid h0
  have H1 := Lib.hid h1
  have Z0 := Lib.hid z0
  have Z1 := Lib.hid z1
  have L0 := Lib.hid hl0
  have L1 := Lib.hid hl1
  have hd0 : decide (200 < (n0 : Int)) = false := by simp; omega
  have hd1 : decide (200 < (n1 : Int)) = false := by simp; omega
  clear h0 h1 z0 z1 hl0 hl1

  go_enter Try.func8, Try.ntmps8
  go_wp2_with (at_builtin; refine wpList_append_rd rfl _ _ 58 rfl (w.heap.size + 1) 39 i0 (.int .u64 0) 1 8 Try.underlying58 hi hz0 hz1 hz2 rfl (by decide) (w.heap.size + 1) 0 0 [] rfl ?c0 (.slice A0 n0 c0) n0 (u64s X) rfl (F := Old w) ?c1 Z0.out (u64s_one' X) ?c3 ?c4 ?c5 ?_)
  case c0 => simpa using World.ownsRow_made (w.alloc (.cells #[.int .i64 x, .int .i64 y, .int .i64 z] 67)) #[] 0 (Nat.le_refl _) (Nat.zero_le _) rfl
  case c1 => exact H0.out.keep (Off.alloc (Off.alloc (Off.refl Nob w) _) _) (fun _ _ h => h)
  case c3 => unfold maxLen; omega
  case c4 => omega
  case c5 => simp
  intro g1 cap1 w1 ho1 hg1 ha1
  have O1 : Hid (Off Nob (w.alloc (.cells #[.int .i64 x, .int .i64 y, .int .i64 z] 67)) w1) := Off.grown (Off.alloc (Off.refl _ _) _) hg1 (fun k hk => .inr (by injection hk with hk; simp; omega))
  have W1 := Lib.hid ho1
  clear hg1 ha1 ho1
  go_wp2_with (at_builtin; refine wpList_append_zeros rfl _ _ 58 3 rfl (w.heap.size + 1) 39 i0 (.int .u64 0) 8 .i64 .i64 Try.underlying58 Try.underlying3 hi hz0 hz1 hz2 rfl rfl g1 n0 cap1 (u64s X) rfl W1.out (mxN n0 n1 - n0) (mxN n0 n1) ?d0 ?d1 ?d2 ?d3 ?d4 ?_)
  case d0 => omega
  case d1 => exact congrArg (Value.int .i64) (by omega)
  case d2 => unfold maxLen; omega
  case d3 => omega
  case d4 => have := O1.out.size; simp at this; omega
  intro g2 cap2 w2 ho2 hg2 ha2
  have O2 : Hid (Off Nob (w.alloc (.cells #[.int .i64 x, .int .i64 y, .int .i64 z] 67)) w2) := Off.grown O1.out hg2 (fun k hk => .inr (by injection hk with hk; subst hk; have := (W1.out.lt g1 rfl).1; simp; omega))
  have W2 : Hid (Rd w2 (fun k => w.heap.size + 1 ≤ k ∧ k < w2.heap.size) 1 (.slice (some ⟨g2, 0, none⟩) (mxN n0 n1) cap2) (mxN n0 n1) (u64s (padTo X (mxN n0 n1)))) := by
    have := Rd.own ho2 (F := fun k => w.heap.size + 1 ≤ k ∧ k < w2.heap.size) (fun k hk => ho2.lt k hk)
    rw [u64s_zeros] at this
    unfold padTo
    rw [L0.out]
    exact this
  clear hg2 ha2 ho2 W1 O1
  go_wp2_with fail
  refine (arena_any W2.out (by rw [padTo_length _ _ (by have := L0.out; omega)]; omega)).mono ?_
  rintro e w3 h3
  obtain ⟨p, r, rfl, k3⟩ := h3.one (w0 := w) (bs := [(w.heap.size, 67, #[.int .i64 x, .int .i64 y, .int .i64 z])]) ((Off.alloc (Off.refl _ _) _).also O2.out) (fun x hx => by
    rw [List.mem_singleton] at hx
    subst hx
    exact (Blk.new _ _ _).to (O2.out.block _ (by simp) (fun h => h)))
  rw [padTo_length _ _ (by have := L0.out; omega)] at k3
  have H3 := Lib.hid k3
  clear h3 k3 W2 O2
  go_wp2_with (at_builtin; refine wpList_append_rd rfl _ _ 58 rfl w3.heap.size 39 i0 (.int .u64 0) 1 8 Try.underlying58 hi hz0 hz1 hz2 rfl (by decide) w3.heap.size 0 0 [] rfl ?c0 (.slice A1 n1 c1) n1 (u64s Y) rfl (F := Old w) ?c1 Z1.out (u64s_one' Y) ?c3 ?c4 ?c5 ?_)
  case c0 => exact World.ownsRow_made w3 #[] 0 (Nat.le_refl _) (Nat.zero_le _) rfl
  case c1 => exact H1.out.keep (Off.alloc H3.out.old _) (fun _ _ h => h)
  case c3 => unfold maxLen; omega
  case c4 => omega
  case c5 => simp
  intro g3 cap3 w4 ho3 hg3 ha3
  have O3 : Hid (Off Nob w3 w4) := Off.grown (Off.alloc (Off.refl _ _) _) hg3 (fun k hk => .inr (by injection hk with hk; omega))
  have W3 := Lib.hid ho3
  clear hg3 ha3 ho3
  go_wp2_with (at_builtin; refine wpList_append_zeros rfl _ _ 58 3 rfl w3.heap.size 39 i0 (.int .u64 0) 8 .i64 .i64 Try.underlying58 Try.underlying3 hi hz0 hz1 hz2 rfl rfl g3 n1 cap3 (u64s Y) rfl W3.out (mxN n0 n1 - n1) (mxN n0 n1) ?d0 ?d1 ?d2 ?d3 ?d4 ?_)
  case d0 => omega
  case d1 => exact congrArg (Value.int .i64) (by omega)
  case d2 => unfold maxLen; omega
  case d3 => omega
  case d4 => exact O3.out.size
  intro g4 cap4 w5 ho4 hg4 ha4
  have O4 : Hid (Off Nob w3 w5) := Off.grown O3.out hg4 (fun k hk => .inr (by injection hk with hk; subst hk; exact (W3.out.lt g3 rfl).1))

  have W4 : Hid (w5.ownsRow w3.heap.size 39 1 (.slice (some ⟨g4, 0, none⟩) (mxN n0 n1) cap4) (mxN n0 n1) (u64s (zrL (zc y z) (padTo Y (mxN n0 n1)) 0))) := by
    rw [u64s_zeros] at ho4
    rw [zrL_zero]
    unfold padTo
    rw [L1.out]
    exact Lib.hid ho4
  have H5 : Hid (OneX w w5 w.heap.size 67 #[.int .i64 x, .int .i64 y, .int .i64 z] p (pad (padTo X (mxN n0 n1))) (stores (mxN n0 n1)) g4) := by
    obtain ⟨F, ha, ho, hf, hb⟩ := H3.out
    obtain ⟨b1, b2⟩ := hb _ (List.mem_singleton.2 rfl)
    exact Lib.hid ⟨F, ha.keep O4.out (fun _ _ h => h), ho.also O4.out, hf, b1.to (O4.out.block _ b1.lt (fun h => h)), b2, fun hk => by have := ha.lt _ hk; have := (ho4.lt g4 rfl).1; omega⟩
  have H3S : Hid (w.heap.size < w3.heap.size) := Lib.hid (by have := H3.out.blk (List.mem_singleton.2 rfl); exact this.lt)
  have PY0 := Lib.hid (padTo_length Y (mxN n0 n1) (by have := L1.out; omega))
  have PX0 : Hid ((pad (padTo X (mxN n0 n1))).length = max (mxN n0 n1) 1) := Lib.hid (by rw [pad_length, padTo_length _ _ (by have := L0.out; omega)])
  have HG4 := Lib.hid (W4.out.lt g4 rfl)
  clear hg4 ha4 ho4 W3 O3 H3 O4 H0 H1 Z0 Z1 L0 L1
  have hN200 : mxN n0 n1 ≤ 200 := by omega
  clear hge0 hge1 hle hn0 hn1 hd0 hd1 hi hz0 hz1 hz2
  revert W4 H5 PY0 PX0 hN200
  generalize padTo Y (mxN n0 n1) = YP
  generalize pad (padTo X (mxN n0 n1)) = CX
  generalize mxN n0 n1 = N
  intro W4 H5 PY0 PX0 hN200
  have hbc : Hid (w.heap.size ≠ g4) := Lib.hid (by have := HG4.out.1; have := H5.out.blk.lt; intro e; obtain ⟨F, h1, h2, h3, h4, h5, h6⟩ := H5.out; have hs := H3S.out; omega)
  have HWG : Hid (w.heap.size ≤ g4) := Lib.hid (by have := HG4.out.1; have hs := H3S.out; omega)
  revert H5 hbc
  generalize hbcE : w.heap.size = bc
  intro H5 hbc
  have HBC := Lib.hid hbcE
  clear hbcE
  go_wp2_with fail
  go_loopw [11] (fun i wr => ∃ k : Nat, k ≤ N ∧ i = .int .i64 (k : Int) ∧ wr.ownsRow w3.heap.size 39 1 (.slice (some ⟨g4, 0, none⟩) N cap4) N (u64s (zrL (zc y z) YP k)) ∧ OneX w wr bc 67 #[.int .i64 x, .int .i64 y, .int .i64 z] p CX (stores N) g4) (fun i _ => N - (intOf i).toNat)
  case atStart => exact ⟨0, Nat.zero_le _, rfl, W4.out, H5.out⟩
  case round =>
    obtain ⟨k, hk, rfl, hw, hx⟩ := hrel
    have HW := Lib.hid hw
    have HX := Lib.hid hx
    obtain ⟨k0, k1, k2⟩ : wr.cell? ⟨bc, 0, none⟩ = some (.int .i64 x) ∧ wr.cell? ⟨bc, 1, none⟩ = some (.int .i64 y) ∧ wr.cell? ⟨bc, 2, none⟩ = some (.int .i64 z) := ⟨hx.blk.cell 0, hx.blk.cell 1, hx.blk.cell 2⟩
    by_cases hlt : k < N
    · have cg := hw.cellAt k (by omega)
      rw [getElem_u64s _ _ (by rw [zrL_len, PY0.out]; exact hlt)] at cg
      have fg := hw.frozenAt k
      obtain ⟨v, hv⟩ : ∃ v, IntKind.i64.wrap ((k : Int) - z) = v := ⟨_, rfl⟩
      obtain ⟨b1, hb1⟩ : ∃ b1, decide (z ≤ (k : Int)) = b1 := ⟨_, rfl⟩
      obtain ⟨b2, hb2⟩ : ∃ b2, decide (v < y) = b2 := ⟨_, rfl⟩
      have hzc : zc y z k = (b1 && b2) := by unfold zc; rw [hb1, hv, hb2]
      have HZC := Lib.hid hzc
      clear hw hx hzc W4 H5
      cases b1 <;> cases b2
      all_goals
        go_wp2_with fail
        go_roundw
        case rel =>
          first
            | exact ⟨k + 1, hlt, rfl, by rw [zrL_no _ _ _ HZC.out]; exact HW.out, HX.out⟩
            | exact ⟨k + 1, hlt, rfl, by rw [zrL_yes _ _ _ HZC.out, ← u64s_set]; exact (HW.out.stored k (.int .u64 0)).1, HX.out.put HWG.out hbc.out k _⟩
        case measure => simp [intOf]; omega
    · obtain rfl : k = N := by omega
      have hne : decide ((k : Int) < (k : Int)) = false := by simp
      clear hw hx W4 H5 hlt
      go_wp2_with fail
      refine (arena_any (Rd.own HW.out (F := fun j => w3.heap.size ≤ j ∧ j < wr.heap.size) (fun j hj => HW.out.lt j hj)) (by rw [zrL_len, PY0.out]; omega)).mono ?_
      rintro e w6 h6
      obtain ⟨q, r2, rfl, k6⟩ := HX.out.one.two h6
      rw [zrL_len, PY0.out] at k6
      have K6 := Lib.hid k6
      clear h6 k6 k0 k1 k2 HX HW
      have CZ : Hid ((pad (zrL (zc y z) YP k)).length = max k 1 ∧ ∀ i, i < (pad (zrL (zc y z) YP k)).length → zc y z i = true → cl (pad (zrL (zc y z) YP k)) i = 0#64) := by
        refine Lib.hid ⟨by rw [pad_length, zrL_len, PY0.out], fun i hi hc => ?_⟩
        have hl := PY0.out
        unfold pad at hi ⊢
        split at hi
        · rename_i h0
          have : i = 0 := by simp at hi; omega
          subst this
          rw [if_pos h0]
          rfl
        · rename_i h0
          rw [if_neg h0]
          rw [zrL_len, hl] at hi
          have := zrL_at (zc y z) YP i (by omega) hc
          rw [hl] at this
          exact this
      revert K6 CZ
      generalize pad (zrL (zc y z) YP k) = CY
      intro K6 CZ
      have kb := K6.out.blk (List.mem_singleton.2 rfl)
      obtain ⟨k0, k1, k2⟩ : w6.cell? ⟨bc, 0, none⟩ = some (.int .i64 x) ∧ w6.cell? ⟨bc, 1, none⟩ = some (.int .i64 y) ∧ w6.cell? ⟨bc, 2, none⟩ = some (.int .i64 z) := ⟨kb.cell 0, kb.cell 1, kb.cell 2⟩
      clear kb
      go_wp2_with fail
      obtain ⟨F6, hq6⟩ := K6.out.ar2
      have HQ6 := Lib.hid (cells_ok hq6)
      clear hq6
      refine HQ6.out.mono ?_
      rintro e w7 ⟨v7, rfl, hv7, o7⟩
      obtain ⟨g7, cap7, rfl⟩ := own_formB hv7 (by rw [CZ.out.1]; omega)
      obtain ⟨cur7, hb7⟩ := own_blkB hv7
      have V7 := Lib.hid (NewU.rd hv7)
      have B7 := Lib.hid hb7
      have T7 := Lib.hid (K6.out.newRow o7 hb7 (hv7.lt g7 rfl).1)
      clear hv7 o7 HQ6 K6 k0 k1 k2 hb7
      have kb := T7.out.blk (List.mem_cons_of_mem _ (List.mem_singleton.2 rfl))
      obtain ⟨k0, k1, k2⟩ : w7.cell? ⟨bc, 0, none⟩ = some (.int .i64 x) ∧ w7.cell? ⟨bc, 1, none⟩ = some (.int .i64 y) ∧ w7.cell? ⟨bc, 2, none⟩ = some (.int .i64 z) := ⟨kb.cell 0, kb.cell 1, kb.cell 2⟩
      clear kb
      go_wp2_with fail
      refine (T7.out.first (fun w F h => route_p (max k 1) h PX0.out x y z BX.out BZ.out)).mono ?_
      rintro e w8 ⟨rfl, h8⟩
      have T8 := Lib.hid h8
      clear h8 k0 k1 k2 T7
      have kb := T8.out.blk (List.mem_cons_of_mem _ (List.mem_singleton.2 rfl))
      obtain ⟨k0, k1, k2⟩ : w8.cell? ⟨bc, 0, none⟩ = some (.int .i64 x) ∧ w8.cell? ⟨bc, 1, none⟩ = some (.int .i64 y) ∧ w8.cell? ⟨bc, 2, none⟩ = some (.int .i64 z) := ⟨kb.cell 0, kb.cell 1, kb.cell 2⟩
      clear kb
      go_wp2_with fail
      refine (T8.out.second (fun w F h => route_q (max k 1) h CZ.out.1 x y z BX.out BZ.out CZ.out.2)).mono ?_
      rintro e w9 ⟨rfl, h9⟩
      have T9 := Lib.hid h9
      clear h9 k0 k1 k2 T8
      revert T9
      generalize (rtR CX (stores k) x y z).1 = CX2
      generalize rtU (max k 1) (stores k) x y z = E9
      generalize rtE (max k 1) (stores k).length x y z = er
      intro T9
      go_wp2_with fail
      obtain ⟨FP, hp⟩ := T9.out.ar1
      have HP := Lib.hid (events_ok hp)
      clear hp
      refine HP.out.mono ?_
      rintro e v1 ⟨l1, rfl, hl1, o1⟩
      have V1 := Lib.hid (NewE.rd hl1)
      have T10 := Lib.hid (T9.out.off o1)
      clear hl1 o1 HP T9
      go_wp2_with fail
      obtain ⟨FQ, hq⟩ := T10.out.ar2
      have HQ := Lib.hid (events_ok hq)
      clear hq
      refine HQ.out.mono ?_
      rintro e v2 ⟨l2, rfl, hl2, o2⟩
      have V2 := Lib.hid (V1.out.keep o2 (fun _ _ h => h))
      have V3 := Lib.hid (NewE.rd hl2)
      have T11 := Lib.hid (T10.out.off o2)
      clear hl2 o2 HQ V1 T10
      go_wp2_with fail
      refine Calls.mono (R := BoolNew true v2) (by have := sameEv V2.out V3.out; simpa using this) ?_
      rintro e v3 ⟨rfl, o3⟩
      have T12 := Lib.hid (T11.out.off o3)
      clear o3 V2 V3 T11
      go_wp2_with fail
      obtain ⟨FQ2, hq⟩ := T12.out.ar2
      have HQ := Lib.hid (cells_ok hq)
      clear hq
      refine HQ.out.mono ?_
      rintro e v4 ⟨l4, rfl, hl4, o4⟩
      have V4 := Lib.hid (NewU.rd hl4)
      have T13 := Lib.hid (T12.out.off o4)
      clear hl4 o4 HQ T12
      have V8 := Lib.hid (V7.out.ofB B7.out (T13.out.blk (List.mem_cons_self ..)))
      go_wp2_with fail
      refine Calls.mono (R := BoolNew true v4) (by have := sameCells_any V4.out V8.out; simpa [sameB] using this) ?_
      rintro e v5 ⟨rfl, o5⟩
      have O5 := Lib.hid (T13.out.old.also o5)
      clear o5 V4 V8 T13
      go_wp2_with fail
      refine (awake_ok _).mono ?_
      rintro e v6 ⟨rfl, o6⟩
      have O6 := Lib.hid (O5.out.also o6)
      clear o6
      go_wp2
      go_ret
      exact ⟨ret_bool (by simp), O6.out⟩
theorem blind_long0 {w : World} (A0 A1 : Option Addr) (n0 c0 n1 c1 : Nat) (x y z : Int) (h : 200 < n0) (b0 : n0 ≤ maxLen) (b1 : n1 ≤ maxLen) :
    Calls Try.prog 8 #[.slice A0 n0 c0, .slice A1 n1 c1, .agg #[.int .i64 x, .int .i64 y, .int .i64 z]] w (BoolNew true w) := by
  unfold maxLen at b0 b1
  have hd0 : decide (200 < (n0 : Int)) = true := by simp; omega
  go_enter Try.func8, Try.ntmps8
  go_wp2_with fail
  refine (awake_ok _).mono ?_
  rintro e w4 ⟨rfl, h4⟩
  have H4 := Lib.hid h4
  clear h4
  go_wp2
  go_ret
  exact ⟨rfl, (Off.alloc (Off.refl _ _) _).also H4.out⟩
theorem blind_long1 {w : World} (A0 A1 : Option Addr) (n0 c0 n1 c1 : Nat) (x y z : Int) (h0 : ¬ 200 < n0) (h : 200 < n1) (b0 : n0 ≤ maxLen) (b1 : n1 ≤ maxLen) :
    Calls Try.prog 8 #[.slice A0 n0 c0, .slice A1 n1 c1, .agg #[.int .i64 x, .int .i64 y, .int .i64 z]] w (BoolNew true w) := by
  unfold maxLen at b0 b1
  have hd0 : decide (200 < (n0 : Int)) = false := by simp; omega
  have hd1 : decide (200 < (n1 : Int)) = true := by simp; omega
  go_enter Try.func8, Try.ntmps8
  go_wp2_with fail
  refine (awake_ok _).mono ?_
  rintro e w4 ⟨rfl, h4⟩
  have H4 := Lib.hid h4
  clear h4
  go_wp2
  go_ret
  exact ⟨rfl, (Off.alloc (Off.refl _ _) _).also H4.out⟩
theorem networkBlind_walk {w : World} {v0 v1 : Value} {n0 n1 : Nat} {X Y : List (BitVec 64)} (h0 : Rd w (Old w) 1 v0 n0 (u64s X)) (z0 : NilOk v0) (h1 : Rd w (Old w) 1 v1 n1 (u64s Y)) (z1 : NilOk v1)
    (l : List Value) (hl : l.length = 3) (hk : ∀ f j κ, kindAt Try.prog f 67 j = some κ → ∃ u, l[j]? = some u ∧ okV κ u) :
    Calls Try.prog 8 #[v0, v1, .agg l.toArray] w (BoolNew true w) := by
  obtain ⟨u0, e0, o0⟩ := hk 4 0 (some .i64) (by kernel_rfl)
  obtain ⟨u1, e1, o1⟩ := hk 4 1 (some .i64) (by kernel_rfl)
  obtain ⟨u2, e2, o2⟩ := hk 4 2 (some .i64) (by kernel_rfl)
  obtain ⟨x, rfl, qx⟩ := okV_i64 o0
  obtain ⟨y, rfl, qy⟩ := okV_i64 o1
  obtain ⟨z, rfl, qz⟩ := okV_i64 o2
  match l, hl with
  | [a, b, c], _ =>
    simp at e0 e1 e2
    subst e0 e1 e2
    obtain ⟨A0, c0, rfl, m0, _⟩ := h0.form
    obtain ⟨A1, c1, rfl, m1, _⟩ := h1.form
    by_cases g0 : 200 < n0
    · exact blind_long0 _ _ _ _ _ _ _ _ _ g0 m0 m1
    by_cases g1 : 200 < n1
    · exact blind_long1 _ _ _ _ _ _ _ _ _ g0 g1 m0 m1
    exact blind_small A0 A1 n0 c0 n1 c1 X Y h0 h1 z0 z1 (by omega) (by omega) x y z qx qz

end Go.Proofs.Ytlefjlclhmapaaa
