/-
  The walk of dragnetlaw08.CompareBlind.
-/
import Derived.Test.YtdgehacbpjgmcaaAwake08
import Derived.Test.YtdgehacbpjgmcaaOpen
import Derived.Test.YtdgehacbpjgmcaaTwin
import Derived.RegionTactic
import Derived.BigRegion
import Derived.Deep.RegionHeld3
namespace Go.Proofs.Ytdgehacbpjgmcaa
open Go.RowKit Go.ChangeShapes Go.WideShapes Go.ChangeAt
attribute [local go_sem] bits_and_u64 bits_or_u64 bits_xor_u64 bits_andNot_u64 wrap_u64 bv_add bv_neg bv_sub bv_mul
set_option linter.unusedVariables false
set_option maxRecDepth 100000
attribute [local go_sem ↓] run_max_nat
/-- The errors and the steps do not depend on the cells. -/
def swV (x y : Nat) (E : List Ev) : Nat → List Ev
  | 0 => E
  | k + 1 => swV x y E k ++ [(1, x + k), (1, y + k), (2, x + k), (2, y + k)]
theorem rep_sw_ev (m : BitVec 64) (x y : Nat) (C : List (BitVec 64)) (E : List Ev) (k : Nat) : (rep (swF m x y) (C, E) k).2 = swV x y E k := by
  induction k with
  | zero => rfl
  | succ k ih =>
    rw [rep_succ]
    show (rep (swF m x y) (C, E) k).2 ++ _ = _
    rw [ih]
    rfl
def exW (n : Nat) (E : List Ev) (x y : Nat) : List Ev := swV x y (E ++ [(1, x), (1, y)]) n
theorem exF_ev (n : Nat) (s : List (BitVec 64) × List Ev) (x y : Nat) : (exF n s x y).2 = exW n s.2 x y := by unfold exF exW; rw [rep_sw_ev]
def soW2 (base n : Nat) (E : List Ev) (l : List Nat) : List Ev := l.foldl (fun E i => exW n E (base + i * n) (base + (i + 1) * n)) E
theorem soL_ev (base n : Nat) (s : List (BitVec 64) × List Ev) (l : List Nat) : (soL base n s l).2 = soW2 base n s.2 l := by
  induction l generalizing s with
  | nil => rfl
  | cons i l ih =>
    show (soL base n (soS base n s i) l).2 = _
    rw [ih]
    show soW2 base n (exF n s (base + i * n) (base + (i + 1) * n)).2 l = _
    rw [exF_ev]
    rfl
def crV (n : Nat) (E : List Ev) (x y z : Int) : List Ev := if crE n E.length x y z = 0 then evR x.toNat y.toNat E z.toNat else E
def exV (n : Nat) (E : List Ev) (x y z : Int) : List Ev := if exE n E.length x y z = 0 then exW z.toNat E x.toNat y.toNat else E
def soV (n : Nat) (E : List Ev) (x y z : Int) : List Ev := if soE n E.length x y z = 0 then soW2 x.toNat z.toNat E (pl (y.toNat - 1)) else E
section
variable {w : World} {F : Nat → Prop} {p n : Nat} {C : List (BitVec 64)} {E : List Ev}
theorem crR_bl (C : List (BitVec 64)) (E : List Ev) (x y z : Int) : (crR C E x y z).1.2.2 = crE C.length E.length x y z ∧ (crR C E x y z).2.2 = crV C.length E x y z ∧ (crR C E x y z).2.1.length = C.length := by
  unfold crR crV
  split
  · rename_i h; exact ⟨h.symm, rfl, rfl⟩
  · exact ⟨rfl, rfl, rfl⟩
theorem exR_bl (C : List (BitVec 64)) (E : List Ev) (x y z : Int) : (exR C E x y z).1 = exE C.length E.length x y z ∧ (exR C E x y z).2.2 = exV C.length E x y z ∧ (exR C E x y z).2.1.length = C.length := by
  unfold exR exV
  split
  · rename_i h; exact ⟨h.symm, exF_ev _ _ _ _, (exF_len _ _ _ _).1⟩
  · exact ⟨rfl, rfl, rfl⟩
theorem soR_bl (C : List (BitVec 64)) (E : List Ev) (x y z : Int) : (soR C E x y z).1 = soE C.length E.length x y z ∧ (soR C E x y z).2.2 = soV C.length E x y z ∧ (soR C E x y z).2.1.length = C.length := by
  unfold soR soV
  split
  · rename_i h; exact ⟨h.symm, soL_ev _ _ _ _, (soL_len _ _ _ _).1⟩
  · exact ⟨rfl, rfl, rfl⟩
theorem eq_bl (hl : C.length = n) (h : Ar w F p C E) (x y z : Int) :
    Calls Try.prog 12 #[.pointer (some ⟨p, 0, none⟩), .int .i64 x, .int .i64 y, .int .i64 z] w fun e w' => (∃ v, e = .returned (.tuple #[.int .u64 v, .int .i64 (crE n E.length x y z)])) ∧ ∃ C2, C2.length = n ∧ ArTo w F p C2 (crV n E x y z) w' := by
  subst hl
  obtain ⟨h1, h2, h3⟩ := crR_bl C E x y z
  refine (eqRows_any h x y z).mono fun e w' ⟨he, ha⟩ => ⟨⟨_, he.trans (by rw [h1])⟩, _, h3, by rw [← h2]; exact ha⟩
theorem lt_bl (hl : C.length = n) (h : Ar w F p C E) (x y z : Int) :
    Calls Try.prog 11 #[.pointer (some ⟨p, 0, none⟩), .int .i64 x, .int .i64 y, .int .i64 z] w fun e w' => (∃ v, e = .returned (.tuple #[.int .u64 v, .int .i64 (crE n E.length x y z)])) ∧ ∃ C2, C2.length = n ∧ ArTo w F p C2 (crV n E x y z) w' := by
  subst hl
  obtain ⟨h1, h2, h3⟩ := crR_bl C E x y z
  refine (ltRows_any h x y z).mono fun e w' ⟨he, ha⟩ => ⟨⟨_, he.trans (by rw [h1])⟩, _, h3, by rw [← h2]; exact ha⟩
theorem ex_bl (hl : C.length = n) (h : Ar w F p C E) (x y z : Int) :
    Calls Try.prog 32 #[.pointer (some ⟨p, 0, none⟩), .int .i64 x, .int .i64 y, .int .i64 z] w fun e w' => e = .returned (.int .i64 (exE n E.length x y z)) ∧ ∃ C2, C2.length = n ∧ ArTo w F p C2 (exV n E x y z) w' := by
  subst hl
  obtain ⟨h1, h2, h3⟩ := exR_bl C E x y z
  refine (cExch_any h x y z).mono fun e w' ⟨he, ha⟩ => ⟨he.trans (by rw [h1]), _, h3, by rw [← h2]; exact ha⟩
theorem so_bl (hl : C.length = n) (h : Ar w F p C E) (x y z : Int) :
    Calls Try.prog 14 #[.pointer (some ⟨p, 0, none⟩), .int .i64 x, .int .i64 y, .int .i64 z] w fun e w' => e = .returned (.int .i64 (soE n E.length x y z)) ∧ ∃ C2, C2.length = n ∧ ArTo w F p C2 (soV n E x y z) w' := by
  subst hl
  obtain ⟨h1, h2, h3⟩ := soR_bl C E x y z
  refine (csort_any h x y z).mono fun e w' ⟨he, ha⟩ => ⟨he.trans (by rw [h1]), _, h3, by rw [← h2]; exact ha⟩
end
theorem blind_cells {w0 w : World} {bs : Bks} {p q n bc : Nat} {E E' : List Ev} {x y z : Int} {t : TypeId} (h : TwinL w0 w ((bc, t, #[.int .i64 x, .int .i64 y, .int .i64 z]) :: bs) p q n E E') :
    w.cell? ⟨bc, 0, none⟩ = some (.int .i64 x) ∧ w.cell? ⟨bc, 1, none⟩ = some (.int .i64 y) ∧ w.cell? ⟨bc, 2, none⟩ = some (.int .i64 z) := by
  have h1 := h.blk (List.mem_cons_self ..)
  exact ⟨h1.cell 0, h1.cell 1, h1.cell 2⟩
set_option maxHeartbeats 16000000 in
theorem blind_small {w : World} (A0 A1 : Option Addr) (n0 c0 n1 c1 : Nat) (X Y : List (BitVec 64)) (h0 : Rd w (Old w) 1 (.slice A0 n0 c0) n0 (u64s X)) (h1 : Rd w (Old w) 1 (.slice A1 n1 c1) n1 (u64s Y)) (z0 : NilOk (.slice A0 n0 c0)) (z1 : NilOk (.slice A1 n1 c1)) (hn0 : n0 ≤ 200) (hn1 : n1 ≤ 200) (x y z : Int) :
    Calls Try.prog 8 #[.slice A0 n0 c0, .slice A1 n1 c1, .agg #[.int .i64 x, .int .i64 y, .int .i64 z]] w (BoolNew true w) := by
  obtain ⟨i0, hi, hz0, hz1, hz2⟩ := info_parts Try.infoU
  have hl0 : X.length = n0 := by obtain ⟨_, _, _, _, hl, _⟩ := h0; rw [length_u64s] at hl; omega
  have hl1 : Y.length = n1 := by obtain ⟨_, _, _, _, hl, _⟩ := h1; rw [length_u64s] at hl; omega
  obtain ⟨hge0, hge1, hle⟩ := mxN_ge n0 n1
  have H0 := Lib.hid h0
  have H1 := Lib.hid h1
  have Z0 := Lib.hid z0
  have Z1 := Lib.hid z1
  have L0 := Lib.hid hl0
  have L1 := Lib.hid hl1
  have hd0 : decide (200 < (n0 : Int)) = false := by simp; omega
  have hd1 : decide (200 < (n1 : Int)) = false := by simp; omega
  clear h0 h1 z0 z1 hl0 hl1

  go_enter Try.func8, Try.ntmps8
  go_wp2_with (at_builtin; refine wpList_append_rd rfl _ _ 22 rfl (w.heap.size + 1) 28 i0 (.int .u64 0) 1 8 Try.underlying22 hi hz0 hz1 hz2 rfl (by decide) (w.heap.size + 1) 0 0 [] rfl ?c0 (.slice A0 n0 c0) n0 (u64s X) rfl (F := Old w) ?c1 Z0.out (u64s_one' X) ?c3 ?c4 ?c5 ?_)
  case c0 => simpa using World.ownsRow_made (w.alloc (.cells #[.int .i64 x, .int .i64 y, .int .i64 z] 35)) #[] 0 (Nat.le_refl _) (Nat.zero_le _) rfl
  case c1 => exact H0.out.keep (Off.alloc (Off.alloc (Off.refl Nob w) _) _) (fun _ _ h => h)
  case c3 => unfold maxLen; omega
  case c4 => omega
  case c5 => simp
  intro g1 cap1 w1 ho1 hg1 ha1
  have O1 : Hid (Off Nob (w.alloc (.cells #[.int .i64 x, .int .i64 y, .int .i64 z] 35)) w1) := Off.grown (Off.alloc (Off.refl _ _) _) hg1 (fun k hk => .inr (by injection hk with hk; simp; omega))
  have W1 := Lib.hid ho1
  clear hg1 ha1 ho1
  go_wp2_with (at_builtin; refine wpList_append_zeros rfl _ _ 22 3 rfl (w.heap.size + 1) 28 i0 (.int .u64 0) 8 .i64 .i64 Try.underlying22 Try.underlying3 hi hz0 hz1 hz2 rfl rfl g1 n0 cap1 (u64s X) rfl W1.out (mxN n0 n1 - n0) (mxN n0 n1) ?d0 ?d1 ?d2 ?d3 ?d4 ?_)
  case d0 => omega
  case d1 => exact congrArg (Value.int .i64) (by omega)
  case d2 => unfold maxLen; omega
  case d3 => omega
  case d4 => have := O1.out.size; simp at this; omega
  intro g2 cap2 w2 ho2 hg2 ha2
  have O2 : Hid (Off Nob (w.alloc (.cells #[.int .i64 x, .int .i64 y, .int .i64 z] 35)) w2) := Off.grown O1.out hg2 (fun k hk => .inr (by injection hk with hk; subst hk; have := (W1.out.lt g1 rfl).1; simp; omega))
  have W2 : Hid (Rd w2 (fun k => w.heap.size + 1 ≤ k ∧ k < w2.heap.size) 1 (.slice (some ⟨g2, 0, none⟩) (mxN n0 n1) cap2) (mxN n0 n1) (u64s (padTo X (mxN n0 n1)))) := by
    have := Rd.own ho2 (F := fun k => w.heap.size + 1 ≤ k ∧ k < w2.heap.size) (fun k hk => ho2.lt k hk)
    rw [u64s_zeros] at this
    unfold padTo
    rw [L0.out]
    exact this
  clear hg2 ha2 ho2 W1 O1
  go_wp2_with fail
  refine (arena_any W2.out (by rw [padTo_length _ _ (by have := L0.out; omega)]; omega)).mono ?_
  rintro e w3 h3
  obtain ⟨p, r, rfl, k3⟩ := h3.one (w0 := w) (bs := [(w.heap.size, 35, #[.int .i64 x, .int .i64 y, .int .i64 z])]) ((Off.alloc (Off.refl _ _) _).also O2.out) (fun x hx => by
    rw [List.mem_singleton] at hx
    subst hx
    exact (Blk.new _ _ _).to (O2.out.block _ (by simp) (fun h => h)))
  rw [padTo_length _ _ (by have := L0.out; omega)] at k3
  have H3 := Lib.hid k3
  clear h3 k3 W2 O2
  go_wp2_with (at_builtin; refine wpList_append_rd rfl _ _ 22 rfl w3.heap.size 28 i0 (.int .u64 0) 1 8 Try.underlying22 hi hz0 hz1 hz2 rfl (by decide) w3.heap.size 0 0 [] rfl ?c0 (.slice A1 n1 c1) n1 (u64s Y) rfl (F := Old w) ?c1 Z1.out (u64s_one' Y) ?c3 ?c4 ?c5 ?_)
  case c0 => exact World.ownsRow_made w3 #[] 0 (Nat.le_refl _) (Nat.zero_le _) rfl
  case c1 => exact H1.out.keep (Off.alloc H3.out.old _) (fun _ _ h => h)
  case c3 => unfold maxLen; omega
  case c4 => omega
  case c5 => simp
  intro g3 cap3 w4 ho3 hg3 ha3
  have O3 : Hid (Off Nob w3 w4) := Off.grown (Off.alloc (Off.refl _ _) _) hg3 (fun k hk => .inr (by injection hk with hk; omega))
  have W3 := Lib.hid ho3
  clear hg3 ha3 ho3
  go_wp2_with (at_builtin; refine wpList_append_zeros rfl _ _ 22 3 rfl w3.heap.size 28 i0 (.int .u64 0) 8 .i64 .i64 Try.underlying22 Try.underlying3 hi hz0 hz1 hz2 rfl rfl g3 n1 cap3 (u64s Y) rfl W3.out (mxN n0 n1 - n1) (mxN n0 n1) ?d0 ?d1 ?d2 ?d3 ?d4 ?_)
  case d0 => omega
  case d1 => exact congrArg (Value.int .i64) (by omega)
  case d2 => unfold maxLen; omega
  case d3 => omega
  case d4 => exact O3.out.size
  intro g4 cap4 w5 ho4 hg4 ha4
  have O4 : Hid (Off Nob w3 w5) := Off.grown O3.out hg4 (fun k hk => .inr (by injection hk with hk; subst hk; exact (W3.out.lt g3 rfl).1))
  have W4 : Hid (Rd w5 (fun k => w3.heap.size ≤ k ∧ k < w5.heap.size) 1 (.slice (some ⟨g4, 0, none⟩) (mxN n0 n1) cap4) (mxN n0 n1) (u64s (padTo Y (mxN n0 n1)))) := by
    have := Rd.own ho4 (F := fun k => w3.heap.size ≤ k ∧ k < w5.heap.size) (fun k hk => ho4.lt k hk)
    rw [u64s_zeros] at this
    unfold padTo
    rw [L1.out]
    exact this
  clear hg4 ha4 ho4 W3 O3
  go_wp2_with fail
  refine (arena_any W4.out (by rw [padTo_length _ _ (by have := L1.out; omega)]; omega)).mono ?_
  rintro e w6 h6
  obtain ⟨q, r2, rfl, k6⟩ := (H3.out.off O4.out).two h6
  rw [padTo_length _ _ (by have := L1.out; omega)] at k6
  have TW := Lib.hid k6
  have PX : Hid ((pad (padTo X (mxN n0 n1))).length = max (mxN n0 n1) 1) := Lib.hid (by rw [pad_length, padTo_length _ _ (by have := L0.out; omega)])
  have PY : Hid ((pad (padTo Y (mxN n0 n1))).length = max (mxN n0 n1) 1) := Lib.hid (by rw [pad_length, padTo_length _ _ (by have := L1.out; omega)])
  clear h6 k6 W4 O4 H3 H0 H1 Z0 Z1 L0 L1
  revert TW PX PY
  generalize pad (padTo X (mxN n0 n1)) = CX
  generalize pad (padTo Y (mxN n0 n1)) = CY
  intro TW PX PY
  have hN200 : mxN n0 n1 ≤ 200 := by omega
  clear hge0 hge1 hle hn0 hn1 hd0 hd1 hi hz0 hz1 hz2
  revert TW PX PY hN200
  generalize mxN n0 n1 = N
  intro TW PX PY hN200

  have T1 : Hid (TwinL w w6 [(w.heap.size, 35, #[.int .i64 x, .int .i64 y, .int .i64 z])] p q (max N 1) (stores N) (stores N)) := ⟨_, _, PX.out, PY.out, TW.out⟩
  clear TW PX PY
  revert T1
  generalize w6 = W
  generalize w.heap.size = bc
  generalize max N 1 = n
  generalize stores N = E0
  intro T1
  have ku0 := blind_cells T1.out
  have U0 := T1
  clear T1
  go_wp2_with fail
  refine (TwinL.first U0.out (fun C w F hl h => eq_bl hl h x y z)).mono ?_
  rintro e s1 ⟨⟨v1, rfl⟩, hu⟩
  have ku1 := blind_cells hu
  have U1 := Lib.hid hu
  clear hu ku0
  go_wp2_with fail
  refine (TwinL.second U1.out (fun C w F hl h => eq_bl hl h x y z)).mono ?_
  rintro e s2 ⟨⟨v2, rfl⟩, hu⟩
  have ku2 := blind_cells hu
  have U2 := Lib.hid hu
  clear hu ku1
  go_wp2_with fail
  refine (TwinL.first U2.out (fun C w F hl h => lt_bl hl h x y z)).mono ?_
  rintro e s3 ⟨⟨v3, rfl⟩, hu⟩
  have ku3 := blind_cells hu
  have U3 := Lib.hid hu
  clear hu ku2
  go_wp2_with fail
  refine (TwinL.second U3.out (fun C w F hl h => lt_bl hl h x y z)).mono ?_
  rintro e s4 ⟨⟨v4, rfl⟩, hu⟩
  have ku4 := blind_cells hu
  have U4 := Lib.hid hu
  clear hu ku3
  go_wp2_with fail
  go_region_held3 (fun w' => w'.cell? ⟨bc, 0, none⟩ = some (.int .i64 x) ∧ w'.cell? ⟨bc, 1, none⟩ = some (.int .i64 y) ∧ w'.cell? ⟨bc, 2, none⟩ = some (.int .i64 z))
    (first | with_reducible assumption | go_keep)
    (first
      | (go_at_call_of 32 (Value.pointer (some ⟨p, 0, none⟩)); refine (TwinL.first (U4.out.off (by first | exact Off.refl _ _ | exact Off.drew (Off.refl _ _) | exact Off.drewN (Off.refl _ _) _ | exact Off.drew (Off.drew (Off.refl _ _)) | exact Off.drew (Off.drewN (Off.refl _ _) _) | exact Off.drew (Off.drew (Off.drew (Off.refl _ _))))) (fun C w F hl h => ex_bl hl h x y z)).mono ?_; rintro e u5 ⟨rfl, hu5⟩; have ku5 := blind_cells hu5; have U5 := Lib.hid hu5; clear hu5)
      | (go_at_call_of 32 (Value.pointer (some ⟨q, 0, none⟩)); refine (TwinL.second (U5.out.off (by first | exact Off.refl _ _ | exact Off.drew (Off.refl _ _) | exact Off.drewN (Off.refl _ _) _ | exact Off.drew (Off.drew (Off.refl _ _)) | exact Off.drew (Off.drewN (Off.refl _ _) _) | exact Off.drew (Off.drew (Off.drew (Off.refl _ _))))) (fun C w F hl h => ex_bl hl h x y z)).mono ?_; rintro e u6 ⟨rfl, hu6⟩; have ku6 := blind_cells hu6; have U6 := Lib.hid hu6; clear hu6)
      | (go_at_call_of 14 (Value.pointer (some ⟨p, 0, none⟩)); refine (TwinL.first (U6.out.off (by first | exact Off.refl _ _ | exact Off.drew (Off.refl _ _) | exact Off.drewN (Off.refl _ _) _ | exact Off.drew (Off.drew (Off.refl _ _)) | exact Off.drew (Off.drewN (Off.refl _ _) _) | exact Off.drew (Off.drew (Off.drew (Off.refl _ _))))) (fun C w F hl h => so_bl hl h x y z)).mono ?_; rintro e u7 ⟨rfl, hu7⟩; have ku7 := blind_cells hu7; have U7 := Lib.hid hu7; clear hu7)
      | (go_at_call_of 14 (Value.pointer (some ⟨q, 0, none⟩)); refine (TwinL.second (U7.out.off (by first | exact Off.refl _ _ | exact Off.drew (Off.refl _ _) | exact Off.drewN (Off.refl _ _) _ | exact Off.drew (Off.drew (Off.refl _ _)) | exact Off.drew (Off.drewN (Off.refl _ _) _) | exact Off.drew (Off.drew (Off.drew (Off.refl _ _))))) (fun C w F hl h => so_bl hl h x y z)).mono ?_; rintro e u8 ⟨rfl, hu8⟩; have ku8 := blind_cells hu8; have U8 := Lib.hid hu8; clear hu8))
  clear ku4 ku5 ku6 ku7
  go_wp2_with fail
  have U8X := Lib.hid (U8.out.off (Off.refl Nob _))
  obtain ⟨CP, FP, hp⟩ := U8X.out.ar1
  have HP := Lib.hid (events_ok hp)
  clear hp
  refine HP.out.mono ?_
  rintro e v1 ⟨l1, rfl, hl1, o1⟩
  have V1 := Lib.hid (NewE.rd hl1)
  have T3 := Lib.hid (U8X.out.off o1)
  clear hl1 o1 HP
  go_wp2_with fail
  obtain ⟨CQ, FQ, hq⟩ := T3.out.ar2
  have HQ := Lib.hid (events_ok hq)
  clear hq
  refine HQ.out.mono ?_
  rintro e v2 ⟨l2, rfl, hl2, o2⟩
  have V2 := Lib.hid (V1.out.keep o2 (fun _ _ h => h))
  have V3 := Lib.hid (NewE.rd hl2)
  have T4 := Lib.hid (T3.out.off o2)
  clear hl2 o2 HQ V1
  go_wp2_with fail
  refine (sameEv V2.out V3.out).mono ?_
  rintro e v3 ⟨rfl, o3⟩
  have O3 := Lib.hid (T4.out.old.also o3)
  clear o3 V2 V3
  go_wp2_with fail
  refine (awake_ok _).mono ?_
  rintro e v4 ⟨rfl, o4⟩
  have O4 := Lib.hid (O3.out.also o4)
  clear o4
  go_wp2
  go_ret
  exact ⟨ret_bool (by simp), O4.out⟩
theorem blind_long0 {w : World} (A0 A1 : Option Addr) (n0 c0 n1 c1 : Nat) (x y z : Int) (h : 200 < n0) (b0 : n0 ≤ maxLen) (b1 : n1 ≤ maxLen) :
    Calls Try.prog 8 #[.slice A0 n0 c0, .slice A1 n1 c1, .agg #[.int .i64 x, .int .i64 y, .int .i64 z]] w (BoolNew true w) := by
  unfold maxLen at b0 b1
  have hd0 : decide (200 < (n0 : Int)) = true := by simp; omega
  go_enter Try.func8, Try.ntmps8
  go_wp2_with fail
  refine (awake_ok _).mono ?_
  rintro e w4 ⟨rfl, h4⟩
  have H4 := Lib.hid h4
  clear h4
  go_wp2
  go_ret
  exact ⟨rfl, (Off.alloc (Off.refl _ _) _).also H4.out⟩
theorem blind_long1 {w : World} (A0 A1 : Option Addr) (n0 c0 n1 c1 : Nat) (x y z : Int) (h0 : ¬ 200 < n0) (h : 200 < n1) (b0 : n0 ≤ maxLen) (b1 : n1 ≤ maxLen) :
    Calls Try.prog 8 #[.slice A0 n0 c0, .slice A1 n1 c1, .agg #[.int .i64 x, .int .i64 y, .int .i64 z]] w (BoolNew true w) := by
  unfold maxLen at b0 b1
  have hd0 : decide (200 < (n0 : Int)) = false := by simp; omega
  have hd1 : decide (200 < (n1 : Int)) = true := by simp; omega
  go_enter Try.func8, Try.ntmps8
  go_wp2_with fail
  refine (awake_ok _).mono ?_
  rintro e w4 ⟨rfl, h4⟩
  have H4 := Lib.hid h4
  clear h4
  go_wp2
  go_ret
  exact ⟨rfl, (Off.alloc (Off.refl _ _) _).also H4.out⟩
theorem compareBlind_walk {w : World} {v0 v1 : Value} {n0 n1 : Nat} {X Y : List (BitVec 64)} (h0 : Rd w (Old w) 1 v0 n0 (u64s X)) (z0 : NilOk v0) (h1 : Rd w (Old w) 1 v1 n1 (u64s Y)) (z1 : NilOk v1)
    (l : List Value) (hl : l.length = 3) (hk : ∀ f j κ, kindAt Try.prog f 35 j = some κ → ∃ u, l[j]? = some u ∧ okV κ u) :
    Calls Try.prog 8 #[v0, v1, .agg l.toArray] w (BoolNew true w) := by
  obtain ⟨u0, e0, o0⟩ := hk 4 0 (some .i64) (by kernel_rfl)
  obtain ⟨u1, e1, o1⟩ := hk 4 1 (some .i64) (by kernel_rfl)
  obtain ⟨u2, e2, o2⟩ := hk 4 2 (some .i64) (by kernel_rfl)
  obtain ⟨x, rfl, _⟩ := okV_i64 o0
  obtain ⟨y, rfl, _⟩ := okV_i64 o1
  obtain ⟨z, rfl, _⟩ := okV_i64 o2
  match l, hl with
  | [a, b, c], _ =>
    simp at e0 e1 e2
    subst e0 e1 e2
    obtain ⟨A0, c0, rfl, m0, _⟩ := h0.form
    obtain ⟨A1, c1, rfl, m1, _⟩ := h1.form
    by_cases g0 : 200 < n0
    · exact blind_long0 _ _ _ _ _ _ _ _ _ g0 m0 m1
    by_cases g1 : 200 < n1
    · exact blind_long1 _ _ _ _ _ _ _ _ _ g0 g1 m0 m1
    exact blind_small A0 A1 n0 c0 n1 c1 X Y h0 h1 z0 z1 (by omega) (by omega) x y z

end Go.Proofs.Ytdgehacbpjgmcaa
