/-
  The walk of dragnetlaw23.PrefixBlind.
-/
import Derived.Test.YtlbahocncbmjnaaAwake23
import Derived.Test.YtlbahocncbmjnaaOpen
import Derived.Test.YtlbahocncbmjnaaTwin
import Derived.RegionTactic
import Derived.BigRegion
namespace Go.Proofs.Ytlbahocncbmjnaa
open Go.RowKit Go.ChangeShapes Go.WideShapes Go.ChangeAt
attribute [local go_sem] bits_and_u64 bits_or_u64 bits_xor_u64 bits_andNot_u64 wrap_u64 bv_add bv_neg bv_sub bv_mul
set_option linter.unusedVariables false
set_option maxRecDepth 100000
attribute [local go_sem ↓] run_max_nat
/-- The errors and the steps do not depend on the cells. -/
def evL (g : Nat → List Ev) (k : Nat) : List Ev := (List.range k).flatMap g
theorem evL_succ (g : Nat → List Ev) (k : Nat) : evL g (k + 1) = evL g k ++ g k := by unfold evL; rw [List.range_succ, List.flatMap_append]; simp
theorem repS_ev (f : St → Nat → St) (g : Nat → List Ev) (hf : ∀ s i, (f s i).2.1 = s.2.1 ++ g i) (s : St) (k : Nat) : (repS f s k).2.1 = s.2.1 ++ evL g k := by
  induction k with
  | zero => rw [repS_zero]; simp [evL]
  | succ k ih => rw [repS_succ, hf, ih, evL_succ, List.append_assoc]
def rkG (base out i : Nat) : List Ev := [(1, base + 3 * i), (2, out + i)]
def spG (base out i : Nat) : List Ev := [(1, base + 3 * i), (1, out + i), (2, base + 3 * i)]
def diG (base out i : Nat) : List Ev := [(1, base + 3 * i), (1, out + i), (2, out + i)]
def prV (n : Nat) (E : List Ev) (base k out : Int) (s : Nat) (g : Nat → Nat → Nat → List Ev) : List Ev := if pkE n E.length base k out s = 0 then E ++ evL (g base.toNat out.toNat) k.toNat else E
theorem prR_blind (C : List (BitVec 64)) (E : List Ev) (base k out : Int) (s : Nat) (f : Nat → Nat → St → Nat → St) (g : Nat → Nat → Nat → List Ev) (hf : ∀ b o t i, (f b o t i).1.length = t.1.length ∧ (f b o t i).2.1.length = t.2.1.length + s) (hg : ∀ b o t i, (f b o t i).2.1 = t.2.1 ++ g b o i) :
    (prR C E base k out s f).1.2 = pkE C.length E.length base k out s ∧ (prR C E base k out s f).2.2 = prV C.length E base k out s g ∧ (prR C E base k out s f).2.1.length = C.length := by
  unfold prR prV
  split
  · rename_i h
    exact ⟨h.symm, repS_ev _ _ (hg _ _) _ _, (repS_len _ s (hf _ _) _ _).1⟩
  · exact ⟨rfl, rfl, rfl⟩
section
variable {w : World} {F : Nat → Prop} {p n : Nat} {C : List (BitVec 64)} {E : List Ev}
theorem ranks_bl (hl : C.length = n) (h : Ar w F p C E) (x y z : Int) :
    Calls Try.prog 13 #[.pointer (some ⟨p, 0, none⟩), .int .i64 x, .int .i64 y, .int .i64 z] w fun e w' => (∃ v, e = .returned (.tuple #[.int .u64 v, .int .i64 (pkE n E.length x y z ((2 : Nat) : Int))])) ∧ ∃ C2, C2.length = n ∧ ArTo w F p C2 (prV n E x y z 2 rkG) w' := by
  subst hl
  obtain ⟨h1, h2, h3⟩ := prR_blind C E x y z 2 (rkF) rkG (rkF_len) (fun _ _ _ _ => rfl)
  refine (ranks_any h x y z).mono fun e w' ⟨he, ha⟩ => ⟨⟨_, he.trans (by rw [h1])⟩, _, h3, by rw [← h2]; exact ha⟩
theorem split_bl (hl : C.length = n) (h : Ar w F p C E) (x y z : Int) (k : BitVec 64) :
    Calls Try.prog 15 #[.pointer (some ⟨p, 0, none⟩), .int .i64 x, .int .i64 y, .int .i64 z, .int .u64 (n64 k)] w fun e w' => (∃ v, e = .returned (.tuple #[.int .u64 v, .int .i64 (pkE n E.length x y z ((3 : Nat) : Int))])) ∧ ∃ C2, C2.length = n ∧ ArTo w F p C2 (prV n E x y z 3 spG) w' := by
  subst hl
  obtain ⟨h1, h2, h3⟩ := prR_blind C E x y z 3 (spF k) spG (spF_len k) (fun _ _ _ _ => rfl)
  refine (split_any h x y z k).mono fun e w' ⟨he, ha⟩ => ⟨⟨_, he.trans (by rw [h1])⟩, _, h3, by rw [← h2]; exact ha⟩
theorem dist_bl (hl : C.length = n) (h : Ar w F p C E) (x y z : Int) :
    Calls Try.prog 16 #[.pointer (some ⟨p, 0, none⟩), .int .i64 x, .int .i64 y, .int .i64 z] w fun e w' => e = .returned (.int .i64 (pkE n E.length x y z ((3 : Nat) : Int))) ∧ ∃ C2, C2.length = n ∧ ArTo w F p C2 (prV n E x y z 3 diG) w' := by
  subst hl
  obtain ⟨h1, h2, h3⟩ := prR_blind C E x y z 3 (diF) diG (diF_len) (fun _ _ _ _ => rfl)
  refine (dist_any h x y z).mono fun e w' ⟨he, ha⟩ => ⟨he.trans (by rw [h1]), _, h3, by rw [← h2]; exact ha⟩
end
theorem blind_cells {w0 w : World} {bs : Bks} {p q n bc bd : Nat} {E E' : List Ev} {x y z x2 y2 z2 : Int} {k k2 : BitVec 64} {t : TypeId} (h : TwinL w0 w ((bc, t, #[.int .i64 x, .int .i64 y, .int .i64 z, .int .u64 (n64 k)]) :: (bd, t, #[.int .i64 x2, .int .i64 y2, .int .i64 z2, .int .u64 (n64 k2)]) :: bs) p q n E E') :
    w.cell? ⟨bc, 0, none⟩ = some (.int .i64 x) ∧ w.cell? ⟨bc, 1, none⟩ = some (.int .i64 y) ∧ w.cell? ⟨bc, 2, none⟩ = some (.int .i64 z) ∧ w.cell? ⟨bc, 3, none⟩ = some (.int .u64 (n64 k)) ∧ w.cell? ⟨bd, 3, none⟩ = some (.int .u64 (n64 k2)) := by
  have h1 := h.blk (List.mem_cons_self ..)
  have h2 := h.blk (List.mem_cons_of_mem _ (List.mem_cons_self ..))
  exact ⟨h1.cell 0, h1.cell 1, h1.cell 2, h1.cell 3, h2.cell 3⟩
theorem Twin.reorder {w0 w : World} {a b : Nat × TypeId × Array Value} {bs : Bks} {p q : Nat} {C C' : List (BitVec 64)} {E E' : List Ev} (h : Twin w0 w (a :: b :: bs) p q C E C' E') : Twin w0 w (b :: a :: bs) p q C E C' E' := by
  obtain ⟨F, R, ha, hr, ho, hf, hg, hd, hb⟩ := h
  refine ⟨F, R, ha, hr, ho, hf, hg, hd, fun x hx => hb x ?_⟩
  simp at hx ⊢
  rcases hx with h | h | h
  · exact .inr (.inl h)
  · exact .inl h
  · exact .inr (.inr h)
set_option maxHeartbeats 16000000 in
theorem blind_small {w : World} (A0 A1 : Option Addr) (n0 c0 n1 c1 : Nat) (X Y : List (BitVec 64)) (h0 : Rd w (Old w) 1 (.slice A0 n0 c0) n0 (u64s X)) (h1 : Rd w (Old w) 1 (.slice A1 n1 c1) n1 (u64s Y)) (z0 : NilOk (.slice A0 n0 c0)) (z1 : NilOk (.slice A1 n1 c1)) (hn0 : n0 ≤ 200) (hn1 : n1 ≤ 200) (x y z x2 y2 z2 : Int) (k k2 : BitVec 64) :
    Calls Try.prog 7 #[.slice A0 n0 c0, .slice A1 n1 c1, .agg #[.int .i64 x, .int .i64 y, .int .i64 z, .int .u64 (n64 k), .int .i64 x2, .int .i64 y2, .int .i64 z2, .int .u64 (n64 k2)]] w (BoolNew true w) := by
  obtain ⟨i0, hi, hz0, hz1, hz2⟩ := info_parts Try.infoU
  have hl0 : X.length = n0 := by obtain ⟨_, _, _, _, hl, _⟩ := h0; rw [length_u64s] at hl; omega
  have hl1 : Y.length = n1 := by obtain ⟨_, _, _, _, hl, _⟩ := h1; rw [length_u64s] at hl; omega
  obtain ⟨hge0, hge1, hle⟩ := mxN_ge n0 n1
  have H0 := Lib.hid h0
  have H1 := Lib.hid h1
  have Z0 := Lib.hid z0
  have Z1 := Lib.hid z1
  have L0 := Lib.hid hl0
  have L1 := Lib.hid hl1
  have hd0 : decide (200 < (n0 : Int)) = false := by simp; omega
  have hd1 : decide (200 < (n1 : Int)) = false := by simp; omega
  clear h0 h1 z0 z1 hl0 hl1

  go_enter Try.func7, Try.ntmps7
  go_wp2_with (at_builtin; refine wpList_append_rd rfl _ _ 36 rfl (w.heap.size + 1) 32 i0 (.int .u64 0) 1 8 Try.underlying36 hi hz0 hz1 hz2 rfl (by decide) (w.heap.size + 1) 0 0 [] rfl ?c0 (.slice A0 n0 c0) n0 (u64s X) rfl (F := Old w) ?c1 Z0.out (u64s_one' X) ?c3 ?c4 ?c5 ?_)
  case c0 => simpa using World.ownsRow_made (w.alloc (.cells #[.int .i64 x, .int .i64 y, .int .i64 z, .int .u64 (n64 k), .int .i64 x2, .int .i64 y2, .int .i64 z2, .int .u64 (n64 k2)] 52)) #[] 0 (Nat.le_refl _) (Nat.zero_le _) rfl
  case c1 => exact H0.out.keep (Off.alloc (Off.alloc (Off.refl Nob w) _) _) (fun _ _ h => h)
  case c3 => unfold maxLen; omega
  case c4 => omega
  case c5 => simp
  intro g1 cap1 w1 ho1 hg1 ha1
  have O1 : Hid (Off Nob (w.alloc (.cells #[.int .i64 x, .int .i64 y, .int .i64 z, .int .u64 (n64 k), .int .i64 x2, .int .i64 y2, .int .i64 z2, .int .u64 (n64 k2)] 52)) w1) := Off.grown (Off.alloc (Off.refl _ _) _) hg1 (fun k hk => .inr (by injection hk with hk; simp; omega))
  have W1 := Lib.hid ho1
  clear hg1 ha1 ho1
  go_wp2_with (at_builtin; refine wpList_append_zeros rfl _ _ 36 3 rfl (w.heap.size + 1) 32 i0 (.int .u64 0) 8 .i64 .i64 Try.underlying36 Try.underlying3 hi hz0 hz1 hz2 rfl rfl g1 n0 cap1 (u64s X) rfl W1.out (mxN n0 n1 - n0) (mxN n0 n1) ?d0 ?d1 ?d2 ?d3 ?d4 ?_)
  case d0 => omega
  case d1 => exact congrArg (Value.int .i64) (by omega)
  case d2 => unfold maxLen; omega
  case d3 => omega
  case d4 => have := O1.out.size; simp at this; omega
  intro g2 cap2 w2 ho2 hg2 ha2
  have O2 : Hid (Off Nob (w.alloc (.cells #[.int .i64 x, .int .i64 y, .int .i64 z, .int .u64 (n64 k), .int .i64 x2, .int .i64 y2, .int .i64 z2, .int .u64 (n64 k2)] 52)) w2) := Off.grown O1.out hg2 (fun k hk => .inr (by injection hk with hk; subst hk; have := (W1.out.lt g1 rfl).1; simp; omega))
  have W2 : Hid (Rd w2 (fun k => w.heap.size + 1 ≤ k ∧ k < w2.heap.size) 1 (.slice (some ⟨g2, 0, none⟩) (mxN n0 n1) cap2) (mxN n0 n1) (u64s (padTo X (mxN n0 n1)))) := by
    have := Rd.own ho2 (F := fun k => w.heap.size + 1 ≤ k ∧ k < w2.heap.size) (fun k hk => ho2.lt k hk)
    rw [u64s_zeros] at this
    unfold padTo
    rw [L0.out]
    exact this
  clear hg2 ha2 ho2 W1 O1
  go_wp2_with fail
  refine (arena_any W2.out (by rw [padTo_length _ _ (by have := L0.out; omega)]; omega)).mono ?_
  rintro e w3 h3
  obtain ⟨p, r, rfl, k3⟩ := h3.one (w0 := w) (bs := [(w.heap.size, 52, #[.int .i64 x, .int .i64 y, .int .i64 z, .int .u64 (n64 k), .int .i64 x2, .int .i64 y2, .int .i64 z2, .int .u64 (n64 k2)])]) ((Off.alloc (Off.refl _ _) _).also O2.out) (fun x hx => by
    rw [List.mem_singleton] at hx
    subst hx
    exact (Blk.new _ _ _).to (O2.out.block _ (by simp) (fun h => h)))
  rw [padTo_length _ _ (by have := L0.out; omega)] at k3
  have H3 := Lib.hid k3
  clear h3 k3 W2 O2
  go_wp2_with (at_builtin; refine wpList_append_rd rfl _ _ 36 rfl w3.heap.size 32 i0 (.int .u64 0) 1 8 Try.underlying36 hi hz0 hz1 hz2 rfl (by decide) w3.heap.size 0 0 [] rfl ?c0 (.slice A1 n1 c1) n1 (u64s Y) rfl (F := Old w) ?c1 Z1.out (u64s_one' Y) ?c3 ?c4 ?c5 ?_)
  case c0 => exact World.ownsRow_made w3 #[] 0 (Nat.le_refl _) (Nat.zero_le _) rfl
  case c1 => exact H1.out.keep (Off.alloc H3.out.old _) (fun _ _ h => h)
  case c3 => unfold maxLen; omega
  case c4 => omega
  case c5 => simp
  intro g3 cap3 w4 ho3 hg3 ha3
  have O3 : Hid (Off Nob w3 w4) := Off.grown (Off.alloc (Off.refl _ _) _) hg3 (fun k hk => .inr (by injection hk with hk; omega))
  have W3 := Lib.hid ho3
  clear hg3 ha3 ho3
  go_wp2_with (at_builtin; refine wpList_append_zeros rfl _ _ 36 3 rfl w3.heap.size 32 i0 (.int .u64 0) 8 .i64 .i64 Try.underlying36 Try.underlying3 hi hz0 hz1 hz2 rfl rfl g3 n1 cap3 (u64s Y) rfl W3.out (mxN n0 n1 - n1) (mxN n0 n1) ?d0 ?d1 ?d2 ?d3 ?d4 ?_)
  case d0 => omega
  case d1 => exact congrArg (Value.int .i64) (by omega)
  case d2 => unfold maxLen; omega
  case d3 => omega
  case d4 => exact O3.out.size
  intro g4 cap4 w5 ho4 hg4 ha4
  have O4 : Hid (Off Nob w3 w5) := Off.grown O3.out hg4 (fun k hk => .inr (by injection hk with hk; subst hk; exact (W3.out.lt g3 rfl).1))
  have W4 : Hid (Rd w5 (fun k => w3.heap.size ≤ k ∧ k < w5.heap.size) 1 (.slice (some ⟨g4, 0, none⟩) (mxN n0 n1) cap4) (mxN n0 n1) (u64s (padTo Y (mxN n0 n1)))) := by
    have := Rd.own ho4 (F := fun k => w3.heap.size ≤ k ∧ k < w5.heap.size) (fun k hk => ho4.lt k hk)
    rw [u64s_zeros] at this
    unfold padTo
    rw [L1.out]
    exact this
  clear hg4 ha4 ho4 W3 O3
  go_wp2_with fail
  refine (arena_any W4.out (by rw [padTo_length _ _ (by have := L1.out; omega)]; omega)).mono ?_
  rintro e w6 h6
  obtain ⟨q, r2, rfl, k6⟩ := (H3.out.off O4.out).two h6
  rw [padTo_length _ _ (by have := L1.out; omega)] at k6
  have TW := Lib.hid k6
  have PX : Hid ((pad (padTo X (mxN n0 n1))).length = max (mxN n0 n1) 1) := Lib.hid (by rw [pad_length, padTo_length _ _ (by have := L0.out; omega)])
  have PY : Hid ((pad (padTo Y (mxN n0 n1))).length = max (mxN n0 n1) 1) := Lib.hid (by rw [pad_length, padTo_length _ _ (by have := L1.out; omega)])
  clear h6 k6 W4 O4 H3 H0 H1 Z0 Z1 L0 L1
  revert TW PX PY
  generalize pad (padTo X (mxN n0 n1)) = CX
  generalize pad (padTo Y (mxN n0 n1)) = CY
  intro TW PX PY
  have hN200 : mxN n0 n1 ≤ 200 := by omega
  clear hge0 hge1 hle hn0 hn1 hd0 hd1 hi hz0 hz1 hz2
  revert TW PX PY hN200
  generalize mxN n0 n1 = N
  intro TW PX PY hN200

  have hB := TW.out.blk (List.mem_cons_self ..)
  have b0 := hB.cell 0
  have b1 := hB.cell 1
  have b2 := hB.cell 2
  have b3 := hB.cell 3
  have b4 := hB.cell 4
  have b5 := hB.cell 5
  have b6 := hB.cell 6
  have b7 := hB.cell 7
  have hblt := hB.lt
  simp only [List.getElem?_toArray, List.getElem?_cons_succ, List.getElem?_cons_zero] at b0 b1 b2 b3 b4 b5 b6 b7
  clear hB
  go_wp2_with fail
  go_region
  all_goals
    go_wp2_with fail
  · have T1 : Hid (TwinL w ((w6.alloc (.cells #[.int .i64 x, .int .i64 y, .int .i64 z, .int .u64 (n64 k)] 49)).alloc (.cells #[.int .i64 x2, .int .i64 y2, .int .i64 z2, .int .u64 (n64 k2)] 49)).drew ((w6.heap.size, 49, #[.int .i64 x, .int .i64 y, .int .i64 z, .int .u64 (n64 k)]) :: (w6.heap.size + 1, 49, #[.int .i64 x2, .int .i64 y2, .int .i64 z2, .int .u64 (n64 k2)]) :: [(w.heap.size, 52, #[.int .i64 x, .int .i64 y, .int .i64 z, .int .u64 (n64 k), .int .i64 x2, .int .i64 y2, .int .i64 z2, .int .u64 (n64 k2)])]) p q (max N 1) (stores N) (stores N)) :=
      ⟨_, _, PX.out, PY.out, by simpa using (((TW.out.push 49 #[.int .i64 x, .int .i64 y, .int .i64 z, .int .u64 (n64 k)]).push 49 #[.int .i64 x2, .int .i64 y2, .int .i64 z2, .int .u64 (n64 k2)]).off (Off.drew (Off.refl _ _))).reorder⟩
    clear b0 b1 b2 b3 b4 b5 b6 b7 hblt TW PX PY
    revert T1
    generalize ((w6.alloc (.cells #[.int .i64 x, .int .i64 y, .int .i64 z, .int .u64 (n64 k)] 49)).alloc (.cells #[.int .i64 x2, .int .i64 y2, .int .i64 z2, .int .u64 (n64 k2)] 49)).drew = W
    generalize w6.heap.size + 1 = bd
    generalize w6.heap.size = bc
    intro T1
    generalize max N 1 = n at *
    have ku0 := blind_cells T1.out
    have U0 := T1
    go_wp2_with fail
    refine (TwinL.first U0.out (fun C w F hl h => ranks_bl hl h x y z)).mono ?_
    rintro e s1 ⟨⟨v1, rfl⟩, hu⟩
    have ku1 := blind_cells hu
    have U1 := Lib.hid hu
    clear hu ku0
    go_wp2_with fail
    refine (TwinL.second U1.out (fun C w F hl h => ranks_bl hl h x y z)).mono ?_
    rintro e s2 ⟨⟨v2, rfl⟩, hu⟩
    have ku2 := blind_cells hu
    have U2 := Lib.hid hu
    clear hu ku1
    go_wp2_with fail
    refine (TwinL.first U2.out (fun C w F hl h => split_bl hl h x y z k)).mono ?_
    rintro e s3 ⟨⟨v3, rfl⟩, hu⟩
    have ku3 := blind_cells hu
    have U3 := Lib.hid hu
    clear hu ku2
    go_wp2_with fail
    refine (TwinL.second U3.out (fun C w F hl h => split_bl hl h x y z k2)).mono ?_
    rintro e s4 ⟨⟨v4, rfl⟩, hu⟩
    have ku4 := blind_cells hu
    have U4 := Lib.hid hu
    clear hu ku3
    go_wp2_with fail
    refine (TwinL.first U4.out (fun C w F hl h => dist_bl hl h x y z)).mono ?_
    rintro e s5 ⟨rfl, hu⟩
    have ku5 := blind_cells hu
    have U5 := Lib.hid hu
    clear hu ku4
    go_wp2_with fail
    refine (TwinL.second U5.out (fun C w F hl h => dist_bl hl h x y z)).mono ?_
    rintro e s6 ⟨rfl, hu⟩
    have ku6 := blind_cells hu
    have U6 := Lib.hid hu
    clear hu ku5
    go_wp2_with fail
    obtain ⟨CP, FP, hp⟩ := U6.out.ar1
    have HP := Lib.hid (events_ok hp)
    clear hp
    refine HP.out.mono ?_
    rintro e v1 ⟨l1, rfl, hl1, o1⟩
    have V1 := Lib.hid (NewE.rd hl1)
    have T3 := Lib.hid (U6.out.off o1)
    clear hl1 o1 HP
    go_wp2_with fail
    obtain ⟨CQ, FQ, hq⟩ := T3.out.ar2
    have HQ := Lib.hid (events_ok hq)
    clear hq
    refine HQ.out.mono ?_
    rintro e v2 ⟨l2, rfl, hl2, o2⟩
    have V2 := Lib.hid (V1.out.keep o2 (fun _ _ h => h))
    have V3 := Lib.hid (NewE.rd hl2)
    have T4 := Lib.hid (T3.out.off o2)
    clear hl2 o2 HQ V1
    go_wp2_with fail
    refine (sameEv V2.out V3.out).mono ?_
    rintro e v3 ⟨rfl, o3⟩
    have O3 := Lib.hid (T4.out.old.also o3)
    clear o3 V2 V3
    go_wp2_with fail
    refine (awake_ok _).mono ?_
    rintro e v4 ⟨rfl, o4⟩
    have O4 := Lib.hid (O3.out.also o4)
    clear o4
    go_wp2
    go_ret
    exact ⟨ret_bool (by simp), O4.out⟩
  · have T1 : Hid (TwinL w ((w6.alloc (.cells #[.int .i64 x2, .int .i64 y2, .int .i64 z2, .int .u64 (n64 k2)] 49)).alloc (.cells #[.int .i64 x, .int .i64 y, .int .i64 z, .int .u64 (n64 k)] 49)).drew ((w6.heap.size + 1, 49, #[.int .i64 x, .int .i64 y, .int .i64 z, .int .u64 (n64 k)]) :: (w6.heap.size, 49, #[.int .i64 x2, .int .i64 y2, .int .i64 z2, .int .u64 (n64 k2)]) :: [(w.heap.size, 52, #[.int .i64 x, .int .i64 y, .int .i64 z, .int .u64 (n64 k), .int .i64 x2, .int .i64 y2, .int .i64 z2, .int .u64 (n64 k2)])]) p q (max N 1) (stores N) (stores N)) :=
      ⟨_, _, PX.out, PY.out, by simpa using ((TW.out.push 49 #[.int .i64 x2, .int .i64 y2, .int .i64 z2, .int .u64 (n64 k2)]).push 49 #[.int .i64 x, .int .i64 y, .int .i64 z, .int .u64 (n64 k)]).off (Off.drew (Off.refl _ _))⟩
    clear b0 b1 b2 b3 b4 b5 b6 b7 hblt TW PX PY
    revert T1
    generalize ((w6.alloc (.cells #[.int .i64 x2, .int .i64 y2, .int .i64 z2, .int .u64 (n64 k2)] 49)).alloc (.cells #[.int .i64 x, .int .i64 y, .int .i64 z, .int .u64 (n64 k)] 49)).drew = W
    generalize w6.heap.size + 1 = bc
    generalize w6.heap.size = bd
    intro T1
    generalize max N 1 = n at *
    have ku0 := blind_cells T1.out
    have U0 := T1
    go_wp2_with fail
    refine (TwinL.first U0.out (fun C w F hl h => ranks_bl hl h x y z)).mono ?_
    rintro e s1 ⟨⟨v1, rfl⟩, hu⟩
    have ku1 := blind_cells hu
    have U1 := Lib.hid hu
    clear hu ku0
    go_wp2_with fail
    refine (TwinL.second U1.out (fun C w F hl h => ranks_bl hl h x y z)).mono ?_
    rintro e s2 ⟨⟨v2, rfl⟩, hu⟩
    have ku2 := blind_cells hu
    have U2 := Lib.hid hu
    clear hu ku1
    go_wp2_with fail
    refine (TwinL.first U2.out (fun C w F hl h => split_bl hl h x y z k)).mono ?_
    rintro e s3 ⟨⟨v3, rfl⟩, hu⟩
    have ku3 := blind_cells hu
    have U3 := Lib.hid hu
    clear hu ku2
    go_wp2_with fail
    refine (TwinL.second U3.out (fun C w F hl h => split_bl hl h x y z k2)).mono ?_
    rintro e s4 ⟨⟨v4, rfl⟩, hu⟩
    have ku4 := blind_cells hu
    have U4 := Lib.hid hu
    clear hu ku3
    go_wp2_with fail
    refine (TwinL.first U4.out (fun C w F hl h => dist_bl hl h x y z)).mono ?_
    rintro e s5 ⟨rfl, hu⟩
    have ku5 := blind_cells hu
    have U5 := Lib.hid hu
    clear hu ku4
    go_wp2_with fail
    refine (TwinL.second U5.out (fun C w F hl h => dist_bl hl h x y z)).mono ?_
    rintro e s6 ⟨rfl, hu⟩
    have ku6 := blind_cells hu
    have U6 := Lib.hid hu
    clear hu ku5
    go_wp2_with fail
    obtain ⟨CP, FP, hp⟩ := U6.out.ar1
    have HP := Lib.hid (events_ok hp)
    clear hp
    refine HP.out.mono ?_
    rintro e v1 ⟨l1, rfl, hl1, o1⟩
    have V1 := Lib.hid (NewE.rd hl1)
    have T3 := Lib.hid (U6.out.off o1)
    clear hl1 o1 HP
    go_wp2_with fail
    obtain ⟨CQ, FQ, hq⟩ := T3.out.ar2
    have HQ := Lib.hid (events_ok hq)
    clear hq
    refine HQ.out.mono ?_
    rintro e v2 ⟨l2, rfl, hl2, o2⟩
    have V2 := Lib.hid (V1.out.keep o2 (fun _ _ h => h))
    have V3 := Lib.hid (NewE.rd hl2)
    have T4 := Lib.hid (T3.out.off o2)
    clear hl2 o2 HQ V1
    go_wp2_with fail
    refine (sameEv V2.out V3.out).mono ?_
    rintro e v3 ⟨rfl, o3⟩
    have O3 := Lib.hid (T4.out.old.also o3)
    clear o3 V2 V3
    go_wp2_with fail
    refine (awake_ok _).mono ?_
    rintro e v4 ⟨rfl, o4⟩
    have O4 := Lib.hid (O3.out.also o4)
    clear o4
    go_wp2
    go_ret
    exact ⟨ret_bool (by simp), O4.out⟩
theorem blind_long0 {w : World} (A0 A1 : Option Addr) (n0 c0 n1 c1 : Nat) (x y z x2 y2 z2 : Int) (k k2 : BitVec 64) (h : 200 < n0) (b0 : n0 ≤ maxLen) (b1 : n1 ≤ maxLen) :
    Calls Try.prog 7 #[.slice A0 n0 c0, .slice A1 n1 c1, .agg #[.int .i64 x, .int .i64 y, .int .i64 z, .int .u64 (n64 k), .int .i64 x2, .int .i64 y2, .int .i64 z2, .int .u64 (n64 k2)]] w (BoolNew true w) := by
  unfold maxLen at b0 b1
  have hd0 : decide (200 < (n0 : Int)) = true := by simp; omega
  go_enter Try.func7, Try.ntmps7
  go_wp2_with fail
  refine (awake_ok _).mono ?_
  rintro e w4 ⟨rfl, h4⟩
  have H4 := Lib.hid h4
  clear h4
  go_wp2
  go_ret
  exact ⟨rfl, (Off.alloc (Off.refl _ _) _).also H4.out⟩
theorem blind_long1 {w : World} (A0 A1 : Option Addr) (n0 c0 n1 c1 : Nat) (x y z x2 y2 z2 : Int) (k k2 : BitVec 64) (h0 : ¬ 200 < n0) (h : 200 < n1) (b0 : n0 ≤ maxLen) (b1 : n1 ≤ maxLen) :
    Calls Try.prog 7 #[.slice A0 n0 c0, .slice A1 n1 c1, .agg #[.int .i64 x, .int .i64 y, .int .i64 z, .int .u64 (n64 k), .int .i64 x2, .int .i64 y2, .int .i64 z2, .int .u64 (n64 k2)]] w (BoolNew true w) := by
  unfold maxLen at b0 b1
  have hd0 : decide (200 < (n0 : Int)) = false := by simp; omega
  have hd1 : decide (200 < (n1 : Int)) = true := by simp; omega
  go_enter Try.func7, Try.ntmps7
  go_wp2_with fail
  refine (awake_ok _).mono ?_
  rintro e w4 ⟨rfl, h4⟩
  have H4 := Lib.hid h4
  clear h4
  go_wp2
  go_ret
  exact ⟨rfl, (Off.alloc (Off.refl _ _) _).also H4.out⟩
theorem prefixBlind_walk {w : World} {v0 v1 : Value} {n0 n1 : Nat} {X Y : List (BitVec 64)} (h0 : Rd w (Old w) 1 v0 n0 (u64s X)) (z0 : NilOk v0) (h1 : Rd w (Old w) 1 v1 n1 (u64s Y)) (z1 : NilOk v1)
    (l : List Value) (hl : l.length = 8) (hk : ∀ f j κ, kindAt Try.prog f 52 j = some κ → ∃ u, l[j]? = some u ∧ okV κ u) :
    Calls Try.prog 7 #[v0, v1, .agg l.toArray] w (BoolNew true w) := by
  obtain ⟨u0, e0, o0⟩ := hk 4 0 (some .i64) (by kernel_rfl)
  obtain ⟨u1, e1, o1⟩ := hk 4 1 (some .i64) (by kernel_rfl)
  obtain ⟨u2, e2, o2⟩ := hk 4 2 (some .i64) (by kernel_rfl)
  obtain ⟨u3, e3, o3⟩ := hk 4 3 (some .u64) (by kernel_rfl)
  obtain ⟨u4, e4, o4⟩ := hk 4 4 (some .i64) (by kernel_rfl)
  obtain ⟨u5, e5, o5⟩ := hk 4 5 (some .i64) (by kernel_rfl)
  obtain ⟨u6, e6, o6⟩ := hk 4 6 (some .i64) (by kernel_rfl)
  obtain ⟨u7, e7, o7⟩ := hk 4 7 (some .u64) (by kernel_rfl)
  obtain ⟨x, rfl, _⟩ := okV_i64 o0
  obtain ⟨y, rfl, _⟩ := okV_i64 o1
  obtain ⟨z, rfl, _⟩ := okV_i64 o2
  obtain ⟨k, rfl⟩ := okV_u64 o3
  obtain ⟨x2, rfl, _⟩ := okV_i64 o4
  obtain ⟨y2, rfl, _⟩ := okV_i64 o5
  obtain ⟨z2, rfl, _⟩ := okV_i64 o6
  obtain ⟨k2, rfl⟩ := okV_u64 o7
  match l, hl with
  | [a, b, c, d, e, f, g, h], _ =>
    simp at e0 e1 e2 e3 e4 e5 e6 e7
    subst e0 e1 e2 e3 e4 e5 e6 e7
    obtain ⟨A0, c0, rfl, m0, _⟩ := h0.form
    obtain ⟨A1, c1, rfl, m1, _⟩ := h1.form
    by_cases g0 : 200 < n0
    · exact blind_long0 _ _ _ _ _ _ _ _ _ _ _ _ _ _ g0 m0 m1
    by_cases g1 : 200 < n1
    · exact blind_long1 _ _ _ _ _ _ _ _ _ _ _ _ _ _ g0 g1 m0 m1
    exact blind_small A0 A1 n0 c0 n1 c1 X Y h0 h1 z0 z1 (by omega) (by omega) x y z x2 y2 z2 k k2

end Go.Proofs.Ytlbahocncbmjnaa
