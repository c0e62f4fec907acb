/-
  The walk of dragnetlaw10.CountersBlind.
-/
import Derived.Test.YtoobgfammippfaaDo10
import Derived.Test.YtoobgfammippfaaAwake10
import Derived.Test.YtoobgfammippfaaOpen
import Derived.Test.YtoobgfammippfaaTwin
import Derived.RegionTactic
import Derived.BigRegion
namespace Go.Proofs.Ytoobgfammippfaa
open Go.RowKit Go.ChangeShapes Go.WideShapes Go.ChangeAt
attribute [local go_sem] bits_and_u64 bits_or_u64 bits_xor_u64 bits_andNot_u64 wrap_u64 bv_add bv_neg bv_sub bv_mul
set_option linter.unusedVariables false
set_option maxRecDepth 100000
attribute [local go_sem ↓] run_max_nat
/-- The errors and the steps do not depend on the cells. -/
def chE (n nE : Nat) (x : Int) (s : Nat) : Int := if 0 ≤ x ∧ x < n then if nE + s ≤ 8388608 then 0 else 3 else 7
def chV (n : Nat) (E : List Ev) (x : Int) : List Ev := if 0 ≤ x ∧ x < n then if E.length + 2 ≤ 8388608 then E ++ [(1, x.toNat), (2, x.toNat)] else E else E
def abV (n : Nat) (E : List Ev) (x : Int) : List Ev := if 0 ≤ x ∧ x < n then if E.length + 1 ≤ 8388608 then E ++ [(1, x.toNat)] else E else E
theorem chRes_blind (C : List (BitVec 64)) (E : List Ev) (x : Int) (g : BitVec 64 → BitVec 64) : (chRes C E x g).1.2 = chE C.length E.length x 2 ∧ (chRes C E x g).2.2 = chV C.length E x ∧ (chRes C E x g).2.1.length = C.length := by
  unfold chRes chE chV
  split
  · split <;> simp
  · simp
theorem abRes_blind (C : List (BitVec 64)) (E : List Ev) (x : Int) (k : BitVec 64) : (abRes C E x k).1.2 = chE C.length E.length x 1 ∧ (abRes C E x k).2.2 = abV C.length E x ∧ (abRes C E x k).2.1.length = C.length := by
  unfold abRes chE abV
  split
  · split <;> simp
  · simp
theorem isM_ofM (a : BitVec 64) : isM (ofM a) = true := by unfold ofM; exact isM_msk _
section
variable {w : World} {F : Nat → Prop} {p n : Nat} {C : List (BitVec 64)} {E : List Ev}
theorem count_bl (hl : C.length = n) (h : Ar w F p C E) (x : Int) (m k : BitVec 64) :
    Calls Try.prog 22 #[.pointer (some ⟨p, 0, none⟩), .int .i64 x, .int .u64 (n64 (ofM m)), .int .u64 (n64 k)] w fun e w' => e = .returned (.int .i64 (chE n E.length x 2)) ∧ ∃ C2, C2.length = n ∧ ArTo w F p C2 (chV n E x) w' := by
  subst hl
  obtain ⟨h1, h2, h3⟩ := chRes_blind C E x (fun v => sumM v (ofM m &&& 1#64) k)
  refine (count_any h x (ofM m) k (isM_ofM m)).mono fun e w' ⟨he, ha⟩ => ⟨by rw [he, h1], _, h3, by rw [← h2]; exact ha⟩
theorem plus_bl (hl : C.length = n) (h : Ar w F p C E) (x : Int) (m k : BitVec 64) :
    Calls Try.prog 23 #[.pointer (some ⟨p, 0, none⟩), .int .i64 x, .int .u64 (n64 m), .int .u64 (n64 k)] w fun e w' => e = .returned (.int .i64 (chE n E.length x 2)) ∧ ∃ C2, C2.length = n ∧ ArTo w F p C2 (chV n E x) w' := by
  subst hl
  obtain ⟨h1, h2, h3⟩ := chRes_blind C E x (fun v => sumM v m k)
  refine (plusA_any h x m k).mono fun e w' ⟨he, ha⟩ => ⟨by rw [he, h1], _, h3, by rw [← h2]; exact ha⟩
theorem stick_bl (hl : C.length = n) (h : Ar w F p C E) (x : Int) (m : BitVec 64) :
    Calls Try.prog 18 #[.pointer (some ⟨p, 0, none⟩), .int .i64 x, .int .u64 (n64 (ofM m))] w fun e w' => e = .returned (.int .i64 (chE n E.length x 2)) ∧ ∃ C2, C2.length = n ∧ ArTo w F p C2 (chV n E x) w' := by
  subst hl
  obtain ⟨h1, h2, h3⟩ := chRes_blind C E x (fun v => v ||| ofM m)
  refine (stick_any h x (ofM m) (isM_ofM m)).mono fun e w' ⟨he, ha⟩ => ⟨by rw [he, h1], _, h3, by rw [← h2]; exact ha⟩
theorem take_bl (hl : C.length = n) (h : Ar w F p C E) (x : Int) :
    Calls Try.prog 21 #[.pointer (some ⟨p, 0, none⟩), .int .i64 x] w fun e w' => (∃ v, e = .returned (.tuple #[.int .u64 v, .int .i64 (chE n E.length x 2)])) ∧ ∃ C2, C2.length = n ∧ ArTo w F p C2 (chV n E x) w' := by
  subst hl
  obtain ⟨h1, h2, h3⟩ := chRes_blind C E x (fun _ => 0)
  refine (take_any h x).mono fun e w' ⟨he, ha⟩ => ⟨⟨_, he.trans (by rw [h1])⟩, _, h3, by rw [← h2]; exact ha⟩
theorem above_bl (hl : C.length = n) (h : Ar w F p C E) (x : Int) (k : BitVec 64) :
    Calls Try.prog 25 #[.pointer (some ⟨p, 0, none⟩), .int .i64 x, .int .u64 (n64 k)] w fun e w' => (∃ v, e = .returned (.tuple #[.int .u64 v, .int .i64 (chE n E.length x 1)])) ∧ ∃ C2, C2.length = n ∧ ArTo w F p C2 (abV n E x) w' := by
  subst hl
  obtain ⟨h1, h2, h3⟩ := abRes_blind C E x k
  refine (above_any h x k).mono fun e w' ⟨he, ha⟩ => ⟨⟨_, he.trans (by rw [h1])⟩, _, h3, by rw [← h2]; exact ha⟩
end
/-- The cells of the two calls. -/
theorem blind_cells {w0 w : World} {bs : Bks} {p q n bc bd : Nat} {E E' : List Ev} {x x2 : Int} {m k m2 k2 : BitVec 64} {t : TypeId} (h : TwinL w0 w ((bc, t, #[.int .i64 x, .int .u64 (n64 m), .int .u64 (n64 k)]) :: (bd, t, #[.int .i64 x2, .int .u64 (n64 m2), .int .u64 (n64 k2)]) :: bs) p q n E E') :
    w.cell? ⟨bc, 0, none⟩ = some (.int .i64 x) ∧ w.cell? ⟨bc, 1, none⟩ = some (.int .u64 (n64 m)) ∧ w.cell? ⟨bc, 2, none⟩ = some (.int .u64 (n64 k)) ∧ w.cell? ⟨bd, 1, none⟩ = some (.int .u64 (n64 m2)) ∧ w.cell? ⟨bd, 2, none⟩ = some (.int .u64 (n64 k2)) := by
  have h1 := h.blk (List.mem_cons_self ..)
  have h2 := h.blk (List.mem_cons_of_mem _ (List.mem_cons_self ..))
  exact ⟨h1.cell 0, h1.cell 1, h1.cell 2, h2.cell 1, h2.cell 2⟩
theorem Twin.reorder {w0 w : World} {a b : Nat × TypeId × Array Value} {bs : Bks} {p q : Nat} {C C' : List (BitVec 64)} {E E' : List Ev} (h : Twin w0 w (a :: b :: bs) p q C E C' E') : Twin w0 w (b :: a :: bs) p q C E C' E' := by
  obtain ⟨F, R, ha, hr, ho, hf, hg, hd, hb⟩ := h
  refine ⟨F, R, ha, hr, ho, hf, hg, hd, fun x hx => hb x ?_⟩
  simp at hx ⊢
  rcases hx with h | h | h
  · exact .inr (.inl h)
  · exact .inl h
  · exact .inr (.inr h)
set_option maxHeartbeats 16000000 in
theorem blind_small {w : World} (A0 A1 : Option Addr) (n0 c0 n1 c1 : Nat) (X Y : List (BitVec 64)) (h0 : Rd w (Old w) 1 (.slice A0 n0 c0) n0 (u64s X)) (h1 : Rd w (Old w) 1 (.slice A1 n1 c1) n1 (u64s Y)) (z0 : NilOk (.slice A0 n0 c0)) (z1 : NilOk (.slice A1 n1 c1)) (hn0 : n0 ≤ 200) (hn1 : n1 ≤ 200) (x x2 : Int) (m k m2 k2 : BitVec 64) :
    Calls Try.prog 9 #[.slice A0 n0 c0, .slice A1 n1 c1, .agg #[.int .i64 x, .int .u64 (n64 m), .int .u64 (n64 k), .int .i64 x2, .int .u64 (n64 m2), .int .u64 (n64 k2)]] w (BoolNew true w) := by
  obtain ⟨i0, hi, hz0, hz1, hz2⟩ := info_parts Try.infoU
  have hl0 : X.length = n0 := by obtain ⟨_, _, _, _, hl, _⟩ := h0; rw [length_u64s] at hl; omega
  have hl1 : Y.length = n1 := by obtain ⟨_, _, _, _, hl, _⟩ := h1; rw [length_u64s] at hl; omega
  obtain ⟨hge0, hge1, hle⟩ := mxN_ge n0 n1
  have H0 := Lib.hid h0
  have H1 := Lib.hid h1
  have Z0 := Lib.hid z0
  have Z1 := Lib.hid z1
  have L0 := Lib.hid hl0
  have L1 := Lib.hid hl1
  have hd0 : decide (200 < (n0 : Int)) = false := by simp; omega
  have hd1 : decide (200 < (n1 : Int)) = false := by simp; omega
  clear h0 h1 z0 z1 hl0 hl1

  go_enter Try.func9, Try.ntmps9
  go_wp2_with (at_builtin; refine wpList_append_rd rfl _ _ 32 rfl (w.heap.size + 1) 22 i0 (.int .u64 0) 1 8 Try.underlying32 hi hz0 hz1 hz2 rfl (by decide) (w.heap.size + 1) 0 0 [] rfl ?c0 (.slice A0 n0 c0) n0 (u64s X) rfl (F := Old w) ?c1 Z0.out (u64s_one' X) ?c3 ?c4 ?c5 ?_)
  case c0 => simpa using World.ownsRow_made (w.alloc (.cells #[.int .i64 x, .int .u64 (n64 m), .int .u64 (n64 k), .int .i64 x2, .int .u64 (n64 m2), .int .u64 (n64 k2)] 56)) #[] 0 (Nat.le_refl _) (Nat.zero_le _) rfl
  case c1 => exact H0.out.keep (Off.alloc (Off.alloc (Off.refl Nob w) _) _) (fun _ _ h => h)
  case c3 => unfold maxLen; omega
  case c4 => omega
  case c5 => simp
  intro g1 cap1 w1 ho1 hg1 ha1
  have O1 : Hid (Off Nob (w.alloc (.cells #[.int .i64 x, .int .u64 (n64 m), .int .u64 (n64 k), .int .i64 x2, .int .u64 (n64 m2), .int .u64 (n64 k2)] 56)) w1) := Off.grown (Off.alloc (Off.refl _ _) _) hg1 (fun k hk => .inr (by injection hk with hk; simp; omega))
  have W1 := Lib.hid ho1
  clear hg1 ha1 ho1
  go_wp2_with (at_builtin; refine wpList_append_zeros rfl _ _ 32 3 rfl (w.heap.size + 1) 22 i0 (.int .u64 0) 8 .i64 .i64 Try.underlying32 Try.underlying3 hi hz0 hz1 hz2 rfl rfl g1 n0 cap1 (u64s X) rfl W1.out (mxN n0 n1 - n0) (mxN n0 n1) ?d0 ?d1 ?d2 ?d3 ?d4 ?_)
  case d0 => omega
  case d1 => exact congrArg (Value.int .i64) (by omega)
  case d2 => unfold maxLen; omega
  case d3 => omega
  case d4 => have := O1.out.size; simp at this; omega
  intro g2 cap2 w2 ho2 hg2 ha2
  have O2 : Hid (Off Nob (w.alloc (.cells #[.int .i64 x, .int .u64 (n64 m), .int .u64 (n64 k), .int .i64 x2, .int .u64 (n64 m2), .int .u64 (n64 k2)] 56)) w2) := Off.grown O1.out hg2 (fun k hk => .inr (by injection hk with hk; subst hk; have := (W1.out.lt g1 rfl).1; simp; omega))
  have W2 : Hid (Rd w2 (fun k => w.heap.size + 1 ≤ k ∧ k < w2.heap.size) 1 (.slice (some ⟨g2, 0, none⟩) (mxN n0 n1) cap2) (mxN n0 n1) (u64s (padTo X (mxN n0 n1)))) := by
    have := Rd.own ho2 (F := fun k => w.heap.size + 1 ≤ k ∧ k < w2.heap.size) (fun k hk => ho2.lt k hk)
    rw [u64s_zeros] at this
    unfold padTo
    rw [L0.out]
    exact this
  clear hg2 ha2 ho2 W1 O1
  go_wp2_with fail
  refine (arena_any W2.out (by rw [padTo_length _ _ (by have := L0.out; omega)]; omega)).mono ?_
  rintro e w3 h3
  obtain ⟨p, r, rfl, k3⟩ := h3.one (w0 := w) (bs := [(w.heap.size, 56, #[.int .i64 x, .int .u64 (n64 m), .int .u64 (n64 k), .int .i64 x2, .int .u64 (n64 m2), .int .u64 (n64 k2)])]) ((Off.alloc (Off.refl _ _) _).also O2.out) (fun x hx => by
    rw [List.mem_singleton] at hx
    subst hx
    exact (Blk.new _ _ _).to (O2.out.block _ (by simp) (fun h => h)))
  rw [padTo_length _ _ (by have := L0.out; omega)] at k3
  have H3 := Lib.hid k3
  clear h3 k3 W2 O2
  go_wp2_with (at_builtin; refine wpList_append_rd rfl _ _ 32 rfl w3.heap.size 22 i0 (.int .u64 0) 1 8 Try.underlying32 hi hz0 hz1 hz2 rfl (by decide) w3.heap.size 0 0 [] rfl ?c0 (.slice A1 n1 c1) n1 (u64s Y) rfl (F := Old w) ?c1 Z1.out (u64s_one' Y) ?c3 ?c4 ?c5 ?_)
  case c0 => exact World.ownsRow_made w3 #[] 0 (Nat.le_refl _) (Nat.zero_le _) rfl
  case c1 => exact H1.out.keep (Off.alloc H3.out.old _) (fun _ _ h => h)
  case c3 => unfold maxLen; omega
  case c4 => omega
  case c5 => simp
  intro g3 cap3 w4 ho3 hg3 ha3
  have O3 : Hid (Off Nob w3 w4) := Off.grown (Off.alloc (Off.refl _ _) _) hg3 (fun k hk => .inr (by injection hk with hk; omega))
  have W3 := Lib.hid ho3
  clear hg3 ha3 ho3
  go_wp2_with (at_builtin; refine wpList_append_zeros rfl _ _ 32 3 rfl w3.heap.size 22 i0 (.int .u64 0) 8 .i64 .i64 Try.underlying32 Try.underlying3 hi hz0 hz1 hz2 rfl rfl g3 n1 cap3 (u64s Y) rfl W3.out (mxN n0 n1 - n1) (mxN n0 n1) ?d0 ?d1 ?d2 ?d3 ?d4 ?_)
  case d0 => omega
  case d1 => exact congrArg (Value.int .i64) (by omega)
  case d2 => unfold maxLen; omega
  case d3 => omega
  case d4 => exact O3.out.size
  intro g4 cap4 w5 ho4 hg4 ha4
  have O4 : Hid (Off Nob w3 w5) := Off.grown O3.out hg4 (fun k hk => .inr (by injection hk with hk; subst hk; exact (W3.out.lt g3 rfl).1))
  have W4 : Hid (Rd w5 (fun k => w3.heap.size ≤ k ∧ k < w5.heap.size) 1 (.slice (some ⟨g4, 0, none⟩) (mxN n0 n1) cap4) (mxN n0 n1) (u64s (padTo Y (mxN n0 n1)))) := by
    have := Rd.own ho4 (F := fun k => w3.heap.size ≤ k ∧ k < w5.heap.size) (fun k hk => ho4.lt k hk)
    rw [u64s_zeros] at this
    unfold padTo
    rw [L1.out]
    exact this
  clear hg4 ha4 ho4 W3 O3
  go_wp2_with fail
  refine (arena_any W4.out (by rw [padTo_length _ _ (by have := L1.out; omega)]; omega)).mono ?_
  rintro e w6 h6
  obtain ⟨q, r2, rfl, k6⟩ := (H3.out.off O4.out).two h6
  rw [padTo_length _ _ (by have := L1.out; omega)] at k6
  have TW := Lib.hid k6
  have PX : Hid ((pad (padTo X (mxN n0 n1))).length = max (mxN n0 n1) 1) := Lib.hid (by rw [pad_length, padTo_length _ _ (by have := L0.out; omega)])
  have PY : Hid ((pad (padTo Y (mxN n0 n1))).length = max (mxN n0 n1) 1) := Lib.hid (by rw [pad_length, padTo_length _ _ (by have := L1.out; omega)])
  clear h6 k6 W4 O4 H3 H0 H1 Z0 Z1 L0 L1
  revert TW PX PY
  generalize pad (padTo X (mxN n0 n1)) = CX
  generalize pad (padTo Y (mxN n0 n1)) = CY
  intro TW PX PY
  have hN200 : mxN n0 n1 ≤ 200 := by omega
  clear hge0 hge1 hle hn0 hn1 hd0 hd1 hi hz0 hz1 hz2
  revert TW PX PY hN200
  generalize mxN n0 n1 = N
  intro TW PX PY hN200

  have hB := TW.out.blk (List.mem_cons_self ..)
  have b0 := hB.cell 0
  have b1 := hB.cell 1
  have b2 := hB.cell 2
  have b3 := hB.cell 3
  have b4 := hB.cell 4
  have b5 := hB.cell 5
  have hblt := hB.lt
  simp only [List.getElem?_toArray, List.getElem?_cons_succ, List.getElem?_cons_zero] at b0 b1 b2 b3 b4 b5
  clear hB
  go_wp2_with fail
  go_region
  all_goals
    go_wp2_with fail
  · have T1 : Hid (TwinL w ((w6.alloc (.cells #[.int .i64 x, .int .u64 (n64 m), .int .u64 (n64 k)] 53)).alloc (.cells #[.int .i64 x2, .int .u64 (n64 m2), .int .u64 (n64 k2)] 53)).drew ((w6.heap.size, 53, #[.int .i64 x, .int .u64 (n64 m), .int .u64 (n64 k)]) :: (w6.heap.size + 1, 53, #[.int .i64 x2, .int .u64 (n64 m2), .int .u64 (n64 k2)]) :: [(w.heap.size, 56, #[.int .i64 x, .int .u64 (n64 m), .int .u64 (n64 k), .int .i64 x2, .int .u64 (n64 m2), .int .u64 (n64 k2)])]) p q (max N 1) (stores N) (stores N)) :=
      ⟨_, _, PX.out, PY.out, by simpa using (((TW.out.push 53 #[.int .i64 x, .int .u64 (n64 m), .int .u64 (n64 k)]).push 53 #[.int .i64 x2, .int .u64 (n64 m2), .int .u64 (n64 k2)]).off (Off.drew (Off.refl _ _))).reorder⟩
    clear b0 b1 b2 b3 b4 b5 hblt TW PX PY
    revert T1
    generalize ((w6.alloc (.cells #[.int .i64 x, .int .u64 (n64 m), .int .u64 (n64 k)] 53)).alloc (.cells #[.int .i64 x2, .int .u64 (n64 m2), .int .u64 (n64 k2)] 53)).drew = W
    generalize w6.heap.size + 1 = bd
    generalize w6.heap.size = bc
    intro T1
    generalize max N 1 = n at *
    have hk := blind_cells T1.out
    go_region_held3 (fun w' => w'.cell? ⟨bc, 0, none⟩ = some (.int .i64 x) ∧ w'.cell? ⟨bc, 1, none⟩ = some (.int .u64 (n64 m)) ∧ w'.cell? ⟨bc, 2, none⟩ = some (.int .u64 (n64 k)) ∧ w'.cell? ⟨bd, 1, none⟩ = some (.int .u64 (n64 m2)) ∧ w'.cell? ⟨bd, 2, none⟩ = some (.int .u64 (n64 k2)))
      (first | assumption | go_keep)
      (first | (go_at_call 28; refine (rof_any _ _).mono ?_; rintro e w' ⟨rfl, rfl⟩))
    go_wp2_with fail
    have hk2 : W.cell? ⟨bc, 0, none⟩ = some (.int .i64 x) ∧ W.cell? ⟨bc, 1, none⟩ = some (.int .u64 (n64 m)) ∧ W.cell? ⟨bc, 2, none⟩ = some (.int .u64 (n64 k)) ∧ W.cell? ⟨bd, 1, none⟩ = some (.int .u64 (n64 m2)) ∧ W.cell? ⟨bd, 2, none⟩ = some (.int .u64 (n64 k2)) := hk
    clear hk
    go_region_held3 (fun w' => w'.cell? ⟨bc, 0, none⟩ = some (.int .i64 x) ∧ w'.cell? ⟨bc, 1, none⟩ = some (.int .u64 (n64 m)) ∧ w'.cell? ⟨bc, 2, none⟩ = some (.int .u64 (n64 k)) ∧ w'.cell? ⟨bd, 1, none⟩ = some (.int .u64 (n64 m2)) ∧ w'.cell? ⟨bd, 2, none⟩ = some (.int .u64 (n64 k2)))
      (first | assumption | go_keep)
      (first
        | (go_at_call_of 22 (Value.pointer (some ⟨p, 0, none⟩)); refine (TwinL.first (T1.out.off (by first | exact Off.refl _ _ | exact Off.drew (Off.refl _ _) | exact Off.drewN (Off.refl _ _) _ | exact Off.drew (Off.drew (Off.refl _ _)) | exact Off.drew (Off.drewN (Off.refl _ _) _) | exact Off.drew (Off.drew (Off.drew (Off.refl _ _))))) (fun C w F hl h => count_bl hl h x m k)).mono ?_; rintro e u1 ⟨rfl, hu1⟩; have ku1 := blind_cells hu1; have U1 := Lib.hid hu1; clear hu1)
        | (go_at_call_of 22 (Value.pointer (some ⟨q, 0, none⟩)); refine (TwinL.second (U1.out.off (by first | exact Off.refl _ _ | exact Off.drew (Off.refl _ _) | exact Off.drewN (Off.refl _ _) _ | exact Off.drew (Off.drew (Off.refl _ _)) | exact Off.drew (Off.drewN (Off.refl _ _) _) | exact Off.drew (Off.drew (Off.drew (Off.refl _ _))))) (fun C w F hl h => count_bl hl h x m2 k2)).mono ?_; rintro e u2 ⟨rfl, hu2⟩; have ku2 := blind_cells hu2; have U2 := Lib.hid hu2; clear hu2)
        | (go_at_call_of 23 (Value.pointer (some ⟨p, 0, none⟩)); refine (TwinL.first (U2.out.off (by first | exact Off.refl _ _ | exact Off.drew (Off.refl _ _) | exact Off.drewN (Off.refl _ _) _ | exact Off.drew (Off.drew (Off.refl _ _)) | exact Off.drew (Off.drewN (Off.refl _ _) _) | exact Off.drew (Off.drew (Off.drew (Off.refl _ _))))) (fun C w F hl h => plus_bl hl h x m k)).mono ?_; rintro e u3 ⟨rfl, hu3⟩; have ku3 := blind_cells hu3; have U3 := Lib.hid hu3; clear hu3)
        | (go_at_call_of 23 (Value.pointer (some ⟨q, 0, none⟩)); refine (TwinL.second (U3.out.off (by first | exact Off.refl _ _ | exact Off.drew (Off.refl _ _) | exact Off.drewN (Off.refl _ _) _ | exact Off.drew (Off.drew (Off.refl _ _)) | exact Off.drew (Off.drewN (Off.refl _ _) _) | exact Off.drew (Off.drew (Off.drew (Off.refl _ _))))) (fun C w F hl h => plus_bl hl h x m2 k2)).mono ?_; rintro e u4 ⟨rfl, hu4⟩; have ku4 := blind_cells hu4; have U4 := Lib.hid hu4; clear hu4)
        | (go_at_call_of 18 (Value.pointer (some ⟨p, 0, none⟩)); refine (TwinL.first (U4.out.off (by first | exact Off.refl _ _ | exact Off.drew (Off.refl _ _) | exact Off.drewN (Off.refl _ _) _ | exact Off.drew (Off.drew (Off.refl _ _)) | exact Off.drew (Off.drewN (Off.refl _ _) _) | exact Off.drew (Off.drew (Off.drew (Off.refl _ _))))) (fun C w F hl h => stick_bl hl h x m)).mono ?_; rintro e u5 ⟨rfl, hu5⟩; have ku5 := blind_cells hu5; have U5 := Lib.hid hu5; clear hu5)
        | (go_at_call_of 18 (Value.pointer (some ⟨q, 0, none⟩)); refine (TwinL.second (U5.out.off (by first | exact Off.refl _ _ | exact Off.drew (Off.refl _ _) | exact Off.drewN (Off.refl _ _) _ | exact Off.drew (Off.drew (Off.refl _ _)) | exact Off.drew (Off.drewN (Off.refl _ _) _) | exact Off.drew (Off.drew (Off.drew (Off.refl _ _))))) (fun C w F hl h => stick_bl hl h x m2)).mono ?_; rintro e u6 ⟨rfl, hu6⟩; have ku6 := blind_cells hu6; have U6 := Lib.hid hu6; clear hu6))
    clear hk2 ku1 ku2 ku3 ku4 ku5
    go_wp2_with fail
    refine (TwinL.first U6.out (fun C w F hl h => above_bl hl h x m)).mono ?_
    rintro e u7 ⟨⟨v7, rfl⟩, hu7⟩
    have ku7 := blind_cells hu7
    have U7 := Lib.hid hu7
    clear hu7 ku6
    go_wp2_with fail
    refine (TwinL.second U7.out (fun C w F hl h => above_bl hl h x m2)).mono ?_
    rintro e u8 ⟨⟨v8, rfl⟩, hu8⟩
    have ku8 := blind_cells hu8
    have U8 := Lib.hid hu8
    clear hu8 ku7
    go_wp2_with fail
    refine (TwinL.first U8.out (fun C w F hl h => take_bl hl h x)).mono ?_
    rintro e u9 ⟨⟨v9, rfl⟩, hu9⟩
    have ku9 := blind_cells hu9
    have U9 := Lib.hid hu9
    clear hu9 ku8
    go_wp2_with fail
    refine (TwinL.second U9.out (fun C w F hl h => take_bl hl h x)).mono ?_
    rintro e u10 ⟨⟨v10, rfl⟩, hu10⟩
    have U10 := Lib.hid hu10
    clear hu10 ku9
    go_wp2_with fail
    obtain ⟨CP, FP, hp⟩ := U10.out.ar1
    have HP := Lib.hid (events_ok hp)
    clear hp
    refine HP.out.mono ?_
    rintro e v1 ⟨l1, rfl, hl1, o1⟩
    have V1 := Lib.hid (NewE.rd hl1)
    have T3 := Lib.hid (U10.out.off o1)
    clear hl1 o1 HP
    go_wp2_with fail
    obtain ⟨CQ, FQ, hq⟩ := T3.out.ar2
    have HQ := Lib.hid (events_ok hq)
    clear hq
    refine HQ.out.mono ?_
    rintro e v2 ⟨l2, rfl, hl2, o2⟩
    have V2 := Lib.hid (V1.out.keep o2 (fun _ _ h => h))
    have V3 := Lib.hid (NewE.rd hl2)
    have T4 := Lib.hid (T3.out.off o2)
    clear hl2 o2 HQ V1
    go_wp2_with fail
    refine (sameEv V2.out V3.out).mono ?_
    rintro e v3 ⟨rfl, o3⟩
    have O3 := Lib.hid (T4.out.old.also o3)
    clear o3 V2 V3
    go_wp2_with fail
    refine (awake_ok _).mono ?_
    rintro e v4 ⟨rfl, o4⟩
    have O4 := Lib.hid (O3.out.also o4)
    clear o4
    go_wp2
    go_ret
    exact ⟨ret_bool (by simp), O4.out⟩
  · have T1 : Hid (TwinL w ((w6.alloc (.cells #[.int .i64 x2, .int .u64 (n64 m2), .int .u64 (n64 k2)] 53)).alloc (.cells #[.int .i64 x, .int .u64 (n64 m), .int .u64 (n64 k)] 53)).drew ((w6.heap.size + 1, 53, #[.int .i64 x, .int .u64 (n64 m), .int .u64 (n64 k)]) :: (w6.heap.size, 53, #[.int .i64 x2, .int .u64 (n64 m2), .int .u64 (n64 k2)]) :: [(w.heap.size, 56, #[.int .i64 x, .int .u64 (n64 m), .int .u64 (n64 k), .int .i64 x2, .int .u64 (n64 m2), .int .u64 (n64 k2)])]) p q (max N 1) (stores N) (stores N)) :=
      ⟨_, _, PX.out, PY.out, by simpa using ((TW.out.push 53 #[.int .i64 x2, .int .u64 (n64 m2), .int .u64 (n64 k2)]).push 53 #[.int .i64 x, .int .u64 (n64 m), .int .u64 (n64 k)]).off (Off.drew (Off.refl _ _))⟩
    clear b0 b1 b2 b3 b4 b5 hblt TW PX PY
    revert T1
    generalize ((w6.alloc (.cells #[.int .i64 x2, .int .u64 (n64 m2), .int .u64 (n64 k2)] 53)).alloc (.cells #[.int .i64 x, .int .u64 (n64 m), .int .u64 (n64 k)] 53)).drew = W
    generalize w6.heap.size + 1 = bc
    generalize w6.heap.size = bd
    intro T1
    generalize max N 1 = n at *
    have hk := blind_cells T1.out
    go_region_held3 (fun w' => w'.cell? ⟨bc, 0, none⟩ = some (.int .i64 x) ∧ w'.cell? ⟨bc, 1, none⟩ = some (.int .u64 (n64 m)) ∧ w'.cell? ⟨bc, 2, none⟩ = some (.int .u64 (n64 k)) ∧ w'.cell? ⟨bd, 1, none⟩ = some (.int .u64 (n64 m2)) ∧ w'.cell? ⟨bd, 2, none⟩ = some (.int .u64 (n64 k2)))
      (first | assumption | go_keep)
      (first | (go_at_call 28; refine (rof_any _ _).mono ?_; rintro e w' ⟨rfl, rfl⟩))
    go_wp2_with fail
    have hk2 : W.cell? ⟨bc, 0, none⟩ = some (.int .i64 x) ∧ W.cell? ⟨bc, 1, none⟩ = some (.int .u64 (n64 m)) ∧ W.cell? ⟨bc, 2, none⟩ = some (.int .u64 (n64 k)) ∧ W.cell? ⟨bd, 1, none⟩ = some (.int .u64 (n64 m2)) ∧ W.cell? ⟨bd, 2, none⟩ = some (.int .u64 (n64 k2)) := hk
    clear hk
    go_region_held3 (fun w' => w'.cell? ⟨bc, 0, none⟩ = some (.int .i64 x) ∧ w'.cell? ⟨bc, 1, none⟩ = some (.int .u64 (n64 m)) ∧ w'.cell? ⟨bc, 2, none⟩ = some (.int .u64 (n64 k)) ∧ w'.cell? ⟨bd, 1, none⟩ = some (.int .u64 (n64 m2)) ∧ w'.cell? ⟨bd, 2, none⟩ = some (.int .u64 (n64 k2)))
      (first | assumption | go_keep)
      (first
        | (go_at_call_of 22 (Value.pointer (some ⟨p, 0, none⟩)); refine (TwinL.first (T1.out.off (by first | exact Off.refl _ _ | exact Off.drew (Off.refl _ _) | exact Off.drewN (Off.refl _ _) _ | exact Off.drew (Off.drew (Off.refl _ _)) | exact Off.drew (Off.drewN (Off.refl _ _) _) | exact Off.drew (Off.drew (Off.drew (Off.refl _ _))))) (fun C w F hl h => count_bl hl h x m k)).mono ?_; rintro e u1 ⟨rfl, hu1⟩; have ku1 := blind_cells hu1; have U1 := Lib.hid hu1; clear hu1)
        | (go_at_call_of 22 (Value.pointer (some ⟨q, 0, none⟩)); refine (TwinL.second (U1.out.off (by first | exact Off.refl _ _ | exact Off.drew (Off.refl _ _) | exact Off.drewN (Off.refl _ _) _ | exact Off.drew (Off.drew (Off.refl _ _)) | exact Off.drew (Off.drewN (Off.refl _ _) _) | exact Off.drew (Off.drew (Off.drew (Off.refl _ _))))) (fun C w F hl h => count_bl hl h x m2 k2)).mono ?_; rintro e u2 ⟨rfl, hu2⟩; have ku2 := blind_cells hu2; have U2 := Lib.hid hu2; clear hu2)
        | (go_at_call_of 23 (Value.pointer (some ⟨p, 0, none⟩)); refine (TwinL.first (U2.out.off (by first | exact Off.refl _ _ | exact Off.drew (Off.refl _ _) | exact Off.drewN (Off.refl _ _) _ | exact Off.drew (Off.drew (Off.refl _ _)) | exact Off.drew (Off.drewN (Off.refl _ _) _) | exact Off.drew (Off.drew (Off.drew (Off.refl _ _))))) (fun C w F hl h => plus_bl hl h x m k)).mono ?_; rintro e u3 ⟨rfl, hu3⟩; have ku3 := blind_cells hu3; have U3 := Lib.hid hu3; clear hu3)
        | (go_at_call_of 23 (Value.pointer (some ⟨q, 0, none⟩)); refine (TwinL.second (U3.out.off (by first | exact Off.refl _ _ | exact Off.drew (Off.refl _ _) | exact Off.drewN (Off.refl _ _) _ | exact Off.drew (Off.drew (Off.refl _ _)) | exact Off.drew (Off.drewN (Off.refl _ _) _) | exact Off.drew (Off.drew (Off.drew (Off.refl _ _))))) (fun C w F hl h => plus_bl hl h x m2 k2)).mono ?_; rintro e u4 ⟨rfl, hu4⟩; have ku4 := blind_cells hu4; have U4 := Lib.hid hu4; clear hu4)
        | (go_at_call_of 18 (Value.pointer (some ⟨p, 0, none⟩)); refine (TwinL.first (U4.out.off (by first | exact Off.refl _ _ | exact Off.drew (Off.refl _ _) | exact Off.drewN (Off.refl _ _) _ | exact Off.drew (Off.drew (Off.refl _ _)) | exact Off.drew (Off.drewN (Off.refl _ _) _) | exact Off.drew (Off.drew (Off.drew (Off.refl _ _))))) (fun C w F hl h => stick_bl hl h x m)).mono ?_; rintro e u5 ⟨rfl, hu5⟩; have ku5 := blind_cells hu5; have U5 := Lib.hid hu5; clear hu5)
        | (go_at_call_of 18 (Value.pointer (some ⟨q, 0, none⟩)); refine (TwinL.second (U5.out.off (by first | exact Off.refl _ _ | exact Off.drew (Off.refl _ _) | exact Off.drewN (Off.refl _ _) _ | exact Off.drew (Off.drew (Off.refl _ _)) | exact Off.drew (Off.drewN (Off.refl _ _) _) | exact Off.drew (Off.drew (Off.drew (Off.refl _ _))))) (fun C w F hl h => stick_bl hl h x m2)).mono ?_; rintro e u6 ⟨rfl, hu6⟩; have ku6 := blind_cells hu6; have U6 := Lib.hid hu6; clear hu6))
    clear hk2 ku1 ku2 ku3 ku4 ku5
    go_wp2_with fail
    refine (TwinL.first U6.out (fun C w F hl h => above_bl hl h x m)).mono ?_
    rintro e u7 ⟨⟨v7, rfl⟩, hu7⟩
    have ku7 := blind_cells hu7
    have U7 := Lib.hid hu7
    clear hu7 ku6
    go_wp2_with fail
    refine (TwinL.second U7.out (fun C w F hl h => above_bl hl h x m2)).mono ?_
    rintro e u8 ⟨⟨v8, rfl⟩, hu8⟩
    have ku8 := blind_cells hu8
    have U8 := Lib.hid hu8
    clear hu8 ku7
    go_wp2_with fail
    refine (TwinL.first U8.out (fun C w F hl h => take_bl hl h x)).mono ?_
    rintro e u9 ⟨⟨v9, rfl⟩, hu9⟩
    have ku9 := blind_cells hu9
    have U9 := Lib.hid hu9
    clear hu9 ku8
    go_wp2_with fail
    refine (TwinL.second U9.out (fun C w F hl h => take_bl hl h x)).mono ?_
    rintro e u10 ⟨⟨v10, rfl⟩, hu10⟩
    have U10 := Lib.hid hu10
    clear hu10 ku9
    go_wp2_with fail
    obtain ⟨CP, FP, hp⟩ := U10.out.ar1
    have HP := Lib.hid (events_ok hp)
    clear hp
    refine HP.out.mono ?_
    rintro e v1 ⟨l1, rfl, hl1, o1⟩
    have V1 := Lib.hid (NewE.rd hl1)
    have T3 := Lib.hid (U10.out.off o1)
    clear hl1 o1 HP
    go_wp2_with fail
    obtain ⟨CQ, FQ, hq⟩ := T3.out.ar2
    have HQ := Lib.hid (events_ok hq)
    clear hq
    refine HQ.out.mono ?_
    rintro e v2 ⟨l2, rfl, hl2, o2⟩
    have V2 := Lib.hid (V1.out.keep o2 (fun _ _ h => h))
    have V3 := Lib.hid (NewE.rd hl2)
    have T4 := Lib.hid (T3.out.off o2)
    clear hl2 o2 HQ V1
    go_wp2_with fail
    refine (sameEv V2.out V3.out).mono ?_
    rintro e v3 ⟨rfl, o3⟩
    have O3 := Lib.hid (T4.out.old.also o3)
    clear o3 V2 V3
    go_wp2_with fail
    refine (awake_ok _).mono ?_
    rintro e v4 ⟨rfl, o4⟩
    have O4 := Lib.hid (O3.out.also o4)
    clear o4
    go_wp2
    go_ret
    exact ⟨ret_bool (by simp), O4.out⟩
theorem blind_long0 {w : World} (A0 A1 : Option Addr) (n0 c0 n1 c1 : Nat) (x x2 : Int) (m k m2 k2 : BitVec 64) (h : 200 < n0) (b0 : n0 ≤ maxLen) (b1 : n1 ≤ maxLen) :
    Calls Try.prog 9 #[.slice A0 n0 c0, .slice A1 n1 c1, .agg #[.int .i64 x, .int .u64 (n64 m), .int .u64 (n64 k), .int .i64 x2, .int .u64 (n64 m2), .int .u64 (n64 k2)]] w (BoolNew true w) := by
  unfold maxLen at b0 b1
  have hd0 : decide (200 < (n0 : Int)) = true := by simp; omega
  go_enter Try.func9, Try.ntmps9
  go_wp2_with fail
  refine (awake_ok _).mono ?_
  rintro e w4 ⟨rfl, h4⟩
  have H4 := Lib.hid h4
  clear h4
  go_wp2
  go_ret
  exact ⟨rfl, (Off.alloc (Off.refl _ _) _).also H4.out⟩
theorem blind_long1 {w : World} (A0 A1 : Option Addr) (n0 c0 n1 c1 : Nat) (x x2 : Int) (m k m2 k2 : BitVec 64) (h0 : ¬ 200 < n0) (h : 200 < n1) (b0 : n0 ≤ maxLen) (b1 : n1 ≤ maxLen) :
    Calls Try.prog 9 #[.slice A0 n0 c0, .slice A1 n1 c1, .agg #[.int .i64 x, .int .u64 (n64 m), .int .u64 (n64 k), .int .i64 x2, .int .u64 (n64 m2), .int .u64 (n64 k2)]] w (BoolNew true w) := by
  unfold maxLen at b0 b1
  have hd0 : decide (200 < (n0 : Int)) = false := by simp; omega
  have hd1 : decide (200 < (n1 : Int)) = true := by simp; omega
  go_enter Try.func9, Try.ntmps9
  go_wp2_with fail
  refine (awake_ok _).mono ?_
  rintro e w4 ⟨rfl, h4⟩
  have H4 := Lib.hid h4
  clear h4
  go_wp2
  go_ret
  exact ⟨rfl, (Off.alloc (Off.refl _ _) _).also H4.out⟩
theorem countersBlind_walk {w : World} {v0 v1 : Value} {n0 n1 : Nat} {X Y : List (BitVec 64)} (h0 : Rd w (Old w) 1 v0 n0 (u64s X)) (z0 : NilOk v0) (h1 : Rd w (Old w) 1 v1 n1 (u64s Y)) (z1 : NilOk v1)
    (l : List Value) (hl : l.length = 6) (hk : ∀ f j κ, kindAt Try.prog f 56 j = some κ → ∃ u, l[j]? = some u ∧ okV κ u) :
    Calls Try.prog 9 #[v0, v1, .agg l.toArray] w (BoolNew true w) := by
  obtain ⟨u0, e0, o0⟩ := hk 4 0 (some .i64) (by kernel_rfl)
  obtain ⟨u1, e1, o1⟩ := hk 4 1 (some .u64) (by kernel_rfl)
  obtain ⟨u2, e2, o2⟩ := hk 4 2 (some .u64) (by kernel_rfl)
  obtain ⟨u3, e3, o3⟩ := hk 4 3 (some .i64) (by kernel_rfl)
  obtain ⟨u4, e4, o4⟩ := hk 4 4 (some .u64) (by kernel_rfl)
  obtain ⟨u5, e5, o5⟩ := hk 4 5 (some .u64) (by kernel_rfl)
  obtain ⟨x, rfl, _⟩ := okV_i64 o0
  obtain ⟨m, rfl⟩ := okV_u64 o1
  obtain ⟨k, rfl⟩ := okV_u64 o2
  obtain ⟨x2, rfl, _⟩ := okV_i64 o3
  obtain ⟨m2, rfl⟩ := okV_u64 o4
  obtain ⟨k2, rfl⟩ := okV_u64 o5
  match l, hl with
  | [a, b, c, d, e, f], _ =>
    simp at e0 e1 e2 e3 e4 e5
    subst e0 e1 e2 e3 e4 e5
    obtain ⟨A0, c0, rfl, m0, _⟩ := h0.form
    obtain ⟨A1, c1, rfl, m1, _⟩ := h1.form
    by_cases g0 : 200 < n0
    · exact blind_long0 _ _ _ _ _ _ _ _ _ _ _ _ g0 m0 m1
    by_cases g1 : 200 < n1
    · exact blind_long1 _ _ _ _ _ _ _ _ _ _ _ _ g0 g1 m0 m1
    exact blind_small A0 A1 n0 c0 n1 c1 X Y h0 h1 z0 z1 (by omega) (by omega) x x2 m k m2 k2

end Go.Proofs.Ytoobgfammippfaa
