/-
  The walk of dragnetlaw09.LookupBlind.
-/
import Derived.Test.YtgdklokoeeokbaaAwake09
import Derived.Test.YtgdklokoeeokbaaOpen
import Derived.Test.YtgdklokoeeokbaaTwin
import Derived.RegionTactic
import Derived.BigRegion
import Derived.Deep.RegionHeld3
import Derived.Deep.DeepCutAuto
namespace Go.Proofs.Ytgdklokoeeokbaa
open Go.RowKit Go.ChangeShapes Go.WideShapes Go.ChangeAt
attribute [local go_sem] bits_and_u64 bits_or_u64 bits_xor_u64 bits_andNot_u64 wrap_u64 bv_add bv_neg bv_sub bv_mul
set_option linter.unusedVariables false
set_option maxRecDepth 100000
attribute [local go_sem ↓] run_max_nat
/-- The errors and the steps do not depend on the cells. -/
def cvE (base : Nat) (E : List Ev) : Nat → List Ev
  | 0 => E
  | k + 1 => cvE base E k ++ [(1, base + k), (2, base + k)]
theorem chS_ev (val : BitVec 64 → BitVec 64) (idx m : BitVec 64) (base : Nat) (C : List (BitVec 64)) (E : List Ev) (k : Nat) : (chS val idx m base C E k).2 = cvE base E k := by
  induction k with
  | zero => rfl
  | succ k ih => show (chS val idx m base C E k).2 ++ _ = cvE base E k ++ _; rw [ih]
def ldB (N : Nat) (E : List Ev) (base n : Int) : List Ev := if lkE N E.length base n 1 = 0 then ldE base.toNat E n.toNat else E
def grB (N : Nat) (E : List Ev) (base many n : Int) : List Ev := if grE N E.length base many n = 0 then ldE base.toNat E (many.toNat * n.toNat) else E
def chB (N : Nat) (E : List Ev) (base n : Int) : List Ev := if chE N E.length base n (msk true) = 0 then cvE base.toNat E n.toNat else E
theorem chE_of (nC nE : Nat) (base n : Int) (m : BitVec 64) : chE nC nE base n (ofM m) = chE nC nE base n (msk true) := by
  have h : isM (ofM m) = true := by unfold ofM; exact isM_msk _
  unfold chE
  rw [h, isM_msk]
section
variable {w : World} {F : Nat → Prop} {p N : Nat} {C : List (BitVec 64)} {E : List Ev}
theorem ge_bl (hl : C.length = N) (ha : Ar w F p C E) (base n : Int) (idx : BitVec 64) :
    Calls Try.prog 11 #[.pointer (some ⟨p, 0, none⟩), .int .i64 base, .int .i64 n, .int .u64 (n64 idx)] w fun e' w' => (∃ v, e' = .returned (.tuple #[v, .int .i64 (lkE N E.length base n 1)])) ∧ ∃ C2, C2.length = N ∧ ArTo w F p C2 (ldB N E base n) w' := by
  subst hl
  refine (get_any ha base n idx).mono fun e' w' ⟨he, ht⟩ => ?_
  unfold geR at he ht
  unfold ldB
  split at he
  · rename_i hz
    rw [if_pos hz] at ht ⊢
    rw [hz]
    exact ⟨⟨_, he⟩, C, rfl, ht⟩
  · rename_i hz
    rw [if_neg hz] at ht ⊢
    exact ⟨⟨_, he⟩, C, rfl, ht⟩
theorem fd_bl (hl : C.length = N) (ha : Ar w F p C E) (base n : Int) (v : BitVec 64) :
    Calls Try.prog 12 #[.pointer (some ⟨p, 0, none⟩), .int .i64 base, .int .i64 n, .int .u64 (n64 v)] w fun e' w' => (∃ v, e' = .returned (.tuple #[v, .int .i64 (lkE N E.length base n 1)])) ∧ ∃ C2, C2.length = N ∧ ArTo w F p C2 (ldB N E base n) w' := by
  subst hl
  refine (find_any ha base n v).mono fun e' w' ⟨he, ht⟩ => ?_
  unfold fiR at he ht
  unfold ldB
  split at he
  · rename_i hz
    rw [if_pos hz] at ht ⊢
    rw [hz]
    exact ⟨⟨_, he⟩, C, rfl, ht⟩
  · rename_i hz
    rw [if_neg hz] at ht ⊢
    exact ⟨⟨_, he⟩, C, rfl, ht⟩
theorem gr_bl (hl : C.length = N) (ha : Ar w F p C E) (base many n : Int) (idx : BitVec 64) :
    Calls Try.prog 10 #[.pointer (some ⟨p, 0, none⟩), .int .i64 base, .int .i64 many, .int .i64 n, .int .u64 (n64 idx)] w fun e' w' => (∃ v, e' = .returned (.tuple #[v, .int .i64 (grE N E.length base many n)])) ∧ ∃ C2, C2.length = N ∧ ArTo w F p C2 (grB N E base many n) w' := by
  subst hl
  refine (getRow_any ha base many n idx).mono fun e' w' h => ?_
  unfold grB
  rcases h with ⟨h1, h2, h3⟩ | ⟨h1, g, h2, h3⟩
  · rw [if_neg h1]
    exact ⟨⟨_, h2⟩, C, rfl, h3⟩
  · rw [if_pos h1, h1]
    exact ⟨⟨_, h2⟩, C, rfl, h3.done⟩
theorem pu_bl (hl : C.length = N) (ha : Ar w F p C E) (base n : Int) (idx m v : BitVec 64) :
    Calls Try.prog 15 #[.pointer (some ⟨p, 0, none⟩), .int .i64 base, .int .i64 n, .int .u64 (n64 idx), .int .u64 (n64 (ofM m)), .int .u64 (n64 v)] w fun e' w' => e' = .returned (.int .i64 (chE N E.length base n (msk true))) ∧ ∃ C2, C2.length = N ∧ ArTo w F p C2 (chB N E base n) w' := by
  subst hl
  refine (put_any ha base n idx (ofM m) v).mono fun e' w' ⟨he, ht⟩ => ?_
  rw [chE_of] at he
  unfold chR at ht
  rw [chE_of] at ht
  unfold chB
  refine ⟨he, ?_⟩
  split at ht
  · rename_i hz
    rw [if_pos hz, ← chS_ev (fun _ => v) idx (ofM m) base.toNat C E]
    exact ⟨_, (chS_len _ _ _ _ _ _ _).1, ht⟩
  · rename_i hz
    rw [if_neg hz]
    exact ⟨C, rfl, ht⟩
theorem ad_bl (hl : C.length = N) (ha : Ar w F p C E) (base n : Int) (idx m v : BitVec 64) :
    Calls Try.prog 17 #[.pointer (some ⟨p, 0, none⟩), .int .i64 base, .int .i64 n, .int .u64 (n64 idx), .int .u64 (n64 (ofM m)), .int .u64 (n64 v)] w fun e' w' => e' = .returned (.int .i64 (chE N E.length base n (msk true))) ∧ ∃ C2, C2.length = N ∧ ArTo w F p C2 (chB N E base n) w' := by
  subst hl
  refine (ladd_any ha base n idx (ofM m) v).mono fun e' w' ⟨he, ht⟩ => ?_
  rw [chE_of] at he
  unfold chR at ht
  rw [chE_of] at ht
  unfold chB
  refine ⟨he, ?_⟩
  split at ht
  · rename_i hz
    rw [if_pos hz, ← chS_ev (fun x => x + v) idx (ofM m) base.toNat C E]
    exact ⟨_, (chS_len _ _ _ _ _ _ _).1, ht⟩
  · rename_i hz
    rw [if_neg hz]
    exact ⟨C, rfl, ht⟩
end
theorem TwinL.sub {w0 w : World} {bs bs' : Bks} {p q n : Nat} {E E' : List Ev} (h : TwinL w0 w bs p q n E E') (hs : ∀ x ∈ bs', x ∈ bs) : TwinL w0 w bs' p q n E E' := by
  obtain ⟨C, C', h1, h2, F, R, ha, hr, ho, hf, hg, hd, hb⟩ := h
  exact ⟨C, C', h1, h2, F, R, ha, hr, ho, hf, hg, hd, fun x hx => hb x (hs x hx)⟩
theorem box12 {w0 w : World} {bs : Bks} {p q n bc : Nat} {E E' : List Ev} {x0 x1 x2 y0 y1 y2 : Int} {i1 m z i2 m2 z2 : BitVec 64} {t : TypeId} (h : TwinL w0 w ((bc, t, #[.int .i64 x0, .int .i64 x1, .int .i64 x2, .int .u64 (n64 i1), .int .u64 (n64 m), .int .u64 (n64 z), .int .i64 y0, .int .i64 y1, .int .i64 y2, .int .u64 (n64 i2), .int .u64 (n64 m2), .int .u64 (n64 z2)]) :: bs) p q n E E') :
    w.cell? ⟨bc, 0, none⟩ = some (.int .i64 x0) ∧ w.cell? ⟨bc, 1, none⟩ = some (.int .i64 x1) ∧ w.cell? ⟨bc, 2, none⟩ = some (.int .i64 x2) ∧ w.cell? ⟨bc, 3, none⟩ = some (.int .u64 (n64 i1)) ∧ w.cell? ⟨bc, 4, none⟩ = some (.int .u64 (n64 m)) ∧ w.cell? ⟨bc, 5, none⟩ = some (.int .u64 (n64 z)) ∧ w.cell? ⟨bc, 6, none⟩ = some (.int .i64 y0) ∧ w.cell? ⟨bc, 7, none⟩ = some (.int .i64 y1) ∧ w.cell? ⟨bc, 8, none⟩ = some (.int .i64 y2) ∧ w.cell? ⟨bc, 9, none⟩ = some (.int .u64 (n64 i2)) ∧ w.cell? ⟨bc, 10, none⟩ = some (.int .u64 (n64 m2)) ∧ w.cell? ⟨bc, 11, none⟩ = some (.int .u64 (n64 z2)) := by
  have h1 := h.blk (List.mem_cons_self ..)
  exact ⟨h1.cell 0, h1.cell 1, h1.cell 2, h1.cell 3, h1.cell 4, h1.cell 5, h1.cell 6, h1.cell 7, h1.cell 8, h1.cell 9, h1.cell 10, h1.cell 11⟩
theorem call_cells {w0 w : World} {p q n g1 g2 : Nat} {E E' : List Ev} {x0 x1 x2 y0 y1 y2 : Int} {i1 m z i2 m2 z2 : BitVec 64} {t : TypeId} (h : TwinL w0 w [(g1, t, #[.int .i64 x0, .int .i64 x1, .int .i64 x2, .int .u64 (n64 i1), .int .u64 (n64 m), .int .u64 (n64 z)]), (g2, t, #[.int .i64 y0, .int .i64 y1, .int .i64 y2, .int .u64 (n64 i2), .int .u64 (n64 m2), .int .u64 (n64 z2)])] p q n E E') :
    w.cell? ⟨g1, 0, none⟩ = some (.int .i64 x0) ∧ w.cell? ⟨g1, 1, none⟩ = some (.int .i64 x1) ∧ w.cell? ⟨g1, 2, none⟩ = some (.int .i64 x2) ∧ w.cell? ⟨g1, 3, none⟩ = some (.int .u64 (n64 i1)) ∧ w.cell? ⟨g1, 4, none⟩ = some (.int .u64 (n64 m)) ∧ w.cell? ⟨g1, 5, none⟩ = some (.int .u64 (n64 z)) ∧ w.cell? ⟨g2, 0, none⟩ = some (.int .i64 y0) ∧ w.cell? ⟨g2, 1, none⟩ = some (.int .i64 y1) ∧ w.cell? ⟨g2, 2, none⟩ = some (.int .i64 y2) ∧ w.cell? ⟨g2, 3, none⟩ = some (.int .u64 (n64 i2)) ∧ w.cell? ⟨g2, 4, none⟩ = some (.int .u64 (n64 m2)) ∧ w.cell? ⟨g2, 5, none⟩ = some (.int .u64 (n64 z2)) := by
  have h1 := h.blk (List.mem_cons_self ..)
  have h2 := h.blk (List.mem_cons_of_mem _ (List.mem_cons_self ..))
  exact ⟨h1.cell 0, h1.cell 1, h1.cell 2, h1.cell 3, h1.cell 4, h1.cell 5, h2.cell 0, h2.cell 1, h2.cell 2, h2.cell 3, h2.cell 4, h2.cell 5⟩
set_option maxHeartbeats 16000000 in
theorem blind_small {w : World} (A0 A1 : Option Addr) (n0 c0 n1 c1 : Nat) (X Y : List (BitVec 64)) (h0 : Rd w (Old w) 1 (.slice A0 n0 c0) n0 (u64s X)) (h1 : Rd w (Old w) 1 (.slice A1 n1 c1) n1 (u64s Y)) (z0 : NilOk (.slice A0 n0 c0)) (z1 : NilOk (.slice A1 n1 c1)) (hn0 : n0 ≤ 200) (hn1 : n1 ≤ 200) (x0 x1 x2 y0 y1 y2 : Int) (i1 m z i2 m2 z2 : BitVec 64) :
    Calls Try.prog 5 #[.slice A0 n0 c0, .slice A1 n1 c1, .agg #[.int .i64 x0, .int .i64 x1, .int .i64 x2, .int .u64 (n64 i1), .int .u64 (n64 m), .int .u64 (n64 z), .int .i64 y0, .int .i64 y1, .int .i64 y2, .int .u64 (n64 i2), .int .u64 (n64 m2), .int .u64 (n64 z2)]] w (BoolNew true w) := by
  obtain ⟨i0, hi, hz0, hz1, hz2⟩ := info_parts Try.infoU
  have hl0 : X.length = n0 := by obtain ⟨_, _, _, _, hl, _⟩ := h0; rw [length_u64s] at hl; omega
  have hl1 : Y.length = n1 := by obtain ⟨_, _, _, _, hl, _⟩ := h1; rw [length_u64s] at hl; omega
  obtain ⟨hge0, hge1, hle⟩ := mxN_ge n0 n1
  have H0 := Lib.hid h0
  have H1 := Lib.hid h1
  have Z0 := Lib.hid z0
  have Z1 := Lib.hid z1
  have L0 := Lib.hid hl0
  have L1 := Lib.hid hl1
  have hd0 : decide (200 < (n0 : Int)) = false := by simp; omega
  have hd1 : decide (200 < (n1 : Int)) = false := by simp; omega
  clear h0 h1 z0 z1 hl0 hl1

  go_enter Try.func5, Try.ntmps5
  go_wp2_with (at_builtin; refine wpList_append_rd rfl _ _ 22 rfl (w.heap.size + 1) 23 i0 (.int .u64 0) 1 8 Try.underlying22 hi hz0 hz1 hz2 rfl (by decide) (w.heap.size + 1) 0 0 [] rfl ?c0 (.slice A0 n0 c0) n0 (u64s X) rfl (F := Old w) ?c1 Z0.out (u64s_one' X) ?c3 ?c4 ?c5 ?_)
  case c0 => simpa using World.ownsRow_made (w.alloc (.cells #[.int .i64 x0, .int .i64 x1, .int .i64 x2, .int .u64 (n64 i1), .int .u64 (n64 m), .int .u64 (n64 z), .int .i64 y0, .int .i64 y1, .int .i64 y2, .int .u64 (n64 i2), .int .u64 (n64 m2), .int .u64 (n64 z2)] 40)) #[] 0 (Nat.le_refl _) (Nat.zero_le _) rfl
  case c1 => exact H0.out.keep (Off.alloc (Off.alloc (Off.refl Nob w) _) _) (fun _ _ h => h)
  case c3 => unfold maxLen; omega
  case c4 => omega
  case c5 => simp
  intro g1 cap1 w1 ho1 hg1 ha1
  have O1 : Hid (Off Nob (w.alloc (.cells #[.int .i64 x0, .int .i64 x1, .int .i64 x2, .int .u64 (n64 i1), .int .u64 (n64 m), .int .u64 (n64 z), .int .i64 y0, .int .i64 y1, .int .i64 y2, .int .u64 (n64 i2), .int .u64 (n64 m2), .int .u64 (n64 z2)] 40)) w1) := Off.grown (Off.alloc (Off.refl _ _) _) hg1 (fun k hk => .inr (by injection hk with hk; simp; omega))
  have W1 := Lib.hid ho1
  clear hg1 ha1 ho1
  go_wp2_with (at_builtin; refine wpList_append_zeros rfl _ _ 22 3 rfl (w.heap.size + 1) 23 i0 (.int .u64 0) 8 .i64 .i64 Try.underlying22 Try.underlying3 hi hz0 hz1 hz2 rfl rfl g1 n0 cap1 (u64s X) rfl W1.out (mxN n0 n1 - n0) (mxN n0 n1) ?d0 ?d1 ?d2 ?d3 ?d4 ?_)
  case d0 => omega
  case d1 => exact congrArg (Value.int .i64) (by omega)
  case d2 => unfold maxLen; omega
  case d3 => omega
  case d4 => have := O1.out.size; simp at this; omega
  intro g2 cap2 w2 ho2 hg2 ha2
  have O2 : Hid (Off Nob (w.alloc (.cells #[.int .i64 x0, .int .i64 x1, .int .i64 x2, .int .u64 (n64 i1), .int .u64 (n64 m), .int .u64 (n64 z), .int .i64 y0, .int .i64 y1, .int .i64 y2, .int .u64 (n64 i2), .int .u64 (n64 m2), .int .u64 (n64 z2)] 40)) w2) := Off.grown O1.out hg2 (fun k hk => .inr (by injection hk with hk; subst hk; have := (W1.out.lt g1 rfl).1; simp; omega))
  have W2 : Hid (Rd w2 (fun k => w.heap.size + 1 ≤ k ∧ k < w2.heap.size) 1 (.slice (some ⟨g2, 0, none⟩) (mxN n0 n1) cap2) (mxN n0 n1) (u64s (padTo X (mxN n0 n1)))) := by
    have := Rd.own ho2 (F := fun k => w.heap.size + 1 ≤ k ∧ k < w2.heap.size) (fun k hk => ho2.lt k hk)
    rw [u64s_zeros] at this
    unfold padTo
    rw [L0.out]
    exact this
  clear hg2 ha2 ho2 W1 O1
  go_wp2_with fail
  refine (arena_any W2.out (by rw [padTo_length _ _ (by have := L0.out; omega)]; omega)).mono ?_
  rintro e w3 h3
  obtain ⟨p, r, rfl, k3⟩ := h3.one (w0 := w) (bs := [(w.heap.size, 40, #[.int .i64 x0, .int .i64 x1, .int .i64 x2, .int .u64 (n64 i1), .int .u64 (n64 m), .int .u64 (n64 z), .int .i64 y0, .int .i64 y1, .int .i64 y2, .int .u64 (n64 i2), .int .u64 (n64 m2), .int .u64 (n64 z2)])]) ((Off.alloc (Off.refl _ _) _).also O2.out) (fun x hx => by
    rw [List.mem_singleton] at hx
    subst hx
    exact (Blk.new _ _ _).to (O2.out.block _ (by simp) (fun h => h)))
  rw [padTo_length _ _ (by have := L0.out; omega)] at k3
  have H3 := Lib.hid k3
  clear h3 k3 W2 O2
  go_wp2_with (at_builtin; refine wpList_append_rd rfl _ _ 22 rfl w3.heap.size 23 i0 (.int .u64 0) 1 8 Try.underlying22 hi hz0 hz1 hz2 rfl (by decide) w3.heap.size 0 0 [] rfl ?c0 (.slice A1 n1 c1) n1 (u64s Y) rfl (F := Old w) ?c1 Z1.out (u64s_one' Y) ?c3 ?c4 ?c5 ?_)
  case c0 => exact World.ownsRow_made w3 #[] 0 (Nat.le_refl _) (Nat.zero_le _) rfl
  case c1 => exact H1.out.keep (Off.alloc H3.out.old _) (fun _ _ h => h)
  case c3 => unfold maxLen; omega
  case c4 => omega
  case c5 => simp
  intro g3 cap3 w4 ho3 hg3 ha3
  have O3 : Hid (Off Nob w3 w4) := Off.grown (Off.alloc (Off.refl _ _) _) hg3 (fun k hk => .inr (by injection hk with hk; omega))
  have W3 := Lib.hid ho3
  clear hg3 ha3 ho3
  go_wp2_with (at_builtin; refine wpList_append_zeros rfl _ _ 22 3 rfl w3.heap.size 23 i0 (.int .u64 0) 8 .i64 .i64 Try.underlying22 Try.underlying3 hi hz0 hz1 hz2 rfl rfl g3 n1 cap3 (u64s Y) rfl W3.out (mxN n0 n1 - n1) (mxN n0 n1) ?d0 ?d1 ?d2 ?d3 ?d4 ?_)
  case d0 => omega
  case d1 => exact congrArg (Value.int .i64) (by omega)
  case d2 => unfold maxLen; omega
  case d3 => omega
  case d4 => exact O3.out.size
  intro g4 cap4 w5 ho4 hg4 ha4
  have O4 : Hid (Off Nob w3 w5) := Off.grown O3.out hg4 (fun k hk => .inr (by injection hk with hk; subst hk; exact (W3.out.lt g3 rfl).1))
  have W4 : Hid (Rd w5 (fun k => w3.heap.size ≤ k ∧ k < w5.heap.size) 1 (.slice (some ⟨g4, 0, none⟩) (mxN n0 n1) cap4) (mxN n0 n1) (u64s (padTo Y (mxN n0 n1)))) := by
    have := Rd.own ho4 (F := fun k => w3.heap.size ≤ k ∧ k < w5.heap.size) (fun k hk => ho4.lt k hk)
    rw [u64s_zeros] at this
    unfold padTo
    rw [L1.out]
    exact this
  clear hg4 ha4 ho4 W3 O3
  go_wp2_with fail
  refine (arena_any W4.out (by rw [padTo_length _ _ (by have := L1.out; omega)]; omega)).mono ?_
  rintro e w6 h6
  obtain ⟨q, r2, rfl, k6⟩ := (H3.out.off O4.out).two h6
  rw [padTo_length _ _ (by have := L1.out; omega)] at k6
  have TW := Lib.hid k6
  have PX : Hid ((pad (padTo X (mxN n0 n1))).length = max (mxN n0 n1) 1) := Lib.hid (by rw [pad_length, padTo_length _ _ (by have := L0.out; omega)])
  have PY : Hid ((pad (padTo Y (mxN n0 n1))).length = max (mxN n0 n1) 1) := Lib.hid (by rw [pad_length, padTo_length _ _ (by have := L1.out; omega)])
  clear h6 k6 W4 O4 H3 H0 H1 Z0 Z1 L0 L1
  revert TW PX PY
  generalize pad (padTo X (mxN n0 n1)) = CX
  generalize pad (padTo Y (mxN n0 n1)) = CY
  intro TW PX PY
  have hN200 : mxN n0 n1 ≤ 200 := by omega
  clear hge0 hge1 hle hn0 hn1 hd0 hd1 hi hz0 hz1 hz2
  revert TW PX PY hN200
  generalize mxN n0 n1 = N
  intro TW PX PY hN200

  have T1 : Hid (TwinL w w6 [(w.heap.size, 40, #[.int .i64 x0, .int .i64 x1, .int .i64 x2, .int .u64 (n64 i1), .int .u64 (n64 m), .int .u64 (n64 z), .int .i64 y0, .int .i64 y1, .int .i64 y2, .int .u64 (n64 i2), .int .u64 (n64 m2), .int .u64 (n64 z2)])] p q (max N 1) (stores N) (stores N)) := Lib.hid ⟨_, _, PX.out, PY.out, TW.out⟩
  clear TW PX PY
  have hb0 : w.heap.size < w6.heap.size := (TwinL.blk T1.out (b := w.heap.size) (t := 40) (cs := #[.int .i64 x0, .int .i64 x1, .int .i64 x2, .int .u64 (n64 i1), .int .u64 (n64 m), .int .u64 (n64 z), .int .i64 y0, .int .i64 y1, .int .i64 y2, .int .u64 (n64 i2), .int .u64 (n64 m2), .int .u64 (n64 z2)]) (List.mem_cons_self ..)).lt
  revert T1 hb0
  generalize w6 = W
  generalize w.heap.size = bc
  generalize max N 1 = n
  intro HT1 hb0
  have kb := box12 HT1.out
  go_wp2_with fail
  go_cut [12, 13] (fun s1 s2 wx => ∃ g1 g2 : Nat, s1 = .pointer (some ⟨g1, 0, none⟩) ∧ s2 = .pointer (some ⟨g2, 0, none⟩) ∧ TwinL w wx [(g1, 25, #[.int .i64 x0, .int .i64 x1, .int .i64 x2, .int .u64 (n64 i1), .int .u64 (n64 m), .int .u64 (n64 z)]), (g2, 25, #[.int .i64 y0, .int .i64 y1, .int .i64 y2, .int .u64 (n64 i2), .int .u64 (n64 m2), .int .u64 (n64 z2)])] p q n (stores N) (stores N))
  case first =>
    go_region_held3 (fun w' => w'.cell? ⟨bc, 0, none⟩ = some (.int .i64 x0) ∧ w'.cell? ⟨bc, 1, none⟩ = some (.int .i64 x1) ∧ w'.cell? ⟨bc, 2, none⟩ = some (.int .i64 x2) ∧ w'.cell? ⟨bc, 3, none⟩ = some (.int .u64 (n64 i1)) ∧ w'.cell? ⟨bc, 4, none⟩ = some (.int .u64 (n64 m)) ∧ w'.cell? ⟨bc, 5, none⟩ = some (.int .u64 (n64 z)) ∧ w'.cell? ⟨bc, 6, none⟩ = some (.int .i64 y0) ∧ w'.cell? ⟨bc, 7, none⟩ = some (.int .i64 y1) ∧ w'.cell? ⟨bc, 8, none⟩ = some (.int .i64 y2) ∧ w'.cell? ⟨bc, 9, none⟩ = some (.int .u64 (n64 i2)) ∧ w'.cell? ⟨bc, 10, none⟩ = some (.int .u64 (n64 m2)) ∧ w'.cell? ⟨bc, 11, none⟩ = some (.int .u64 (n64 z2)))
      (first | with_reducible assumption | go_keep)
      (fail)
    all_goals go_wp2_with fail
    all_goals go_meet
    all_goals first
      | exact ⟨_, _, rfl, rfl, (((HT1.out.push _ _).push _ _).off (Off.drew (Off.refl _ _))).sub (fun x hx => by simp at hx ⊢; rcases hx with rfl | rfl <;> simp)⟩
      | exact ⟨_, _, rfl, rfl, ((HT1.out.push _ _).push _ _).sub (fun x hx => by simp at hx ⊢; rcases hx with rfl | rfl <;> simp)⟩
  case rest =>
    obtain ⟨g1, g2, rfl, rfl, hcut⟩ := hcut
    have kb1 := call_cells hcut
    have U0 := Lib.hid hcut
    clear hcut kb HT1 hb0
    generalize stores N = E0 at U0
    go_wp2_with fail
    go_region_held3 (fun w' => w'.cell? ⟨g1, 0, none⟩ = some (.int .i64 x0) ∧ w'.cell? ⟨g1, 1, none⟩ = some (.int .i64 x1) ∧ w'.cell? ⟨g1, 2, none⟩ = some (.int .i64 x2) ∧ w'.cell? ⟨g1, 3, none⟩ = some (.int .u64 (n64 i1)) ∧ w'.cell? ⟨g1, 4, none⟩ = some (.int .u64 (n64 m)) ∧ w'.cell? ⟨g1, 5, none⟩ = some (.int .u64 (n64 z)) ∧ w'.cell? ⟨g2, 0, none⟩ = some (.int .i64 y0) ∧ w'.cell? ⟨g2, 1, none⟩ = some (.int .i64 y1) ∧ w'.cell? ⟨g2, 2, none⟩ = some (.int .i64 y2) ∧ w'.cell? ⟨g2, 3, none⟩ = some (.int .u64 (n64 i2)) ∧ w'.cell? ⟨g2, 4, none⟩ = some (.int .u64 (n64 m2)) ∧ w'.cell? ⟨g2, 5, none⟩ = some (.int .u64 (n64 z2)))
      (first | with_reducible assumption | go_keep)
      (first
        | (go_at_call 14; refine (rof_any _ _).mono ?_; rintro e w' ⟨rfl, rfl⟩))
    go_wp2_with fail
    refine (TwinL.first (U0.out.off (by first | exact Off.refl _ _ | exact Off.drew (Off.refl _ _) | exact Off.drewN (Off.refl _ _) _ | exact Off.drew (Off.drew (Off.refl _ _)) | exact Off.drew (Off.drewN (Off.refl _ _) _) | exact Off.drew (Off.drew (Off.drew (Off.refl _ _))))) (fun C w F hl h => ge_bl hl h x0 x1 i1)).mono ?_
    rintro e t1 ⟨⟨v1, rfl⟩, ht⟩
    have kt1 := call_cells ht
    have U1 := Lib.hid ht
    clear ht U0 kb1
    go_wp2_with fail
    refine (TwinL.second (U1.out.off (by first | exact Off.refl _ _ | exact Off.drew (Off.refl _ _) | exact Off.drewN (Off.refl _ _) _ | exact Off.drew (Off.drew (Off.refl _ _)) | exact Off.drew (Off.drewN (Off.refl _ _) _) | exact Off.drew (Off.drew (Off.drew (Off.refl _ _))))) (fun C w F hl h => ge_bl hl h x0 x1 i2)).mono ?_
    rintro e t2 ⟨⟨v2, rfl⟩, ht⟩
    have kt2 := call_cells ht
    have U2 := Lib.hid ht
    clear ht U1 kt1
    go_wp2_with fail
    refine (TwinL.first (U2.out.off (by first | exact Off.refl _ _ | exact Off.drew (Off.refl _ _) | exact Off.drewN (Off.refl _ _) _ | exact Off.drew (Off.drew (Off.refl _ _)) | exact Off.drew (Off.drewN (Off.refl _ _) _) | exact Off.drew (Off.drew (Off.drew (Off.refl _ _))))) (fun C w F hl h => gr_bl hl h x0 x2 x1 i1)).mono ?_
    rintro e t3 ⟨⟨v3, rfl⟩, ht⟩
    have kt3 := call_cells ht
    have U3 := Lib.hid ht
    clear ht U2 kt2
    go_wp2_with fail
    refine (TwinL.second (U3.out.off (by first | exact Off.refl _ _ | exact Off.drew (Off.refl _ _) | exact Off.drewN (Off.refl _ _) _ | exact Off.drew (Off.drew (Off.refl _ _)) | exact Off.drew (Off.drewN (Off.refl _ _) _) | exact Off.drew (Off.drew (Off.drew (Off.refl _ _))))) (fun C w F hl h => gr_bl hl h x0 x2 x1 i2)).mono ?_
    rintro e t4 ⟨⟨v4, rfl⟩, ht⟩
    have kt4 := call_cells ht
    have U4 := Lib.hid ht
    clear ht U3 kt3
    go_wp2_with fail
    refine (TwinL.first (U4.out.off (by first | exact Off.refl _ _ | exact Off.drew (Off.refl _ _) | exact Off.drewN (Off.refl _ _) _ | exact Off.drew (Off.drew (Off.refl _ _)) | exact Off.drew (Off.drewN (Off.refl _ _) _) | exact Off.drew (Off.drew (Off.drew (Off.refl _ _))))) (fun C w F hl h => fd_bl hl h x0 x1 z)).mono ?_
    rintro e t5 ⟨⟨v5, rfl⟩, ht⟩
    have kt5 := call_cells ht
    have U5 := Lib.hid ht
    clear ht U4 kt4
    go_wp2_with fail
    refine (TwinL.second (U5.out.off (by first | exact Off.refl _ _ | exact Off.drew (Off.refl _ _) | exact Off.drewN (Off.refl _ _) _ | exact Off.drew (Off.drew (Off.refl _ _)) | exact Off.drew (Off.drewN (Off.refl _ _) _) | exact Off.drew (Off.drew (Off.drew (Off.refl _ _))))) (fun C w F hl h => fd_bl hl h x0 x1 z2)).mono ?_
    rintro e t6 ⟨⟨v6, rfl⟩, ht⟩
    have kt6 := call_cells ht
    have U6 := Lib.hid ht
    clear ht U5 kt5
    go_wp2_with fail
    go_region_held3 (fun w' => w'.cell? ⟨g1, 0, none⟩ = some (.int .i64 x0) ∧ w'.cell? ⟨g1, 1, none⟩ = some (.int .i64 x1) ∧ w'.cell? ⟨g1, 2, none⟩ = some (.int .i64 x2) ∧ w'.cell? ⟨g1, 3, none⟩ = some (.int .u64 (n64 i1)) ∧ w'.cell? ⟨g1, 4, none⟩ = some (.int .u64 (n64 m)) ∧ w'.cell? ⟨g1, 5, none⟩ = some (.int .u64 (n64 z)) ∧ w'.cell? ⟨g2, 0, none⟩ = some (.int .i64 y0) ∧ w'.cell? ⟨g2, 1, none⟩ = some (.int .i64 y1) ∧ w'.cell? ⟨g2, 2, none⟩ = some (.int .i64 y2) ∧ w'.cell? ⟨g2, 3, none⟩ = some (.int .u64 (n64 i2)) ∧ w'.cell? ⟨g2, 4, none⟩ = some (.int .u64 (n64 m2)) ∧ w'.cell? ⟨g2, 5, none⟩ = some (.int .u64 (n64 z2)))
      (first | with_reducible assumption | go_keep)
      (first
        | (go_at_call_of 15 (Value.pointer (some ⟨p, 0, none⟩)); refine (TwinL.first (U6.out.off (by first | exact Off.refl _ _ | exact Off.drew (Off.refl _ _) | exact Off.drewN (Off.refl _ _) _ | exact Off.drew (Off.drew (Off.refl _ _)) | exact Off.drew (Off.drewN (Off.refl _ _) _) | exact Off.drew (Off.drew (Off.drew (Off.refl _ _))))) (fun C w F hl h => pu_bl hl h x0 x1 i1 m z)).mono ?_; rintro e u7 ⟨rfl, hu7⟩; have ku7 := call_cells hu7; have U7 := Lib.hid hu7; clear hu7)
        | (go_at_call_of 15 (Value.pointer (some ⟨q, 0, none⟩)); refine (TwinL.second (U7.out.off (by first | exact Off.refl _ _ | exact Off.drew (Off.refl _ _) | exact Off.drewN (Off.refl _ _) _ | exact Off.drew (Off.drew (Off.refl _ _)) | exact Off.drew (Off.drewN (Off.refl _ _) _) | exact Off.drew (Off.drew (Off.drew (Off.refl _ _))))) (fun C w F hl h => pu_bl hl h x0 x1 i2 m2 z2)).mono ?_; rintro e u8 ⟨rfl, hu8⟩; have ku8 := call_cells hu8; have U8 := Lib.hid hu8; clear hu8)
        | (go_at_call_of 17 (Value.pointer (some ⟨p, 0, none⟩)); refine (TwinL.first (U8.out.off (by first | exact Off.refl _ _ | exact Off.drew (Off.refl _ _) | exact Off.drewN (Off.refl _ _) _ | exact Off.drew (Off.drew (Off.refl _ _)) | exact Off.drew (Off.drewN (Off.refl _ _) _) | exact Off.drew (Off.drew (Off.drew (Off.refl _ _))))) (fun C w F hl h => ad_bl hl h x0 x1 i1 m z)).mono ?_; rintro e u9 ⟨rfl, hu9⟩; have ku9 := call_cells hu9; have U9 := Lib.hid hu9; clear hu9)
        | (go_at_call_of 17 (Value.pointer (some ⟨q, 0, none⟩)); refine (TwinL.second (U9.out.off (by first | exact Off.refl _ _ | exact Off.drew (Off.refl _ _) | exact Off.drewN (Off.refl _ _) _ | exact Off.drew (Off.drew (Off.refl _ _)) | exact Off.drew (Off.drewN (Off.refl _ _) _) | exact Off.drew (Off.drew (Off.drew (Off.refl _ _))))) (fun C w F hl h => ad_bl hl h x0 x1 i2 m2 z2)).mono ?_; rintro e u10 ⟨rfl, hu10⟩; have ku10 := call_cells hu10; have U10 := Lib.hid hu10; clear hu10))
    clear kt6 ku7 ku8 ku9
    go_wp2_with fail
    obtain ⟨CP, FP, hp⟩ := U10.out.ar1
    have HP := Lib.hid (events_ok hp)
    clear hp
    refine HP.out.mono ?_
    rintro e w1x ⟨l1x, rfl, hl1x, o1⟩
    have V1 := Lib.hid (NewE.rd hl1x)
    have TT3 := Lib.hid (U10.out.off o1)
    clear hl1x o1 HP
    go_wp2_with fail
    obtain ⟨CQ, FQ, hq⟩ := TT3.out.ar2
    have HQ := Lib.hid (events_ok hq)
    clear hq
    refine HQ.out.mono ?_
    rintro e v2 ⟨l2, rfl, hl2, o2⟩
    have V2 := Lib.hid (V1.out.keep o2 (fun _ _ h => h))
    have V3 := Lib.hid (NewE.rd hl2)
    have TT4 := Lib.hid (TT3.out.off o2)
    clear hl2 o2 HQ V1
    go_wp2_with fail
    refine (sameEv V2.out V3.out).mono ?_
    rintro e v3 ⟨rfl, o3⟩
    have O3 := Lib.hid (TT4.out.old.also o3)
    clear o3 V2 V3
    go_wp2_with fail
    refine (awake_ok _).mono ?_
    rintro e v4 ⟨rfl, o4⟩
    have O4 := Lib.hid (O3.out.also o4)
    clear o4
    go_wp2
    go_ret
    exact ⟨ret_bool (by simp), O4.out⟩

theorem blind_long0 {w : World} (A0 A1 : Option Addr) (n0 c0 n1 c1 : Nat) (x0 x1 x2 y0 y1 y2 : Int) (i1 m z i2 m2 z2 : BitVec 64) (h : 200 < n0) (b0 : n0 ≤ maxLen) (b1 : n1 ≤ maxLen) :
    Calls Try.prog 5 #[.slice A0 n0 c0, .slice A1 n1 c1, .agg #[.int .i64 x0, .int .i64 x1, .int .i64 x2, .int .u64 (n64 i1), .int .u64 (n64 m), .int .u64 (n64 z), .int .i64 y0, .int .i64 y1, .int .i64 y2, .int .u64 (n64 i2), .int .u64 (n64 m2), .int .u64 (n64 z2)]] w (BoolNew true w) := by
  unfold maxLen at b0 b1
  have hd0 : decide (200 < (n0 : Int)) = true := by simp; omega
  go_enter Try.func5, Try.ntmps5
  go_wp2_with fail
  refine (awake_ok _).mono ?_
  rintro e w4 ⟨rfl, h4⟩
  have H4 := Lib.hid h4
  clear h4
  go_wp2
  go_ret
  exact ⟨rfl, (Off.alloc (Off.refl _ _) _).also H4.out⟩
theorem blind_long1 {w : World} (A0 A1 : Option Addr) (n0 c0 n1 c1 : Nat) (x0 x1 x2 y0 y1 y2 : Int) (i1 m z i2 m2 z2 : BitVec 64) (h0 : ¬ 200 < n0) (h : 200 < n1) (b0 : n0 ≤ maxLen) (b1 : n1 ≤ maxLen) :
    Calls Try.prog 5 #[.slice A0 n0 c0, .slice A1 n1 c1, .agg #[.int .i64 x0, .int .i64 x1, .int .i64 x2, .int .u64 (n64 i1), .int .u64 (n64 m), .int .u64 (n64 z), .int .i64 y0, .int .i64 y1, .int .i64 y2, .int .u64 (n64 i2), .int .u64 (n64 m2), .int .u64 (n64 z2)]] w (BoolNew true w) := by
  unfold maxLen at b0 b1
  have hd0 : decide (200 < (n0 : Int)) = false := by simp; omega
  have hd1 : decide (200 < (n1 : Int)) = true := by simp; omega
  go_enter Try.func5, Try.ntmps5
  go_wp2_with fail
  refine (awake_ok _).mono ?_
  rintro e w4 ⟨rfl, h4⟩
  have H4 := Lib.hid h4
  clear h4
  go_wp2
  go_ret
  exact ⟨rfl, (Off.alloc (Off.refl _ _) _).also H4.out⟩
theorem lookupBlind_walk {w : World} {v0 v1 : Value} {n0 n1 : Nat} {X Y : List (BitVec 64)} (h0 : Rd w (Old w) 1 v0 n0 (u64s X)) (z0 : NilOk v0) (h1 : Rd w (Old w) 1 v1 n1 (u64s Y)) (z1 : NilOk v1)
    (l : List Value) (hl : l.length = 12) (hk : ∀ f j κ, kindAt Try.prog f 40 j = some κ → ∃ u, l[j]? = some u ∧ okV κ u) :
    Calls Try.prog 5 #[v0, v1, .agg l.toArray] w (BoolNew true w) := by
  obtain ⟨u0, e0, o0⟩ := hk 6 0 (some .i64) (by kernel_rfl)
  obtain ⟨u1, e1, o1⟩ := hk 6 1 (some .i64) (by kernel_rfl)
  obtain ⟨u2, e2, o2⟩ := hk 6 2 (some .i64) (by kernel_rfl)
  obtain ⟨u3, e3, o3⟩ := hk 6 3 (some .u64) (by kernel_rfl)
  obtain ⟨u4, e4, o4⟩ := hk 6 4 (some .u64) (by kernel_rfl)
  obtain ⟨u5, e5, o5⟩ := hk 6 5 (some .u64) (by kernel_rfl)
  obtain ⟨u6, e6, o6⟩ := hk 6 6 (some .i64) (by kernel_rfl)
  obtain ⟨u7, e7, o7⟩ := hk 6 7 (some .i64) (by kernel_rfl)
  obtain ⟨u8, e8, o8⟩ := hk 6 8 (some .i64) (by kernel_rfl)
  obtain ⟨u9, e9, o9⟩ := hk 6 9 (some .u64) (by kernel_rfl)
  obtain ⟨u10, e10, o10⟩ := hk 6 10 (some .u64) (by kernel_rfl)
  obtain ⟨u11, e11, o11⟩ := hk 6 11 (some .u64) (by kernel_rfl)
  obtain ⟨x0, rfl, _⟩ := okV_i64 o0
  obtain ⟨x1, rfl, _⟩ := okV_i64 o1
  obtain ⟨x2, rfl, _⟩ := okV_i64 o2
  obtain ⟨i1, rfl⟩ := okV_u64 o3
  obtain ⟨m, rfl⟩ := okV_u64 o4
  obtain ⟨z, rfl⟩ := okV_u64 o5
  obtain ⟨y0, rfl, _⟩ := okV_i64 o6
  obtain ⟨y1, rfl, _⟩ := okV_i64 o7
  obtain ⟨y2, rfl, _⟩ := okV_i64 o8
  obtain ⟨i2, rfl⟩ := okV_u64 o9
  obtain ⟨m2, rfl⟩ := okV_u64 o10
  obtain ⟨z2, rfl⟩ := okV_u64 o11
  match l, hl with
  | [a0, a1, a2, a3, a4, a5, a6, a7, a8, a9, a10, a11], _ =>
    simp at e0 e1 e2 e3 e4 e5 e6 e7 e8 e9 e10 e11
    subst e0 e1 e2 e3 e4 e5 e6 e7 e8 e9 e10 e11
    obtain ⟨A0, c0, rfl, m0, _⟩ := h0.form
    obtain ⟨A1, c1, rfl, m1, _⟩ := h1.form
    by_cases g0 : 200 < n0
    · exact blind_long0 _ _ _ _ _ _ _ _ _ _ _ _ _ _ _ _ _ _ g0 m0 m1
    by_cases g1 : 200 < n1
    · exact blind_long1 _ _ _ _ _ _ _ _ _ _ _ _ _ _ _ _ _ _ g0 g1 m0 m1
    exact blind_small A0 A1 n0 c0 n1 c1 X Y h0 h1 z0 z1 (by omega) (by omega) _ _ _ _ _ _ _ _ _ _ _ _

end Go.Proofs.Ytgdklokoeeokbaa
