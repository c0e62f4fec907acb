/-
  The walk of dragnetlaw22.SlotsBlind.
-/
import Derived.Test.YtonkhgmfeakbcaaAwake22
import Derived.Test.YtonkhgmfeakbcaaDo22
import Derived.Test.YtonkhgmfeakbcaaOpen
import Derived.Test.YtonkhgmfeakbcaaTwin
import Derived.RegionTactic
import Derived.BigRegion
import Derived.BigQuiet
import Derived.Deep.RegionHeld3
import Derived.Deep.DeepCutAuto
namespace Go.Proofs.Ytonkhgmfeakbcaa
open Go.RowKit Go.ChangeShapes Go.WideShapes Go.ChangeAt
attribute [local go_sem] bits_and_u64 bits_or_u64 bits_xor_u64 bits_andNot_u64 wrap_u64 bv_add bv_neg bv_sub bv_mul
set_option linter.unusedVariables false
set_option maxRecDepth 100000
attribute [local go_sem ↓] run_max_nat
/-- The steps of Fill, of Wipe. -/
def fvE (hits first : Nat) (E : List Ev) : Nat → List Ev
  | 0 => E
  | k + 1 => fvE hits first E k ++ [(1, hits + k), (2, first + 3 * k), (2, first + 3 * k + 1), (2, first + 3 * k + 2)]
theorem fiS_ev (hits first : Nat) (b : Bool) (e : BitVec 64) (s : St) (k : Nat) : (fiS hits first b e s k).2 = fvE hits first s.2 k := by
  induction k with
  | zero => rfl
  | succ k ih =>
    show ((((fiS hits first b e s k).2 ++ [(1, hits + k)]) ++ [(2, first + 3 * k)]) ++ [(2, first + 3 * k + 1)]) ++ [(2, first + 3 * k + 2)] = _
    rw [ih]
    simp [fvE]
theorem fvE_from (hits first : Nat) (E : List Ev) (k : Nat) : fvE hits first E k = E ++ fvE hits first [] k := by
  induction k with
  | zero => simp [fvE]
  | succ k ih => show fvE hits first E k ++ _ = E ++ (fvE hits first [] k ++ _); rw [ih, List.append_assoc]
theorem fvE_len (hits first : Nat) (E : List Ev) (k : Nat) : (fvE hits first E k).length = E.length + 4 * k := by
  induction k with
  | zero => rfl
  | succ k ih => show (fvE hits first E k ++ _).length = _; rw [List.length_append, ih]; simp; omega
/-- Step j of Fill. -/
def fvA (hits first j : Nat) : Ev := if j % 4 = 0 then (1, hits + j / 4) else (2, first + 3 * (j / 4) + (j % 4 - 1))
theorem fvE_at (hits first k j : Nat) (h : j < 4 * k) : evAt (fvE hits first [] k) j = fvA hits first j := by
  induction k with
  | zero => omega
  | succ k ih =>
    have hl := fvE_len hits first [] k
    simp only [List.length_nil, Nat.zero_add] at hl
    show (fvE hits first [] k ++ _).getD j (0, 0) = _
    rw [List.getD_eq_getElem?_getD]
    by_cases hj : j < 4 * k
    · rw [List.getElem?_append_left (by omega), ← List.getD_eq_getElem?_getD]
      exact ih hj
    · rw [List.getElem?_append_right (by omega), hl]
      unfold fvA
      have hc : j = 4 * k ∨ j = 4 * k + 1 ∨ j = 4 * k + 2 ∨ j = 4 * k + 3 := by omega
      rcases hc with rfl | rfl | rfl | rfl
      · rw [show 4 * k - 4 * k = 0 by omega, if_pos (by omega), show 4 * k / 4 = k by omega]; rfl
      · rw [show 4 * k + 1 - 4 * k = 1 by omega, if_neg (by omega), show (4 * k + 1) / 4 = k by omega, show (4 * k + 1) % 4 = 1 by omega]; rfl
      · rw [show 4 * k + 2 - 4 * k = 2 by omega, if_neg (by omega), show (4 * k + 2) / 4 = k by omega, show (4 * k + 2) % 4 = 2 by omega]; rfl
      · rw [show 4 * k + 3 - 4 * k = 3 by omega, if_neg (by omega), show (4 * k + 3) / 4 = k by omega, show (4 * k + 3) % 4 = 3 by omega]; rfl
def weE (base : Nat) (E : List Ev) : Nat → List Ev
  | 0 => E
  | k + 1 => weE base E k ++ [(2, base + 3 * k), (2, base + 3 * k + 1), (2, base + 3 * k + 2)]
theorem wrS_ev (base : Nat) (L : Nat → Sl) (s : St) (k : Nat) : (wrS base L s k).2 = weE base s.2 k := by
  induction k with
  | zero => rfl
  | succ k ih =>
    show (((wrS base L s k).2 ++ [(2, base + 3 * k)]) ++ [(2, base + 3 * k + 1)]) ++ [(2, base + 3 * k + 2)] = _
    rw [ih]
    simp [weE]
def fiB (n : Nat) (E : List Ev) (base hits k byte : Int) : List Ev := if fiE n E.length base hits k byte true = 0 then fvE hits.toNat (base.toNat + 3 * k.toNat * byte.toNat) E k.toNat else E
def rdB (n : Nat) (E : List Ev) (base k : Int) : List Ev := if ckS n E.length base k = 0 then rdE base.toNat E k.toNat else E
def wiB (n : Nat) (E : List Ev) (base k : Int) : List Ev := if ckS n E.length base k = 0 then weE base.toNat E k.toNat else E
section
variable {w : World} {F : Nat → Prop} {p n : Nat} {C : List (BitVec 64)} {E : List Ev}
theorem fi_bl (hl : C.length = n) (ha : Ar w F p C E) (base hits k byte : Int) (m e : BitVec 64) :
    Calls Try.prog 20 #[.pointer (some ⟨p, 0, none⟩), .int .i64 base, .int .i64 hits, .int .i64 k, .int .i64 byte, .int .u64 (n64 (ofM m)), .int .u64 (n64 e)] w fun e' w' => e' = .returned (.int .i64 (fiE n E.length base hits k byte true)) ∧ ∃ C2, C2.length = n ∧ ArTo w F p C2 (fiB n E base hits k byte) w' := by
  subst hl
  refine (fill_all ha base hits k byte (ofM m) e).mono fun e' w' ⟨he, ht⟩ => ?_
  have hm : isM (ofM m) = true := by unfold ofM; exact isM_msk _
  unfold fiP at he ht
  rw [hm] at he ht
  unfold fiB
  split at he
  · rename_i hz
    rw [if_pos hz] at ht ⊢
    rw [hz]
    exact ⟨he, _, (fiS_len _ _ _ _ _ _).1, by rw [← fiS_ev _ _ (decide (ofM m = msk true)) e (C, E)]; exact ht⟩
  · rename_i hz
    rw [if_neg hz] at ht ⊢
    exact ⟨he, C, rfl, ht⟩
theorem rd_bl (hl : C.length = n) (ha : Ar w F p C E) (base k : Int) :
    Calls Try.prog 21 #[.pointer (some ⟨p, 0, none⟩), .int .i64 base, .int .i64 k] w fun e' w' => (∃ v, e' = .returned (.tuple #[v, .int .i64 (ckS n E.length base k)])) ∧ ∃ C2, C2.length = n ∧ ArTo w F p C2 (rdB n E base k) w' := by
  subst hl
  unfold rdB
  split
  · rename_i hz
    obtain ⟨g1, g2, g3, g4, g5⟩ := ckS_zero hz
    obtain ⟨base, rfl⟩ := Int.eq_ofNat_of_zero_le g3
    obtain ⟨k, rfl⟩ := Int.eq_ofNat_of_zero_le (show 0 ≤ k by omega)
    rw [hz]
    exact (read_ok ha base k hz).mono fun e' w' ⟨g, he, hw⟩ => ⟨⟨_, he⟩, C, rfl, hw.done⟩
  · rename_i hz
    exact (read_bad ha base k hz).mono fun e' w' ⟨he, hw⟩ => ⟨⟨_, he⟩, C, rfl, hw⟩
theorem wi_bl (hl : C.length = n) (ha : Ar w F p C E) (base k : Int) :
    Calls Try.prog 31 #[.pointer (some ⟨p, 0, none⟩), .int .i64 base, .int .i64 k] w fun e' w' => e' = .returned (.int .i64 (ckS n E.length base k)) ∧ ∃ C2, C2.length = n ∧ ArTo w F p C2 (wiB n E base k) w' := by
  subst hl
  refine (wipe_all ha base k).mono fun e' w' ⟨he, ht⟩ => ?_
  unfold wiP at he ht
  unfold wiB
  split at he
  · rename_i hz
    rw [if_pos hz] at ht ⊢
    rw [hz]
    exact ⟨he, _, (wrS_len _ _ _ _).1, by rw [← wrS_ev _ (fun _ => sl0) (C, E)]; exact ht⟩
  · rename_i hz
    rw [if_neg hz] at ht ⊢
    exact ⟨he, C, rfl, ht⟩
end
theorem TwinL.sub {w0 w : World} {bs bs' : Bks} {p q n : Nat} {E E' : List Ev} (h : TwinL w0 w bs p q n E E') (hs : ∀ x ∈ bs', x ∈ bs) : TwinL w0 w bs' p q n E E' := by
  obtain ⟨C, C', h1, h2, F, R, ha, hr, ho, hf, hg, hd, hb⟩ := h
  exact ⟨C, C', h1, h2, F, R, ha, hr, ho, hf, hg, hd, fun x hx => hb x (hs x hx)⟩
theorem own_formE {w : World} {base n : Nat} {t : TypeId} {v : Value} {T : List Ev} (h : w.ownsRow base t 2 v n (evs T)) (hn : 0 < n) : ∃ g c, v = .slice (some ⟨g, 0, none⟩) n c ∧ g < w.heap.size ∧ ∀ (j : Nat) (u : Value), (evs T)[j]? = some u → w.cell? ⟨g, 0 + j, none⟩ = some u := by
  have hr := Rd.own h (F := fun _ => True) (fun _ _ => trivial)
  rcases h.2 with ⟨_, h2⟩ | ⟨g, cap, cur, rfl, _⟩
  · have := h.1; rw [h2] at this; simp at this; omega
  · obtain ⟨A, c, hv, _, _, hx⟩ := hr
    obtain ⟨b, o, rfl, _, hb, hy⟩ := hx hn
    injection hv with hv
    injection hv with hv
    injection hv with hb1 ho1
    subst hb1 ho1
    exact ⟨g, cap, rfl, hb, hy⟩
/-- How far the stores have come. -/
def nxN (j : Nat) : Nat := 3 * (j / 4) + (j % 4 - 1)
theorem nxN_same (j : Nat) (h : j % 4 = 0) : nxN (j + 1) = nxN j := by unfold nxN; omega
theorem nxN_next (j : Nat) (h : j % 4 ≠ 0) : nxN (j + 1) = nxN j + 1 := by unfold nxN; omega
theorem fvA_ld (hits first j : Nat) (h : j % 4 = 0) : fvA hits first j = (1, hits + j / 4) := by unfold fvA; rw [if_pos h]
theorem fvA_st (hits first j : Nat) (h : j % 4 ≠ 0) : fvA hits first j = (2, first + nxN j) := by unfold fvA nxN; rw [if_neg h, Nat.add_assoc]
theorem box12 {w0 w : World} {bs : Bks} {p q n bc : Nat} {E E' : List Ev} {x0 x1 x2 x3 y0 y1 y2 y3 : Int} {m z m2 z2 : BitVec 64} {t : TypeId} (h : TwinL w0 w ((bc, t, #[.int .i64 x0, .int .i64 x1, .int .i64 x2, .int .i64 x3, .int .u64 (n64 m), .int .u64 (n64 z), .int .i64 y0, .int .i64 y1, .int .i64 y2, .int .i64 y3, .int .u64 (n64 m2), .int .u64 (n64 z2)]) :: bs) p q n E E') :
    w.cell? ⟨bc, 0, none⟩ = some (.int .i64 x0) ∧ w.cell? ⟨bc, 1, none⟩ = some (.int .i64 x1) ∧ w.cell? ⟨bc, 2, none⟩ = some (.int .i64 x2) ∧ w.cell? ⟨bc, 3, none⟩ = some (.int .i64 x3) ∧ w.cell? ⟨bc, 4, none⟩ = some (.int .u64 (n64 m)) ∧ w.cell? ⟨bc, 5, none⟩ = some (.int .u64 (n64 z)) ∧ w.cell? ⟨bc, 6, none⟩ = some (.int .i64 y0) ∧ w.cell? ⟨bc, 7, none⟩ = some (.int .i64 y1) ∧ w.cell? ⟨bc, 8, none⟩ = some (.int .i64 y2) ∧ w.cell? ⟨bc, 9, none⟩ = some (.int .i64 y3) ∧ w.cell? ⟨bc, 10, none⟩ = some (.int .u64 (n64 m2)) ∧ w.cell? ⟨bc, 11, none⟩ = some (.int .u64 (n64 z2)) := by
  have h1 := h.blk (List.mem_cons_self ..)
  exact ⟨h1.cell 0, h1.cell 1, h1.cell 2, h1.cell 3, h1.cell 4, h1.cell 5, h1.cell 6, h1.cell 7, h1.cell 8, h1.cell 9, h1.cell 10, h1.cell 11⟩
theorem call_cells {w0 w : World} {p q n g1 g2 : Nat} {E E' : List Ev} {x0 x1 x2 x3 y0 y1 y2 y3 : Int} {m z m2 z2 : BitVec 64} {t : TypeId} (h : TwinL w0 w [(g1, t, #[.int .i64 x0, .int .i64 x1, .int .i64 x2, .int .i64 x3, .int .u64 (n64 m), .int .u64 (n64 z)]), (g2, t, #[.int .i64 y0, .int .i64 y1, .int .i64 y2, .int .i64 y3, .int .u64 (n64 m2), .int .u64 (n64 z2)])] p q n E E') :
    w.cell? ⟨g1, 0, none⟩ = some (.int .i64 x0) ∧ w.cell? ⟨g1, 1, none⟩ = some (.int .i64 x1) ∧ w.cell? ⟨g1, 2, none⟩ = some (.int .i64 x2) ∧ w.cell? ⟨g1, 3, none⟩ = some (.int .i64 x3) ∧ w.cell? ⟨g1, 4, none⟩ = some (.int .u64 (n64 m)) ∧ w.cell? ⟨g1, 5, none⟩ = some (.int .u64 (n64 z)) ∧ w.cell? ⟨g2, 0, none⟩ = some (.int .i64 y0) ∧ w.cell? ⟨g2, 1, none⟩ = some (.int .i64 y1) ∧ w.cell? ⟨g2, 2, none⟩ = some (.int .i64 y2) ∧ w.cell? ⟨g2, 3, none⟩ = some (.int .i64 y3) ∧ w.cell? ⟨g2, 4, none⟩ = some (.int .u64 (n64 m2)) ∧ w.cell? ⟨g2, 5, none⟩ = some (.int .u64 (n64 z2)) := by
  have h1 := h.blk (List.mem_cons_self ..)
  have h2 := h.blk (List.mem_cons_of_mem _ (List.mem_cons_self ..))
  exact ⟨h1.cell 0, h1.cell 1, h1.cell 2, h1.cell 3, h1.cell 4, h1.cell 5, h2.cell 0, h2.cell 1, h2.cell 2, h2.cell 3, h2.cell 4, h2.cell 5⟩
set_option maxHeartbeats 16000000 in
theorem blind_small {w : World} (A0 A1 : Option Addr) (n0 c0 n1 c1 : Nat) (X Y : List (BitVec 64)) (h0 : Rd w (Old w) 1 (.slice A0 n0 c0) n0 (u64s X)) (h1 : Rd w (Old w) 1 (.slice A1 n1 c1) n1 (u64s Y)) (z0 : NilOk (.slice A0 n0 c0)) (z1 : NilOk (.slice A1 n1 c1)) (hn0 : n0 ≤ 200) (hn1 : n1 ≤ 200) (x0 x1 x2 x3 y0 y1 y2 y3 : Int) (m z m2 z2 : BitVec 64) :
    Calls Try.prog 6 #[.slice A0 n0 c0, .slice A1 n1 c1, .agg #[.int .i64 x0, .int .i64 x1, .int .i64 x2, .int .i64 x3, .int .u64 (n64 m), .int .u64 (n64 z), .int .i64 y0, .int .i64 y1, .int .i64 y2, .int .i64 y3, .int .u64 (n64 m2), .int .u64 (n64 z2)]] w (BoolNew true w) := by
  obtain ⟨i0, hi, hz0, hz1, hz2⟩ := info_parts Try.infoU
  have hl0 : X.length = n0 := by obtain ⟨_, _, _, _, hl, _⟩ := h0; rw [length_u64s] at hl; omega
  have hl1 : Y.length = n1 := by obtain ⟨_, _, _, _, hl, _⟩ := h1; rw [length_u64s] at hl; omega
  obtain ⟨hge0, hge1, hle⟩ := mxN_ge n0 n1
  have H0 := Lib.hid h0
  have H1 := Lib.hid h1
  have Z0 := Lib.hid z0
  have Z1 := Lib.hid z1
  have L0 := Lib.hid hl0
  have L1 := Lib.hid hl1
  have hd0 : decide (200 < (n0 : Int)) = false := by simp; omega
  have hd1 : decide (200 < (n1 : Int)) = false := by simp; omega
  clear h0 h1 z0 z1 hl0 hl1

  go_enter Try.func6, Try.ntmps6
  go_wp2_with (at_builtin; refine wpList_append_rd rfl _ _ 40 rfl (w.heap.size + 1) 41 i0 (.int .u64 0) 1 8 Try.underlying40 hi hz0 hz1 hz2 rfl (by decide) (w.heap.size + 1) 0 0 [] rfl ?c0 (.slice A0 n0 c0) n0 (u64s X) rfl (F := Old w) ?c1 Z0.out (u64s_one' X) ?c3 ?c4 ?c5 ?_)
  case c0 => simpa using World.ownsRow_made (w.alloc (.cells #[.int .i64 x0, .int .i64 x1, .int .i64 x2, .int .i64 x3, .int .u64 (n64 m), .int .u64 (n64 z), .int .i64 y0, .int .i64 y1, .int .i64 y2, .int .i64 y3, .int .u64 (n64 m2), .int .u64 (n64 z2)] 60)) #[] 0 (Nat.le_refl _) (Nat.zero_le _) rfl
  case c1 => exact H0.out.keep (Off.alloc (Off.alloc (Off.refl Nob w) _) _) (fun _ _ h => h)
  case c3 => unfold maxLen; omega
  case c4 => omega
  case c5 => simp
  intro g1 cap1 w1 ho1 hg1 ha1
  have O1 : Hid (Off Nob (w.alloc (.cells #[.int .i64 x0, .int .i64 x1, .int .i64 x2, .int .i64 x3, .int .u64 (n64 m), .int .u64 (n64 z), .int .i64 y0, .int .i64 y1, .int .i64 y2, .int .i64 y3, .int .u64 (n64 m2), .int .u64 (n64 z2)] 60)) w1) := Off.grown (Off.alloc (Off.refl _ _) _) hg1 (fun k hk => .inr (by injection hk with hk; simp; omega))
  have W1 := Lib.hid ho1
  clear hg1 ha1 ho1
  go_wp2_with (at_builtin; refine wpList_append_zeros rfl _ _ 40 3 rfl (w.heap.size + 1) 41 i0 (.int .u64 0) 8 .i64 .i64 Try.underlying40 Try.underlying3 hi hz0 hz1 hz2 rfl rfl g1 n0 cap1 (u64s X) rfl W1.out (mxN n0 n1 - n0) (mxN n0 n1) ?d0 ?d1 ?d2 ?d3 ?d4 ?_)
  case d0 => omega
  case d1 => exact congrArg (Value.int .i64) (by omega)
  case d2 => unfold maxLen; omega
  case d3 => omega
  case d4 => have := O1.out.size; simp at this; omega
  intro g2 cap2 w2 ho2 hg2 ha2
  have O2 : Hid (Off Nob (w.alloc (.cells #[.int .i64 x0, .int .i64 x1, .int .i64 x2, .int .i64 x3, .int .u64 (n64 m), .int .u64 (n64 z), .int .i64 y0, .int .i64 y1, .int .i64 y2, .int .i64 y3, .int .u64 (n64 m2), .int .u64 (n64 z2)] 60)) w2) := Off.grown O1.out hg2 (fun k hk => .inr (by injection hk with hk; subst hk; have := (W1.out.lt g1 rfl).1; simp; omega))
  have W2 : Hid (Rd w2 (fun k => w.heap.size + 1 ≤ k ∧ k < w2.heap.size) 1 (.slice (some ⟨g2, 0, none⟩) (mxN n0 n1) cap2) (mxN n0 n1) (u64s (padTo X (mxN n0 n1)))) := by
    have := Rd.own ho2 (F := fun k => w.heap.size + 1 ≤ k ∧ k < w2.heap.size) (fun k hk => ho2.lt k hk)
    rw [u64s_zeros] at this
    unfold padTo
    rw [L0.out]
    exact this
  clear hg2 ha2 ho2 W1 O1
  go_wp2_with fail
  refine (arena_any W2.out (by rw [padTo_length _ _ (by have := L0.out; omega)]; omega)).mono ?_
  rintro e w3 h3
  obtain ⟨p, r, rfl, k3⟩ := h3.one (w0 := w) (bs := [(w.heap.size, 60, #[.int .i64 x0, .int .i64 x1, .int .i64 x2, .int .i64 x3, .int .u64 (n64 m), .int .u64 (n64 z), .int .i64 y0, .int .i64 y1, .int .i64 y2, .int .i64 y3, .int .u64 (n64 m2), .int .u64 (n64 z2)])]) ((Off.alloc (Off.refl _ _) _).also O2.out) (fun x hx => by
    rw [List.mem_singleton] at hx
    subst hx
    exact (Blk.new _ _ _).to (O2.out.block _ (by simp) (fun h => h)))
  rw [padTo_length _ _ (by have := L0.out; omega)] at k3
  have H3 := Lib.hid k3
  clear h3 k3 W2 O2
  go_wp2_with (at_builtin; refine wpList_append_rd rfl _ _ 40 rfl w3.heap.size 41 i0 (.int .u64 0) 1 8 Try.underlying40 hi hz0 hz1 hz2 rfl (by decide) w3.heap.size 0 0 [] rfl ?c0 (.slice A1 n1 c1) n1 (u64s Y) rfl (F := Old w) ?c1 Z1.out (u64s_one' Y) ?c3 ?c4 ?c5 ?_)
  case c0 => exact World.ownsRow_made w3 #[] 0 (Nat.le_refl _) (Nat.zero_le _) rfl
  case c1 => exact H1.out.keep (Off.alloc H3.out.old _) (fun _ _ h => h)
  case c3 => unfold maxLen; omega
  case c4 => omega
  case c5 => simp
  intro g3 cap3 w4 ho3 hg3 ha3
  have O3 : Hid (Off Nob w3 w4) := Off.grown (Off.alloc (Off.refl _ _) _) hg3 (fun k hk => .inr (by injection hk with hk; omega))
  have W3 := Lib.hid ho3
  clear hg3 ha3 ho3
  go_wp2_with (at_builtin; refine wpList_append_zeros rfl _ _ 40 3 rfl w3.heap.size 41 i0 (.int .u64 0) 8 .i64 .i64 Try.underlying40 Try.underlying3 hi hz0 hz1 hz2 rfl rfl g3 n1 cap3 (u64s Y) rfl W3.out (mxN n0 n1 - n1) (mxN n0 n1) ?d0 ?d1 ?d2 ?d3 ?d4 ?_)
  case d0 => omega
  case d1 => exact congrArg (Value.int .i64) (by omega)
  case d2 => unfold maxLen; omega
  case d3 => omega
  case d4 => exact O3.out.size
  intro g4 cap4 w5 ho4 hg4 ha4
  have O4 : Hid (Off Nob w3 w5) := Off.grown O3.out hg4 (fun k hk => .inr (by injection hk with hk; subst hk; exact (W3.out.lt g3 rfl).1))
  have W4 : Hid (Rd w5 (fun k => w3.heap.size ≤ k ∧ k < w5.heap.size) 1 (.slice (some ⟨g4, 0, none⟩) (mxN n0 n1) cap4) (mxN n0 n1) (u64s (padTo Y (mxN n0 n1)))) := by
    have := Rd.own ho4 (F := fun k => w3.heap.size ≤ k ∧ k < w5.heap.size) (fun k hk => ho4.lt k hk)
    rw [u64s_zeros] at this
    unfold padTo
    rw [L1.out]
    exact this
  clear hg4 ha4 ho4 W3 O3
  go_wp2_with fail
  refine (arena_any W4.out (by rw [padTo_length _ _ (by have := L1.out; omega)]; omega)).mono ?_
  rintro e w6 h6
  obtain ⟨q, r2, rfl, k6⟩ := (H3.out.off O4.out).two h6
  rw [padTo_length _ _ (by have := L1.out; omega)] at k6
  have TW := Lib.hid k6
  have PX : Hid ((pad (padTo X (mxN n0 n1))).length = max (mxN n0 n1) 1) := Lib.hid (by rw [pad_length, padTo_length _ _ (by have := L0.out; omega)])
  have PY : Hid ((pad (padTo Y (mxN n0 n1))).length = max (mxN n0 n1) 1) := Lib.hid (by rw [pad_length, padTo_length _ _ (by have := L1.out; omega)])
  clear h6 k6 W4 O4 H3 H0 H1 Z0 Z1 L0 L1
  revert TW PX PY
  generalize pad (padTo X (mxN n0 n1)) = CX
  generalize pad (padTo Y (mxN n0 n1)) = CY
  intro TW PX PY
  have hN200 : mxN n0 n1 ≤ 200 := by omega
  clear hge0 hge1 hle hn0 hn1 hd0 hd1 hi hz0 hz1 hz2
  revert TW PX PY hN200
  generalize mxN n0 n1 = N
  intro TW PX PY hN200

  have T1 : Hid (TwinL w w6 [(w.heap.size, 60, #[.int .i64 x0, .int .i64 x1, .int .i64 x2, .int .i64 x3, .int .u64 (n64 m), .int .u64 (n64 z), .int .i64 y0, .int .i64 y1, .int .i64 y2, .int .i64 y3, .int .u64 (n64 m2), .int .u64 (n64 z2)])] p q (max N 1) (stores N) (stores N)) := Lib.hid ⟨_, _, PX.out, PY.out, TW.out⟩
  clear TW PX PY
  have hb0 : w.heap.size < w6.heap.size := (TwinL.blk T1.out (b := w.heap.size) (t := 60) (cs := #[.int .i64 x0, .int .i64 x1, .int .i64 x2, .int .i64 x3, .int .u64 (n64 m), .int .u64 (n64 z), .int .i64 y0, .int .i64 y1, .int .i64 y2, .int .i64 y3, .int .u64 (n64 m2), .int .u64 (n64 z2)]) (List.mem_cons_self ..)).lt
  revert T1 hb0
  generalize w6 = W
  generalize w.heap.size = bc
  generalize hn9 : max N 1 = n
  have hn1 : 1 ≤ n := by omega
  have hn2 : n ≤ 200 := by omega
  have hn3 : N ≤ n := by omega
  clear hn9
  intro HT1 hb0
  by_cases hz : fiE n (stores N).length x0 x1 x2 x3 true = 0
  · obtain ⟨k1, k2, k3, k4, k5, k6, -, k7, k8, k9, k10, k11, k12, k13⟩ := fiE_zero hz
    obtain ⟨b, rfl⟩ := Int.eq_ofNat_of_zero_le k5
    obtain ⟨h, rfl⟩ := Int.eq_ofNat_of_zero_le k7
    obtain ⟨k, rfl⟩ := Int.eq_ofNat_of_zero_le (show 0 ≤ x2 by omega)
    obtain ⟨y, rfl⟩ := Int.eq_ofNat_of_zero_le k3
    have kb := box12 HT1.out
    have HZ := Lib.hid hz
    obtain ⟨T, hT⟩ : ∃ T, fvE h (b + 3 * k * y) [] k = T := ⟨_, rfl⟩
    obtain ⟨E1, hE1⟩ : ∃ E1, fvE h (b + 3 * k * y) (stores N) k = E1 := ⟨_, rfl⟩
    have TL : Hid (T.length = 4 * k) := Lib.hid (by rw [← hT, fvE_len]; simp)
    have TA : Hid (∀ j, j < 4 * k → evAt T j = fvA h (b + 3 * k * y) j) := Lib.hid (fun j hj => by rw [← hT]; exact fvE_at _ _ _ _ hj)
    have EL : Hid (E1.length = N + 4 * k) := Lib.hid (by rw [← hE1, fvE_len, length_stores])
    have ED : Hid (E1.drop N = T) := Lib.hid (by rw [← hE1, fvE_from, hT, List.drop_left' (length_stores N)])
    have HFI : Hid (∀ C w F a m z, C.length = n → Ar w F a C (stores N) → Calls Try.prog 20 #[.pointer (some ⟨a, 0, none⟩), .int .i64 (b : Int), .int .i64 (h : Int), .int .i64 (k : Int), .int .i64 (y : Int), .int .u64 (n64 (ofM m)), .int .u64 (n64 z)] w fun e' w' => e' = .returned (.int .i64 0) ∧ ∃ C2, C2.length = n ∧ ArTo w F a C2 E1 w') := Lib.hid (fun C w F a m z hl h0 => by
      have := fi_bl hl h0 (b : Int) (h : Int) (k : Int) (y : Int) m z
      unfold fiB at this
      rw [HZ.out, if_pos rfl] at this
      simp only [Int.toNat_natCast] at this
      rw [hE1] at this
      exact this)
    clear hz hT hE1 HZ
    go_wp2_with fail
    go_cut [12, 13] (fun s1 s2 wx => ∃ g1 g2 : Nat, s1 = .pointer (some ⟨g1, 0, none⟩) ∧ s2 = .pointer (some ⟨g2, 0, none⟩) ∧ TwinL w wx [(g1, 59, #[.int .i64 (b : Int), .int .i64 (h : Int), .int .i64 (k : Int), .int .i64 (y : Int), .int .u64 (n64 m), .int .u64 (n64 z)]), (g2, 59, #[.int .i64 y0, .int .i64 y1, .int .i64 y2, .int .i64 y3, .int .u64 (n64 m2), .int .u64 (n64 z2)])] p q n (stores N) (stores N))
    case first =>
      go_region_held3 (fun w' => w'.cell? ⟨bc, 0, none⟩ = some (.int .i64 (b : Int)) ∧ w'.cell? ⟨bc, 1, none⟩ = some (.int .i64 (h : Int)) ∧ w'.cell? ⟨bc, 2, none⟩ = some (.int .i64 (k : Int)) ∧ w'.cell? ⟨bc, 3, none⟩ = some (.int .i64 (y : Int)) ∧ w'.cell? ⟨bc, 4, none⟩ = some (.int .u64 (n64 m)) ∧ w'.cell? ⟨bc, 5, none⟩ = some (.int .u64 (n64 z)) ∧ w'.cell? ⟨bc, 6, none⟩ = some (.int .i64 y0) ∧ w'.cell? ⟨bc, 7, none⟩ = some (.int .i64 y1) ∧ w'.cell? ⟨bc, 8, none⟩ = some (.int .i64 y2) ∧ w'.cell? ⟨bc, 9, none⟩ = some (.int .i64 y3) ∧ w'.cell? ⟨bc, 10, none⟩ = some (.int .u64 (n64 m2)) ∧ w'.cell? ⟨bc, 11, none⟩ = some (.int .u64 (n64 z2)))
        (first | with_reducible assumption | go_keep)
        (fail)
      all_goals go_wp2_with fail
      all_goals go_meet
      all_goals first
        | exact ⟨_, _, rfl, rfl, (((HT1.out.push _ _).push _ _).off (Off.drew (Off.refl _ _))).sub (fun x hx => by simp at hx ⊢; rcases hx with rfl | rfl <;> simp)⟩
        | exact ⟨_, _, rfl, rfl, ((HT1.out.push _ _).push _ _).sub (fun x hx => by simp at hx ⊢; rcases hx with rfl | rfl <;> simp)⟩
    case rest =>
      obtain ⟨g1, g2, rfl, rfl, hcut⟩ := hcut
      have kb1 := call_cells hcut
      have U0 := Lib.hid hcut
      clear hcut kb HT1 hb0
      go_wp2_with fail
      go_region_held3 (fun w' => w'.cell? ⟨g1, 0, none⟩ = some (.int .i64 (b : Int)) ∧ w'.cell? ⟨g1, 1, none⟩ = some (.int .i64 (h : Int)) ∧ w'.cell? ⟨g1, 2, none⟩ = some (.int .i64 (k : Int)) ∧ w'.cell? ⟨g1, 3, none⟩ = some (.int .i64 (y : Int)) ∧ w'.cell? ⟨g1, 4, none⟩ = some (.int .u64 (n64 m)) ∧ w'.cell? ⟨g1, 5, none⟩ = some (.int .u64 (n64 z)) ∧ w'.cell? ⟨g2, 0, none⟩ = some (.int .i64 y0) ∧ w'.cell? ⟨g2, 1, none⟩ = some (.int .i64 y1) ∧ w'.cell? ⟨g2, 2, none⟩ = some (.int .i64 y2) ∧ w'.cell? ⟨g2, 3, none⟩ = some (.int .i64 y3) ∧ w'.cell? ⟨g2, 4, none⟩ = some (.int .u64 (n64 m2)) ∧ w'.cell? ⟨g2, 5, none⟩ = some (.int .u64 (n64 z2)))
        (first | with_reducible assumption | go_keep)
        (first
          | (go_at_call 26; refine (rof_any _ _).mono ?_; rintro e w' ⟨rfl, rfl⟩)
          | (go_at_call 20; refine (TwinL.first (U0.out.off (by first | with_reducible exact Off.refl _ _ | with_reducible exact Off.drew (Off.refl _ _) | with_reducible exact Off.drewN (Off.refl _ _) _)) (fun C w F hl h => HFI.out C w F p m z hl h)).mono ?_; rintro e s1 ⟨rfl, h1⟩; have ks1 := call_cells h1; have U1 := Lib.hid h1; clear h1))
      clear U0 kb1
      go_wp2_with fail
      go_region_held3 (fun w' => w'.cell? ⟨g1, 0, none⟩ = some (.int .i64 (b : Int)) ∧ w'.cell? ⟨g1, 1, none⟩ = some (.int .i64 (h : Int)) ∧ w'.cell? ⟨g1, 2, none⟩ = some (.int .i64 (k : Int)) ∧ w'.cell? ⟨g1, 3, none⟩ = some (.int .i64 (y : Int)) ∧ w'.cell? ⟨g1, 4, none⟩ = some (.int .u64 (n64 m)) ∧ w'.cell? ⟨g1, 5, none⟩ = some (.int .u64 (n64 z)) ∧ w'.cell? ⟨g2, 0, none⟩ = some (.int .i64 y0) ∧ w'.cell? ⟨g2, 1, none⟩ = some (.int .i64 y1) ∧ w'.cell? ⟨g2, 2, none⟩ = some (.int .i64 y2) ∧ w'.cell? ⟨g2, 3, none⟩ = some (.int .i64 y3) ∧ w'.cell? ⟨g2, 4, none⟩ = some (.int .u64 (n64 m2)) ∧ w'.cell? ⟨g2, 5, none⟩ = some (.int .u64 (n64 z2)))
        (first | with_reducible assumption | go_keep)
        (first
          | (go_at_call 26; refine (rof_any _ _).mono ?_; rintro e w' ⟨rfl, rfl⟩)
          | (go_at_call 20; refine (TwinL.second (U1.out.off (by first | with_reducible exact Off.refl _ _ | with_reducible exact Off.drew (Off.refl _ _) | with_reducible exact Off.drewN (Off.refl _ _) _)) (fun C w F hl h => HFI.out C w F q m2 z2 hl h)).mono ?_; rintro e s2 ⟨rfl, h2⟩; have ks2 := call_cells h2; have U2 := Lib.hid h2; clear h2))
      clear U1 ks1
      go_wp2_with fail
      obtain ⟨CP, FP, hp⟩ := U2.out.ar1
      have HP := Lib.hid (events_ok hp)
      clear hp
      refine HP.out.mono ?_
      rintro e v1 ⟨l1, rfl, hl1, o1⟩
      have V1 := Lib.hid (NewE.rd hl1)
      have T3 := Lib.hid (U2.out.off o1)
      clear hl1 o1 HP
      go_wp2_with fail
      obtain ⟨CQ, FQ, hq⟩ := T3.out.ar2
      have HQ := Lib.hid (events_ok hq)
      clear hq
      refine HQ.out.mono ?_
      rintro e v2 ⟨l2, rfl, hl2, o2⟩
      have V2 := Lib.hid (V1.out.keep o2 (fun _ _ h => h))
      have V3 := Lib.hid (NewE.rd hl2)
      have T4 := Lib.hid (T3.out.off o2)
      clear hl2 o2 HQ V1
      go_wp2_with fail
      refine (sameEv V2.out V3.out).mono ?_
      rintro e v3 ⟨rfl, o3⟩
      have O3 := Lib.hid (T4.out.old.also o3)

      have TF := Lib.hid (T4.out.off o3)
      obtain ⟨el, hel9⟩ : ∃ el, E1.length = el := ⟨_, rfl⟩
      have HST : Hid (∀ W, Off Nob v3 W → Calls Try.prog 30 #[.pointer (some ⟨p, 0, none⟩)] W fun e w' => e = .returned (.int .i64 (el : Int)) ∧ W = w') := Lib.hid (fun W o => by
        obtain ⟨C, F, ha⟩ := (TF.out.off o).ar1
        have := steps_any ha
        rwa [hel9] at this)
      have HSI : Hid (∀ W, Off Nob v3 W → Calls Try.prog 29 #[.pointer (some ⟨p, 0, none⟩), .int .i64 (IntKind.i64.wrap ((el : Int) - IntKind.i64.wrap (4 * (k : Int))))] W (NewE2 W T)) := Lib.hid (fun W o => by
        obtain ⟨C, F, ha⟩ := (TF.out.off o).ar1
        have := since_ok ha N (by rw [EL.out]; omega)
        rw [ED.out] at this
        rwa [show IntKind.i64.wrap ((el : Int) - IntKind.i64.wrap (4 * (k : Int))) = (N : Int) by have := EL.out; rw [IntWalk.i64_in (4 * (k : Int)) (by omega), IntWalk.i64_in _ (by omega)]; omega])
      have hel : el ≤ 1000 := by have := EL.out; omega
      have hel2 : 4 * (k : Int) ≤ (el : Int) := by have := EL.out; omega
      clear o3 T4 ED EL HFI V2 V3 O3 hel9
      have kf := call_cells TF.out
      go_wp2_with fail
      obtain ⟨f, hf⟩ : ∃ f : Nat, b + 3 * k * y = f := ⟨_, rfl⟩
      have hfi : (b : Int) + 3 * (k : Int) * (y : Int) = (f : Int) := by rw [← hf]; push_cast; rfl
      rw [hfi]
      rw [hf] at TA
      have hff : f ≤ 70000 := by omega
      have hhh : h ≤ 200 := by omega
      have hkk : 1 ≤ k := by omega
      have hkk2 : k ≤ 16 := by omega
      clear hf hfi k3 k4 k5 k6 k7 k8 k9 k10 k11 k12 k13
      have kf2 := kf.2.2.1
      clear kf
      go_region_held3 (fun w' => w'.cell? ⟨g1, 2, none⟩ = some (.int .i64 (k : Int)))
        (first | with_reducible assumption | go_keep)
        (first
          | (go_at_call 30; refine (HST.out _ (by first | with_reducible exact Off.refl _ _ | with_reducible exact Off.drew (Off.refl _ _) | with_reducible exact Off.drewN (Off.refl _ _) _)).mono ?_; rintro e w' ⟨rfl, rfl⟩)
          | (go_at_call 29; refine (HSI.out _ (by first | with_reducible exact Off.refl _ _ | with_reducible exact Off.drew (Off.refl _ _) | with_reducible exact Off.drewN (Off.refl _ _) _)).mono ?_; rintro e s5 ⟨vs, rfl, hs5, o5⟩; have U5 := Lib.hid (TF.out.off (Off.also (by first | with_reducible exact Off.refl _ _ | with_reducible exact Off.drew (Off.refl _ _) | with_reducible exact Off.drewN (Off.refl _ _) _) o5)); have ks5 := (call_cells U5.out).2.2.1; have SR := Lib.hid hs5; clear hs5 o5))
      obtain ⟨gs, cs, rfl, hgs, hcs⟩ := own_formE SR.out (by rw [TL.out]; omega)
      have HGS := Lib.hid hgs
      have HCS := Lib.hid hcs
      rw [TL.out]
      clear hgs hcs SR TF HST HSI ks5 kf2
      go_wp2_with fail
      go_loopw [19, 20] (fun nx i wr => ∃ j : Nat, j ≤ 4 * k ∧ i = .int .i64 (j : Int) ∧ nx = .int .i64 ((f + nxN j : Nat) : Int) ∧ Off Nob s5 wr) (fun _ i _ => 4 * k - (intOf i).toNat)
      case atStart => exact ⟨0, Nat.zero_le _, rfl, rfl, Off.refl _ _⟩
      case round =>
        obtain ⟨j, hj, rfl, rfl, hrel⟩ := hrel
        have HR := Lib.hid hrel
        have UJ := Lib.hid (U5.out.off hrel)
        have kj := call_cells UJ.out
        clear hrel
        by_cases hlt : j < 4 * k
        · have hnx : nxN j ≤ 4 * j := by unfold nxN; omega
          obtain ⟨e1, e2⟩ := evs_at T j (by rw [TL.out]; exact hlt)
          have d1 : wr.cell? ⟨gs, j * 2, none⟩ = some (.int .i32 ((evAt T j).1 : Int)) := by have := (HR.out.cell_old HGS.out _).trans (HCS.out _ _ e1); rwa [Nat.zero_add, Nat.mul_comm] at this
          have d2 : wr.cell? ⟨gs, j * 2 + 1, none⟩ = some (.int .i32 ((evAt T j).2 : Int)) := by have := (HR.out.cell_old HGS.out _).trans (HCS.out _ _ e2); rwa [Nat.zero_add, Nat.mul_comm] at this
          rw [TA.out j hlt] at d1 d2
          clear e1 e2
          by_cases h4 : j % 4 = 0
          · have hb4 : ((j : Int) % 4 == 0) = true := by rw [beq_iff_eq]; omega
            rw [fvA_ld _ _ _ h4] at d1 d2
            push_cast at d1 d2
            have HNS := Lib.hid (nxN_same j h4)
            have hw1 : IntKind.i32.wrap ((h : Int) + (j : Int) / 4) = (h : Int) + (j : Int) / 4 := IntWalk.i32_in _ (by omega)
            go_wp2_with fail
            go_quiet (fail)
            go_wp2_with fail
            go_roundw
            case rel => exact ⟨j + 1, hlt, by go_num, by rw [HNS.out], HR.out.drewN _⟩
            case measure => simp [intOf]; omega
          · have hb4 : ((j : Int) % 4 == 0) = false := by rw [beq_eq_false_iff_ne]; omega
            rw [fvA_st _ _ _ h4] at d1 d2
            have HNS := Lib.hid (nxN_next j h4)
            obtain ⟨u, hu⟩ : ∃ u, f + nxN j = u := ⟨_, rfl⟩
            have hu2 : u ≤ 100000 := by omega
            rw [hu] at d1 d2
            rw [hu]
            have hw1 : IntKind.i32.wrap (u : Int) = (u : Int) := IntWalk.i32_in _ (by omega)
            have HU := Lib.hid hu
            clear hu
            go_wp2_with fail
            go_roundw
            case rel => exact ⟨j + 1, hlt, by go_num, by rw [HNS.out, ← Nat.add_assoc, HU.out]; rfl, HR.out⟩
            case measure => simp [intOf]; omega
        · obtain rfl : j = 4 * k := by omega
          go_wp2_with fail
          refine (TwinL.first UJ.out (fun C w F hl h => rd_bl hl h b k)).mono ?_
          rintro e t1 ⟨⟨v1, rfl⟩, ht⟩
          have kt1 := call_cells ht
          have R1 := Lib.hid ht
          clear ht
          go_wp2_with fail
          refine (TwinL.second R1.out (fun C w F hl h => rd_bl hl h b k)).mono ?_
          rintro e t2 ⟨⟨v2, rfl⟩, ht⟩
          have kt2 := call_cells ht
          have R2 := Lib.hid ht
          clear ht kt1 R1
          go_wp2_with fail
          refine (TwinL.first R2.out (fun C w F hl h => wi_bl hl h b k)).mono ?_
          rintro e t3 ⟨rfl, ht⟩
          have kt3 := call_cells ht
          have R3 := Lib.hid ht
          clear ht kt2 R2
          go_wp2_with fail
          refine (TwinL.second R3.out (fun C w F hl h => wi_bl hl h b k)).mono ?_
          rintro e t4 ⟨rfl, ht⟩
          have R4 := Lib.hid ht
          clear ht kt3 R3
          go_wp2_with fail
          obtain ⟨CP, FP, hp⟩ := R4.out.ar1
          have HP := Lib.hid (events_ok hp)
          clear hp
          refine HP.out.mono ?_
          rintro e w1x ⟨l1x, rfl, hl1x, o1⟩
          have V1 := Lib.hid (NewE.rd hl1x)
          have TT3 := Lib.hid (R4.out.off o1)
          clear hl1x o1 HP
          go_wp2_with fail
          obtain ⟨CQ, FQ, hq⟩ := TT3.out.ar2
          have HQ := Lib.hid (events_ok hq)
          clear hq
          refine HQ.out.mono ?_
          rintro e v2 ⟨l2, rfl, hl2, o2⟩
          have V2 := Lib.hid (V1.out.keep o2 (fun _ _ h => h))
          have V3 := Lib.hid (NewE.rd hl2)
          have TT4 := Lib.hid (TT3.out.off o2)
          clear hl2 o2 HQ V1
          go_wp2_with fail
          refine (sameEv V2.out V3.out).mono ?_
          rintro e v3 ⟨rfl, o3⟩
          have O3 := Lib.hid (TT4.out.old.also o3)
          clear o3 V2 V3
          go_wp2_with fail
          refine (awake_ok _).mono ?_
          rintro e v4 ⟨rfl, o4⟩
          have O4 := Lib.hid (O3.out.also o4)
          clear o4
          go_wp2
          go_ret
          exact ⟨ret_bool (by simp), O4.out⟩

  · have kb := box12 HT1.out
    have HFI : Hid (∀ C w F a m z, C.length = n → Ar w F a C (stores N) → Calls Try.prog 20 #[.pointer (some ⟨a, 0, none⟩), .int .i64 x0, .int .i64 x1, .int .i64 x2, .int .i64 x3, .int .u64 (n64 (ofM m)), .int .u64 (n64 z)] w fun e' w' => e' = .returned (.int .i64 (fiE n (stores N).length x0 x1 x2 x3 true)) ∧ ∃ C2, C2.length = n ∧ ArTo w F a C2 (stores N) w') := Lib.hid (fun C w F a m z hl h0 => by
      have := fi_bl hl h0 x0 x1 x2 x3 m z
      unfold fiB at this
      rwa [if_neg hz] at this)
    have hzb : (fiE n (stores N).length x0 x1 x2 x3 true == 0) = false := by simpa using hz
    revert HFI hzb
    generalize fiE n (stores N).length x0 x1 x2 x3 true = fe
    intro HFI hzb
    clear hz
    go_wp2_with fail
    go_cut [12, 13] (fun s1 s2 wx => ∃ g1 g2 : Nat, s1 = .pointer (some ⟨g1, 0, none⟩) ∧ s2 = .pointer (some ⟨g2, 0, none⟩) ∧ TwinL w wx [(g1, 59, #[.int .i64 x0, .int .i64 x1, .int .i64 x2, .int .i64 x3, .int .u64 (n64 m), .int .u64 (n64 z)]), (g2, 59, #[.int .i64 y0, .int .i64 y1, .int .i64 y2, .int .i64 y3, .int .u64 (n64 m2), .int .u64 (n64 z2)])] p q n (stores N) (stores N))
    case first =>
      go_region_held3 (fun w' => w'.cell? ⟨bc, 0, none⟩ = some (.int .i64 x0) ∧ w'.cell? ⟨bc, 1, none⟩ = some (.int .i64 x1) ∧ w'.cell? ⟨bc, 2, none⟩ = some (.int .i64 x2) ∧ w'.cell? ⟨bc, 3, none⟩ = some (.int .i64 x3) ∧ w'.cell? ⟨bc, 4, none⟩ = some (.int .u64 (n64 m)) ∧ w'.cell? ⟨bc, 5, none⟩ = some (.int .u64 (n64 z)) ∧ w'.cell? ⟨bc, 6, none⟩ = some (.int .i64 y0) ∧ w'.cell? ⟨bc, 7, none⟩ = some (.int .i64 y1) ∧ w'.cell? ⟨bc, 8, none⟩ = some (.int .i64 y2) ∧ w'.cell? ⟨bc, 9, none⟩ = some (.int .i64 y3) ∧ w'.cell? ⟨bc, 10, none⟩ = some (.int .u64 (n64 m2)) ∧ w'.cell? ⟨bc, 11, none⟩ = some (.int .u64 (n64 z2)))
        (first | with_reducible assumption | go_keep)
        (fail)
      all_goals go_wp2_with fail
      all_goals go_meet
      all_goals first
        | exact ⟨_, _, rfl, rfl, (((HT1.out.push _ _).push _ _).off (Off.drew (Off.refl _ _))).sub (fun x hx => by simp at hx ⊢; rcases hx with rfl | rfl <;> simp)⟩
        | exact ⟨_, _, rfl, rfl, ((HT1.out.push _ _).push _ _).sub (fun x hx => by simp at hx ⊢; rcases hx with rfl | rfl <;> simp)⟩
    case rest =>
      obtain ⟨g1, g2, rfl, rfl, hcut⟩ := hcut
      have kb1 := call_cells hcut
      have U0 := Lib.hid hcut
      clear hcut kb HT1 hb0
      go_wp2_with fail
      go_region_held3 (fun w' => w'.cell? ⟨g1, 0, none⟩ = some (.int .i64 x0) ∧ w'.cell? ⟨g1, 1, none⟩ = some (.int .i64 x1) ∧ w'.cell? ⟨g1, 2, none⟩ = some (.int .i64 x2) ∧ w'.cell? ⟨g1, 3, none⟩ = some (.int .i64 x3) ∧ w'.cell? ⟨g1, 4, none⟩ = some (.int .u64 (n64 m)) ∧ w'.cell? ⟨g1, 5, none⟩ = some (.int .u64 (n64 z)) ∧ w'.cell? ⟨g2, 0, none⟩ = some (.int .i64 y0) ∧ w'.cell? ⟨g2, 1, none⟩ = some (.int .i64 y1) ∧ w'.cell? ⟨g2, 2, none⟩ = some (.int .i64 y2) ∧ w'.cell? ⟨g2, 3, none⟩ = some (.int .i64 y3) ∧ w'.cell? ⟨g2, 4, none⟩ = some (.int .u64 (n64 m2)) ∧ w'.cell? ⟨g2, 5, none⟩ = some (.int .u64 (n64 z2)))
        (first | with_reducible assumption | go_keep)
        (first
          | (go_at_call 26; refine (rof_any _ _).mono ?_; rintro e w' ⟨rfl, rfl⟩)
          | (go_at_call 20; refine (TwinL.first (U0.out.off (by first | with_reducible exact Off.refl _ _ | with_reducible exact Off.drew (Off.refl _ _) | with_reducible exact Off.drewN (Off.refl _ _) _)) (fun C w F hl h => HFI.out C w F p m z hl h)).mono ?_; rintro e s1 ⟨rfl, h1⟩; have ks1 := call_cells h1; have U1 := Lib.hid h1; clear h1))
      clear U0 kb1
      go_wp2_with fail
      go_region_held3 (fun w' => w'.cell? ⟨g1, 0, none⟩ = some (.int .i64 x0) ∧ w'.cell? ⟨g1, 1, none⟩ = some (.int .i64 x1) ∧ w'.cell? ⟨g1, 2, none⟩ = some (.int .i64 x2) ∧ w'.cell? ⟨g1, 3, none⟩ = some (.int .i64 x3) ∧ w'.cell? ⟨g1, 4, none⟩ = some (.int .u64 (n64 m)) ∧ w'.cell? ⟨g1, 5, none⟩ = some (.int .u64 (n64 z)) ∧ w'.cell? ⟨g2, 0, none⟩ = some (.int .i64 y0) ∧ w'.cell? ⟨g2, 1, none⟩ = some (.int .i64 y1) ∧ w'.cell? ⟨g2, 2, none⟩ = some (.int .i64 y2) ∧ w'.cell? ⟨g2, 3, none⟩ = some (.int .i64 y3) ∧ w'.cell? ⟨g2, 4, none⟩ = some (.int .u64 (n64 m2)) ∧ w'.cell? ⟨g2, 5, none⟩ = some (.int .u64 (n64 z2)))
        (first | with_reducible assumption | go_keep)
        (first
          | (go_at_call 26; refine (rof_any _ _).mono ?_; rintro e w' ⟨rfl, rfl⟩)
          | (go_at_call 20; refine (TwinL.second (U1.out.off (by first | with_reducible exact Off.refl _ _ | with_reducible exact Off.drew (Off.refl _ _) | with_reducible exact Off.drewN (Off.refl _ _) _)) (fun C w F hl h => HFI.out C w F q m2 z2 hl h)).mono ?_; rintro e s2 ⟨rfl, h2⟩; have ks2 := call_cells h2; have U2 := Lib.hid h2; clear h2))
      clear U1 ks1
      go_wp2_with fail
      obtain ⟨CP, FP, hp⟩ := U2.out.ar1
      have HP := Lib.hid (events_ok hp)
      clear hp
      refine HP.out.mono ?_
      rintro e v1 ⟨l1, rfl, hl1, o1⟩
      have V1 := Lib.hid (NewE.rd hl1)
      have T3 := Lib.hid (U2.out.off o1)
      clear hl1 o1 HP
      go_wp2_with fail
      obtain ⟨CQ, FQ, hq⟩ := T3.out.ar2
      have HQ := Lib.hid (events_ok hq)
      clear hq
      refine HQ.out.mono ?_
      rintro e v2 ⟨l2, rfl, hl2, o2⟩
      have V2 := Lib.hid (V1.out.keep o2 (fun _ _ h => h))
      have V3 := Lib.hid (NewE.rd hl2)
      have T4 := Lib.hid (T3.out.off o2)
      clear hl2 o2 HQ V1
      go_wp2_with fail
      refine (sameEv V2.out V3.out).mono ?_
      rintro e v3 ⟨rfl, o3⟩
      have O3 := Lib.hid (T4.out.old.also o3)

      have TF := Lib.hid (T4.out.off o3)
      have kf := call_cells TF.out
      clear o3 T4 HFI V2 V3 O3
      go_wp2_with fail
      refine (TwinL.first TF.out (fun C w F hl h => rd_bl hl h x0 x2)).mono ?_
      rintro e t1 ⟨⟨v1, rfl⟩, ht⟩
      have kt1 := call_cells ht
      have R1 := Lib.hid ht
      clear ht
      go_wp2_with fail
      refine (TwinL.second R1.out (fun C w F hl h => rd_bl hl h x0 x2)).mono ?_
      rintro e t2 ⟨⟨v2, rfl⟩, ht⟩
      have kt2 := call_cells ht
      have R2 := Lib.hid ht
      clear ht kt1 R1
      go_wp2_with fail
      refine (TwinL.first R2.out (fun C w F hl h => wi_bl hl h x0 x2)).mono ?_
      rintro e t3 ⟨rfl, ht⟩
      have kt3 := call_cells ht
      have R3 := Lib.hid ht
      clear ht kt2 R2
      go_wp2_with fail
      refine (TwinL.second R3.out (fun C w F hl h => wi_bl hl h x0 x2)).mono ?_
      rintro e t4 ⟨rfl, ht⟩
      have R4 := Lib.hid ht
      clear ht kt3 R3
      go_wp2_with fail
      obtain ⟨CP, FP, hp⟩ := R4.out.ar1
      have HP := Lib.hid (events_ok hp)
      clear hp
      refine HP.out.mono ?_
      rintro e w1x ⟨l1x, rfl, hl1x, o1⟩
      have V1 := Lib.hid (NewE.rd hl1x)
      have TT3 := Lib.hid (R4.out.off o1)
      clear hl1x o1 HP
      go_wp2_with fail
      obtain ⟨CQ, FQ, hq⟩ := TT3.out.ar2
      have HQ := Lib.hid (events_ok hq)
      clear hq
      refine HQ.out.mono ?_
      rintro e v2 ⟨l2, rfl, hl2, o2⟩
      have V2 := Lib.hid (V1.out.keep o2 (fun _ _ h => h))
      have V3 := Lib.hid (NewE.rd hl2)
      have TT4 := Lib.hid (TT3.out.off o2)
      clear hl2 o2 HQ V1
      go_wp2_with fail
      refine (sameEv V2.out V3.out).mono ?_
      rintro e v3 ⟨rfl, o3⟩
      have O3 := Lib.hid (TT4.out.old.also o3)
      clear o3 V2 V3
      go_wp2_with fail
      refine (awake_ok _).mono ?_
      rintro e v4 ⟨rfl, o4⟩
      have O4 := Lib.hid (O3.out.also o4)
      clear o4
      go_wp2
      go_ret
      exact ⟨ret_bool (by simp), O4.out⟩

theorem blind_long0 {w : World} (A0 A1 : Option Addr) (n0 c0 n1 c1 : Nat) (x0 x1 x2 x3 y0 y1 y2 y3 : Int) (m z m2 z2 : BitVec 64) (h : 200 < n0) (b0 : n0 ≤ maxLen) (b1 : n1 ≤ maxLen) :
    Calls Try.prog 6 #[.slice A0 n0 c0, .slice A1 n1 c1, .agg #[.int .i64 x0, .int .i64 x1, .int .i64 x2, .int .i64 x3, .int .u64 (n64 m), .int .u64 (n64 z), .int .i64 y0, .int .i64 y1, .int .i64 y2, .int .i64 y3, .int .u64 (n64 m2), .int .u64 (n64 z2)]] w (BoolNew true w) := by
  unfold maxLen at b0 b1
  have hd0 : decide (200 < (n0 : Int)) = true := by simp; omega
  go_enter Try.func6, Try.ntmps6
  go_wp2_with fail
  refine (awake_ok _).mono ?_
  rintro e w4 ⟨rfl, h4⟩
  have H4 := Lib.hid h4
  clear h4
  go_wp2
  go_ret
  exact ⟨rfl, (Off.alloc (Off.refl _ _) _).also H4.out⟩
theorem blind_long1 {w : World} (A0 A1 : Option Addr) (n0 c0 n1 c1 : Nat) (x0 x1 x2 x3 y0 y1 y2 y3 : Int) (m z m2 z2 : BitVec 64) (h0 : ¬ 200 < n0) (h : 200 < n1) (b0 : n0 ≤ maxLen) (b1 : n1 ≤ maxLen) :
    Calls Try.prog 6 #[.slice A0 n0 c0, .slice A1 n1 c1, .agg #[.int .i64 x0, .int .i64 x1, .int .i64 x2, .int .i64 x3, .int .u64 (n64 m), .int .u64 (n64 z), .int .i64 y0, .int .i64 y1, .int .i64 y2, .int .i64 y3, .int .u64 (n64 m2), .int .u64 (n64 z2)]] w (BoolNew true w) := by
  unfold maxLen at b0 b1
  have hd0 : decide (200 < (n0 : Int)) = false := by simp; omega
  have hd1 : decide (200 < (n1 : Int)) = true := by simp; omega
  go_enter Try.func6, Try.ntmps6
  go_wp2_with fail
  refine (awake_ok _).mono ?_
  rintro e w4 ⟨rfl, h4⟩
  have H4 := Lib.hid h4
  clear h4
  go_wp2
  go_ret
  exact ⟨rfl, (Off.alloc (Off.refl _ _) _).also H4.out⟩
theorem slotsBlind_walk {w : World} {v0 v1 : Value} {n0 n1 : Nat} {X Y : List (BitVec 64)} (h0 : Rd w (Old w) 1 v0 n0 (u64s X)) (z0 : NilOk v0) (h1 : Rd w (Old w) 1 v1 n1 (u64s Y)) (z1 : NilOk v1)
    (l : List Value) (hl : l.length = 12) (hk : ∀ f j κ, kindAt Try.prog f 60 j = some κ → ∃ u, l[j]? = some u ∧ okV κ u) :
    Calls Try.prog 6 #[v0, v1, .agg l.toArray] w (BoolNew true w) := by
  obtain ⟨u0, e0, o0⟩ := hk 6 0 (some .i64) (by kernel_rfl)
  obtain ⟨u1, e1, o1⟩ := hk 6 1 (some .i64) (by kernel_rfl)
  obtain ⟨u2, e2, o2⟩ := hk 6 2 (some .i64) (by kernel_rfl)
  obtain ⟨u3, e3, o3⟩ := hk 6 3 (some .i64) (by kernel_rfl)
  obtain ⟨u4, e4, o4⟩ := hk 6 4 (some .u64) (by kernel_rfl)
  obtain ⟨u5, e5, o5⟩ := hk 6 5 (some .u64) (by kernel_rfl)
  obtain ⟨u6, e6, o6⟩ := hk 6 6 (some .i64) (by kernel_rfl)
  obtain ⟨u7, e7, o7⟩ := hk 6 7 (some .i64) (by kernel_rfl)
  obtain ⟨u8, e8, o8⟩ := hk 6 8 (some .i64) (by kernel_rfl)
  obtain ⟨u9, e9, o9⟩ := hk 6 9 (some .i64) (by kernel_rfl)
  obtain ⟨u10, e10, o10⟩ := hk 6 10 (some .u64) (by kernel_rfl)
  obtain ⟨u11, e11, o11⟩ := hk 6 11 (some .u64) (by kernel_rfl)
  obtain ⟨x0, rfl, _⟩ := okV_i64 o0
  obtain ⟨x1, rfl, _⟩ := okV_i64 o1
  obtain ⟨x2, rfl, _⟩ := okV_i64 o2
  obtain ⟨x3, rfl, _⟩ := okV_i64 o3
  obtain ⟨m, rfl⟩ := okV_u64 o4
  obtain ⟨z, rfl⟩ := okV_u64 o5
  obtain ⟨y0, rfl, _⟩ := okV_i64 o6
  obtain ⟨y1, rfl, _⟩ := okV_i64 o7
  obtain ⟨y2, rfl, _⟩ := okV_i64 o8
  obtain ⟨y3, rfl, _⟩ := okV_i64 o9
  obtain ⟨m2, rfl⟩ := okV_u64 o10
  obtain ⟨z2, rfl⟩ := okV_u64 o11
  match l, hl with
  | [a0, a1, a2, a3, a4, a5, a6, a7, a8, a9, a10, a11], _ =>
    simp at e0 e1 e2 e3 e4 e5 e6 e7 e8 e9 e10 e11
    subst e0 e1 e2 e3 e4 e5 e6 e7 e8 e9 e10 e11
    obtain ⟨A0, c0, rfl, m0, _⟩ := h0.form
    obtain ⟨A1, c1, rfl, m1, _⟩ := h1.form
    by_cases g0 : 200 < n0
    · exact blind_long0 _ _ _ _ _ _ _ _ _ _ _ _ _ _ _ _ _ _ g0 m0 m1
    by_cases g1 : 200 < n1
    · exact blind_long1 _ _ _ _ _ _ _ _ _ _ _ _ _ _ _ _ _ _ g0 g1 m0 m1
    exact blind_small A0 A1 n0 c0 n1 c1 X Y h0 h1 z0 z1 (by omega) (by omega) _ _ _ _ _ _ _ _ _ _ _ _

end Go.Proofs.Ytonkhgmfeakbcaa
