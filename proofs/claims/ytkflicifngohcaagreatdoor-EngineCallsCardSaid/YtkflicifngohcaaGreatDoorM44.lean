/-
 Two bytes with values that came in, opened.
-/
import Derived.Test.YtkflicifngohcaaGreatDoorM41
import Derived.Lib.LaidTab
import Derived.Test.YtkflicifngohcaaGreatDoorM42
set_option linter.unusedVariables false
set_option linter.unusedSimpArgs false
namespace Go.Proofs.YtkflicifngohcaaGreatDoor
open Go.ChangeShapes Go.WideShapes Go.ChangeAt Go.RowKit Go.Deep
section
variable {H : Type} {enc : TypeId × Value → H} {P : Program} {w : World} {b0 base : Nat} {spare : Nat → Bool} {held : Bool} {r : Reach} {t : TypeId} {v : Value} {d : DataW H} {ps : List MemPlace}
theorem n64_of {z : Int} (h : (Lit.int .u64 z).wf = true) : ∃ a : BitVec 64, z = n64 a := by
 have hb : 0 ≤ z ∧ z ≤ 18446744073709551615 := by
  have m1 : IntKind.u64.min = 0 := rfl
  have m2 : IntKind.u64.max = 18446744073709551615 := rfl
  simp only [Lit.wf, Bool.and_eq_true, decide_eq_true_eq] at h
  rw [m1, m2] at h
  exact h
 refine ⟨BitVec.ofNat 64 z.toNat, ?_⟩
 unfold n64
 rw [BitVec.toNat_ofNat, Nat.mod_eq_of_lt (by omega)]
 omega
end
end Go.Proofs.YtkflicifngohcaaGreatDoor

namespace Go.Proofs.YtkflicifngohcaaGreatDoor
open Go.ChangeShapes Go.WideShapes Go.ChangeAt Go.RowKit Go.Deep
def fedV (L : List (BitVec 64 × BitVec 64)) : List Value := L.flatMap (fun x => [Value.int .u64 (n64 x.1), Value.int .u64 (n64 x.2)])
theorem fedV_at (L : List (BitVec 64 × BitVec 64)) {k : Nat} (h : k < L.length) : (fedV L)[k * 2]? = some (.int .u64 (n64 (L.getD k (0, 0)).1)) ∧ (fedV L)[k * 2 + 1]? = some (.int .u64 (n64 (L.getD k (0, 0)).2)) := by
 induction L generalizing k with
 | nil => simp at h
 | cons x L ih =>
  have e : fedV (x :: L) = Value.int .u64 (n64 x.1) :: Value.int .u64 (n64 x.2) :: fedV L := rfl
  cases k with
  | zero => rw [e]; exact ⟨rfl, rfl⟩
  | succ k =>
   obtain ⟨h1, h2⟩ := ih (k := k) (by simpa using h)
   rw [e, show (k + 1) * 2 = k * 2 + 1 + 1 from by omega, List.getElem?_cons_succ, List.getElem?_cons_succ, List.getElem?_cons_succ, List.getElem?_cons_succ, List.getD_cons_succ]
   exact ⟨h1, h2⟩
theorem all_fed : ∀ (n : Nat) (xs : List Value), xs.length = n * 2 → (∀ j, j < n → ∃ a b : BitVec 64, xs[j * 2]? = some (.int .u64 (n64 a)) ∧ xs[j * 2 + 1]? = some (.int .u64 (n64 b))) → ∃ L : List (BitVec 64 × BitVec 64), L.length = n ∧ xs = fedV L
 | 0, xs, h, _ => ⟨[], rfl, List.length_eq_zero_iff.1 (by omega)⟩
 | n + 1, xs, h, hx => by
  match xs, h with
  | [], h => simp at h
  | [a], h => simp only [List.length_cons, List.length_nil] at h; omega
  | a :: b :: ys, h =>
   obtain ⟨p, q, h1, h2⟩ := hx 0 (by omega)
   simp only [Nat.zero_mul, Nat.zero_add, List.getElem?_cons_zero, List.getElem?_cons_succ, Option.some.injEq] at h1 h2
   obtain ⟨L, hl, rfl⟩ := all_fed n ys (by simp only [List.length_cons] at h; omega) (fun j hj => by
    obtain ⟨c, d, g1, g2⟩ := hx (j + 1) (by omega)
    rw [show (j + 1) * 2 = j * 2 + 1 + 1 from by omega, List.getElem?_cons_succ, List.getElem?_cons_succ] at g1 g2
    exact ⟨c, d, g1, g2⟩)
   exact ⟨(p, q) :: L, by simp [hl], by rw [h1, h2]; rfl⟩
section
variable {H : Type} {enc : TypeId × Value → H} {P : Program} {w : World} {b0 base : Nat} {spare : Nat → Bool} {held : Bool} {r : Reach} {t : TypeId} {v : Value} {d : DataW H} {ps : List MemPlace}
theorem trod_setv {fs : Array Field} {t0 t1 t2 t3 t4 e0 e2 e3 e4 : TypeId} (ht : P.underlying t = some (.struct fs)) (hc : P.cellsOf t = 5)
  (y0 : (fs[0]?).map (fun y => (y.offset, y.type)) = some (0, t0)) (y1 : (fs[1]?).map (fun y => (y.offset, y.type)) = some (1, t1)) (y2 : (fs[2]?).map (fun y => (y.offset, y.type)) = some (2, t2)) (y3 : (fs[3]?).map (fun y => (y.offset, y.type)) = some (3, t3)) (y4 : (fs[4]?).map (fun y => (y.offset, y.type)) = some (4, t4))
  (c0 : P.cellsOf t0 = 1) (c1 : P.cellsOf t1 = 1) (c2 : P.cellsOf t2 = 1) (c3 : P.cellsOf t3 = 1) (c4 : P.cellsOf t4 = 1)
  (u0 : P.underlying t0 = some (.slice e0)) (u1 : P.underlying t1 = some (.int .i64)) (u2 : P.underlying t2 = some (.slice e2)) (u3 : P.underlying t3 = some (.slice e3)) (u4 : P.underlying t4 = some (.slice e4))
  (v0 : P.underlying e0 = some (.int .i64)) (v2 : P.underlying e2 = some (.int .u64)) (v3 : P.underlying e3 = some (.int .u64)) (v4 : P.underlying e4 = some (.int .u64))
  (z0 : P.cellsOf e0 = 1) (z2 : P.cellsOf e2 = 1) (z3 : P.cellsOf e3 = 1) (z4 : P.cellsOf e4 = 1)
  {fuel : Nat} {a b c d e : Value} {x : DataW H × List MemPlace} (hf2 : DataW.trod enc P w base spare held fuel t [a, b, c, d, e] = some x) :
  ∃ (ids : List Int) (wd : Int) (T S F : List Nat), b = .int .i64 wd ∧ OSet w a c d e ids wd T S F := by
 obtain ⟨f0, x0, h0⟩ := trod_at ht hf2 0 0 1 t0 y0 c0
 obtain ⟨f1, x1, h1⟩ := trod_at ht hf2 1 1 1 t1 y1 c1
 obtain ⟨f2, x2, h2⟩ := trod_at ht hf2 2 2 1 t2 y2 c2
 obtain ⟨f3, x3, h3⟩ := trod_at ht hf2 3 3 1 t3 y3 c3
 obtain ⟨f4, x4, h4⟩ := trod_at ht hf2 4 4 1 t4 y4 c4
 simp only [List.drop_zero, List.drop_succ_cons, List.take_succ_cons, List.take_zero] at h0 h1 h2 h3 h4
 obtain ⟨ids, r0, w0, _⟩ := sliced_ints u0 v0 z0 h0
 obtain ⟨q1, e1, o1⟩ := kind_trod 1 t1 0 (some .i64) (by unfold kindAt; rw [u1]; rfl) f1 _ _ h1
 simp at e1
 subst e1
 obtain ⟨wd, rfl, wf⟩ := o1
 obtain ⟨T, r2, w2, k2⟩ := sliced_u64 u2 v2 z2 h2
 obtain ⟨S, r3, w3, _⟩ := sliced_u64 u3 v3 z3 h3
 obtain ⟨F, r4, w4, k4⟩ := sliced_u64 u4 v4 z4 h4
 have hw := bounds_i64 wf
 exact ⟨ids, wd, T, S, F, rfl, r0, r2, r3, r4, k2, k4, fun x hx => by have := bounds_i64 (w0 x hx); omega, by omega, w2, w3, w4⟩
theorem opened_called {fa : Array Field} {ta tb tc td eb ec : TypeId} (hT : P.underlying t = some (.struct fa)) (hcT : P.cellsOf t = 8)
  (a0 : (fa[0]?).map (fun y => (y.offset, y.type)) = some (0, ta)) (a1 : (fa[1]?).map (fun y => (y.offset, y.type)) = some (5, tb)) (a2 : (fa[2]?).map (fun y => (y.offset, y.type)) = some (6, tc)) (a3 : (fa[3]?).map (fun y => (y.offset, y.type)) = some (7, td))
  (k0 : P.cellsOf ta = 5) (k1 : P.cellsOf tb = 1) (k2 : P.cellsOf tc = 1) (k3 : P.cellsOf td = 1)
  (ub : P.underlying tb = some (.int .i64)) (uc : P.underlying tc = some (.slice eb)) (ueb : P.underlying eb = some (.int .u64)) (ceb : P.cellsOf eb = 1)
  (ud : P.underlying td = some (.slice ec)) (cec : P.cellsOf ec = 2) (kd0 : kindAt P 3 ec 0 = some (some .u64)) (kd1 : kindAt P 3 ec 1 = some (some .u64))
  (hset : ∀ (fuel : Nat) (a b c d e : Value) (x : DataW H × List MemPlace), DataW.trod enc P w base spare held fuel ta [a, b, c, d, e] = some x → ∃ (ids : List Int) (wd : Int) (T S F : List Nat), b = .int .i64 wd ∧ OSet w a c d e ids wd T S F)
  (hval : Value.okWide P w r b0 t v) (hd : DataW.Trod enc P w base spare held t v d ps) :
  ∃ (VI VT VS VF : Value) (ids : List Int) (wd : Int) (T S F : List Nat) (at_ : Int) (VV : Value) (n : Nat) (LV : List (BitVec 64)) (VB : Value) (LB : List (BitVec 64 × BitVec 64)), v = .agg #[VI, .int .i64 wd, VT, VS, VF, .int .i64 at_, VV, VB] ∧ OSet w VI VT VS VF ids wd T S F ∧ Rd w (Old w) 1 VV n (u64s LV) ∧ Rd w (Old w) 2 VB LB.length (fedV LB) := by
 obtain ⟨cs, rfl, hs⟩ : ∃ cs, v = .agg cs ∧ cs.size = P.cellsOf t := by
  unfold Value.okWide at hval
  rw [hT] at hval
  obtain ⟨cs, h1, h2, _⟩ := hval
  exact ⟨cs, h1, h2⟩
 obtain ⟨fuel, hf⟩ := hd
 rw [hcT] at hs
 obtain ⟨ls, rfl⟩ : ∃ ls : List Value, cs = ls.toArray := ⟨cs.toList, by simp⟩
 match ls, hs with
 | [a, b, c, d, e, f, g, h], _ =>
  have hf2 : DataW.trod enc P w base spare held fuel t [a, b, c, d, e, f, g, h] = _ := hf
  obtain ⟨f0, x0, h0⟩ := trod_at hT hf2 0 0 5 ta a0 k0
  obtain ⟨f1, x1, h1⟩ := trod_at hT hf2 1 5 1 tb a1 k1
  obtain ⟨f2, x2, h2⟩ := trod_at hT hf2 2 6 1 tc a2 k2
  obtain ⟨f3, x3, h3⟩ := trod_at hT hf2 3 7 1 td a3 k3
  simp only [List.drop_zero, List.drop_succ_cons, List.take_succ_cons, List.take_zero] at h0 h1 h2 h3
  obtain ⟨ids, wd, T, S, F, rfl, hos⟩ := hset _ _ _ _ _ _ _ h0
  obtain ⟨q1, e1, o1⟩ := kind_trod 1 tb 0 (some .i64) (by unfold kindAt; rw [ub]; rfl) f1 _ _ h1
  simp at e1
  subst e1
  obtain ⟨at_, rfl, _⟩ := o1
  obtain ⟨v2, n2, zs, hv2, r2, hz2⟩ := trod_ints uc ueb ceb h2
  simp at hv2
  subst hv2
  rw [u64s_of _ hz2] at r2
  obtain ⟨v3, n3, xs, hv3, r3, _, fu, hx⟩ := trod_slice ud 2 cec (by decide) h3
  simp at hv3
  subst hv3
  have hl : xs.length = n3 * 2 := by obtain ⟨_, _, _, _, hl, _⟩ := r3; exact hl
  obtain ⟨LB, rfl, rfl⟩ := all_fed n3 xs hl (fun j hj => by
   obtain ⟨y, hy⟩ := hx j hj
   obtain ⟨p, hp, z0, rfl, w0⟩ := kind_trod 3 ec 0 (some .u64) kd0 fu _ _ hy
   obtain ⟨q, hq, z1, rfl, w1⟩ := kind_trod 3 ec 1 (some .u64) kd1 fu _ _ hy
   rw [List.getElem?_take_of_lt (by decide), List.getElem?_drop] at hp hq
   obtain ⟨a, rfl⟩ := n64_of w0
   obtain ⟨b, rfl⟩ := n64_of w1
   exact ⟨a, b, by rw [← hp]; congr 1, by rw [← hq]⟩)
  exact ⟨a, c, d, e, ids, wd, T, S, F, at_, _, _, _, _, LB, rfl, hos, r2, r3⟩
end
end Go.Proofs.YtkflicifngohcaaGreatDoor
