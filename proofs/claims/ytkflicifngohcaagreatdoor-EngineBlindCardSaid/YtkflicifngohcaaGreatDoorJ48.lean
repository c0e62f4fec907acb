/-
  Two bytes with values that came in, opened.
-/
import Derived.Test.YtkflicifngohcaaGreatDoorJ40
import Derived.Lib.LaidTab
namespace Go.Proofs.YtkflicifngohcaaGreatDoor
open Go.ChangeShapes Go.WideShapes Go.ChangeAt Go.RowKit Go.Deep
set_option linter.unusedVariables false
section
variable {H : Type} {enc : TypeId × Value → H} {P : Program} {w : World} {b0 base : Nat} {spare : Nat → Bool} {held : Bool} {r : Reach} {t : TypeId} {v : Value} {d : DataW H} {ps : List MemPlace}
theorem n64_of {z : Int} (h : (Lit.int .u64 z).wf = true) : ∃ a : BitVec 64, z = n64 a := by
  have hb : 0 ≤ z ∧ z ≤ 18446744073709551615 := by
    have m1 : IntKind.u64.min = 0 := rfl
    have m2 : IntKind.u64.max = 18446744073709551615 := rfl
    simp only [Lit.wf, Bool.and_eq_true, decide_eq_true_eq] at h
    rw [m1, m2] at h
    exact h
  refine ⟨BitVec.ofNat 64 z.toNat, ?_⟩
  unfold n64
  rw [BitVec.toNat_ofNat, Nat.mod_eq_of_lt (by omega)]
  omega
theorem blind_elem {fs : Array Field} {e tf ts eu : TypeId} (he : P.underlying e = some (.struct fs)) (y0 : (fs[0]?).map (fun y => (y.offset, y.type)) = some (0, tf)) (y1 : (fs[1]?).map (fun y => (y.offset, y.type)) = some (2, ts))
    (cf : P.cellsOf tf = 2) (cs : P.cellsOf ts = 1) (us : P.underlying ts = some (.slice eu)) (ue : P.underlying eu = some (.int .u64)) (ceu : P.cellsOf eu = 1) (k0 : kindAt P 3 tf 0 = some (some .u64)) (k1 : kindAt P 3 tf 1 = some (some .u64))
    {fuel : Nat} {x y z : Value} {q : DataW H × List MemPlace} (hf : DataW.trod enc P w base spare held fuel e [x, y, z] = some q) :
    ∃ (a b : BitVec 64) (n : Nat) (L : List (BitVec 64)), x = .int .u64 (n64 a) ∧ y = .int .u64 (n64 b) ∧ Rd w (Old w) 1 z n (u64s L) := by
  obtain ⟨f0, x0, h0⟩ := trod_at he hf 0 0 2 tf y0 cf
  obtain ⟨f1, x1, h1⟩ := trod_at he hf 1 2 1 ts y1 cs
  simp only [List.drop_zero, List.drop_succ_cons, List.take_succ_cons, List.take_zero] at h0 h1
  obtain ⟨q0, e0, z0, rfl, w0⟩ := kind_trod 3 tf 0 (some .u64) k0 f0 _ _ h0
  obtain ⟨q1, e1, z1, rfl, w1⟩ := kind_trod 3 tf 1 (some .u64) k1 f0 _ _ h0
  obtain ⟨v1, n1, zs, hv1, r1, hz⟩ := trod_ints us ue ceu h1
  simp at e0 e1 hv1
  subst e0 e1 hv1
  obtain ⟨a, rfl⟩ := n64_of w0
  obtain ⟨b, rfl⟩ := n64_of w1
  rw [u64s_of _ hz] at r1
  exact ⟨a, b, n1, _, rfl, rfl, r1⟩
theorem opened_blind {fs : Array Field} {e tf ts eu : TypeId} (ht : P.underlying t = some (.array 2 e)) (he : P.underlying e = some (.struct fs)) (hct : P.cellsOf t = 6) (hce : P.cellsOf e = 3) (y0 : (fs[0]?).map (fun y => (y.offset, y.type)) = some (0, tf)) (y1 : (fs[1]?).map (fun y => (y.offset, y.type)) = some (2, ts))
    (cf : P.cellsOf tf = 2) (cs : P.cellsOf ts = 1) (us : P.underlying ts = some (.slice eu)) (ue : P.underlying eu = some (.int .u64)) (ceu : P.cellsOf eu = 1) (k0 : kindAt P 3 tf 0 = some (some .u64)) (k1 : kindAt P 3 tf 1 = some (some .u64))
    (hval : Value.okWide P w r b0 t v) (hd : DataW.Trod enc P w base spare held t v d ps) :
    ∃ (a b a2 b2 : BitVec 64) (z z2 : Value) (n n2 : Nat) (L L2 : List (BitVec 64)), v = .agg #[.int .u64 (n64 a), .int .u64 (n64 b), z, .int .u64 (n64 a2), .int .u64 (n64 b2), z2] ∧ Rd w (Old w) 1 z n (u64s L) ∧ Rd w (Old w) 1 z2 n2 (u64s L2) := by
  obtain ⟨cs', rfl, hs, _⟩ := opened_cells (fs := #[]) (.inr ht) hct hval hd
  obtain ⟨fuel, hf⟩ := hd
  match cs', hs with
  | [x0, x1, x2, x3, x4, x5], _ =>
    have hf2 : DataW.trod enc P w base spare held fuel t [x0, x1, x2, x3, x4, x5] = _ := hf
    cases fuel with
    | zero => simp [DataW.trod] at hf2
    | succ fuel =>
      simp only [DataW.trod, ht] at hf2
      split at hf2
      · obtain ⟨xs, hm, hx⟩ := Option.map_eq_some_iff.1 hf2
        obtain ⟨p0, _, g0⟩ := Lib.mapM_at hm 0 0 (by simp)
        obtain ⟨p1, _, g1⟩ := Lib.mapM_at hm 1 1 (by simp)
        rw [hce] at g0 g1
        simp only [Nat.zero_mul, Nat.one_mul, List.drop_zero, List.drop_succ_cons, List.take_succ_cons, List.take_zero] at g0 g1
        obtain ⟨a, b, n, L, rfl, rfl, r1⟩ := blind_elem he y0 y1 cf cs us ue ceu k0 k1 g0
        obtain ⟨a2, b2, n2, L2, rfl, rfl, r2⟩ := blind_elem he y0 y1 cf cs us ue ceu k0 k1 g1
        exact ⟨a, b, a2, b2, x2, x5, n, n2, L, L2, rfl, r1, r2⟩
      · cases hf2
end
end Go.Proofs.YtkflicifngohcaaGreatDoor
