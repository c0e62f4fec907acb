/-
 The plain law of shiftand's automaton: what a byte does to the words is what it does to the bits; the hits.
-/
import Derived.Test.YtlgjaefcfnndhaaGreatDoorP22
import Derived.Test.YtlgjaefcfnndhaaGreatDoorP27
import Derived.Test.YtlgjaefcfnndhaaGreatDoorP33
import Derived.Test.YtlgjaefcfnndhaaGreatDoorP34
import Derived.Test.YtlgjaefcfnndhaaGreatDoorP36
import Derived.ChangeKeysEq
import Derived.Test.YtlgjaefcfnndhaaGreatDoorP24
set_option linter.unusedVariables false
set_option linter.unusedSimpArgs false
set_option maxHeartbeats 16000000
set_option maxRecDepth 100000
namespace Go.Proofs.YtlgjaefcfnndhaaGreatDoor
section
open Go.RowKit Go.Conc Go.Pip
theorem qvo {X : List Nat} (hX64 : ∀ x ∈ X, x < 18446744073709551616) (j r : Nat) (hr : r < 64) :
  ((X.getD j 0 * 2) % 18446744073709551616 ||| cyN X j).testBit r = (decide (1 ≤ 64 * j + r) && bitAt X (64 * j + r - 1)) := by
 have e2 : X.getD j 0 * 2 = X.getD j 0 * 2 ^ 1 := by omega
 have em : (18446744073709551616 : Nat) = 2 ^ 64 := by decide
 have ed : (9223372036854775808 : Nat) = 2 ^ 63 := by decide
 have h0 : ∀ k, (X.getD k 0).testBit (64 + k * 0) = false := fun k => Nat.testBit_lt_two_pow (Nat.lt_of_lt_of_le (qbp hX64 k) (by rw [em]; exact Nat.pow_le_pow_right (by decide) (by omega)))
 rw [Nat.testBit_or, em, Nat.testBit_mod_two_pow, e2, Nat.testBit_mul_two_pow]
 unfold cyN bitAt
 by_cases hr0 : r = 0
 ·subst hr0
  by_cases hj : j = 0
  ·subst hj; simp
  ·have e1 : (64 * j + 0 - 1) / 64 = j - 1 := by omega
   have e3 : (64 * j + 0 - 1) % 64 = 63 := by omega
   rw [if_neg hj, e1, e3, ed, Nat.testBit_div_two_pow]
   have d : decide (1 ≤ 64 * j + 0) = true := dcT
   rw [d]
   simp
 ·have e1 : (64 * j + r - 1) / 64 = j := by omega
  have e3 : (64 * j + r - 1) % 64 = r - 1 := by omega
  have d : decide (1 ≤ 64 * j + r) = true := dcT
  have hc : (if j = 0 then 0 else X.getD (j - 1) 0 / 9223372036854775808).testBit r = false := by
   split
   ·simp
   ·rw [ed, Nat.testBit_div_two_pow]
    exact Nat.testBit_lt_two_pow (Nat.lt_of_lt_of_le (qbp hX64 _) (by rw [em]; exact Nat.pow_le_pow_right (by decide) (by omega)))
  rw [hc, e1, e3, d]
  have d1 : decide (r < 64) = true := dT hr
  have d2 : decide (r ≥ 1) = true := dcT
  rw [d1, d2]
  simp
theorem qjn {F X : List Nat} {W i : Nat} : ∀ (j r : Nat), (metN F X W i j).testBit r = true ↔ ∃ k, k < j ∧ (X.getD k 0).testBit r = true ∧ (F.getD (i * W + k) 0).testBit r = true
 | 0, r => by simp [metN]
 | j + 1, r => by
  unfold metN
  rw [Nat.testBit_or, Bool.or_eq_true, qjn j r, Nat.testBit_and, Bool.and_eq_true]
  constructor
  ·rintro (⟨k, h1, h2⟩ | h)
   ·exact ⟨k, by omega, h2⟩
   ·exact ⟨j, by omega, h⟩
  ·rintro ⟨k, h1, h2⟩
   by_cases e : k = j
   ·subst e; exact .inr h2
   ·exact .inl ⟨k, by omega, h2⟩
theorem ql8 {F : List Nat} {W : Nat} {X : List Nat} {r : Nat} : hitR F W X r = true ↔ ∃ i, i < 64 * W ∧ bitAt X i = true ∧ bitAt (finL F W r) i = true := by
 unfold hitR
 rw [decide_eq_true_eq]
 have hl : (andX W X (finL F W r)).length = W := quy _ _
 constructor
 ·intro h
  obtain ⟨i, hi⟩ := List.exists_mem_of_length_pos h
  have := qal.1 hi
  rw [hl] at this
  obtain ⟨h1, h2⟩ := this
  unfold andX at h2
  rw [ql0, Bool.and_eq_true, Bool.and_eq_true] at h2
  exact ⟨i, h1, h2.2.1, h2.2.2⟩
 ·rintro ⟨i, h1, h2, h3⟩
  refine List.length_pos_of_mem (a := i) (qal.2 ⟨by rw [hl]; exact h1, ?_⟩)
  unfold andX
  rw [ql0, dT h1, h2, h3]
  rfl
theorem qq3 {F : List Nat} {W r k : Nat} (hk : k < W) : (finL F W r).getD k 0 = F.getD (r * W + k) 0 := by
 unfold finL
 rw [gDe, List.getElem?_take, if_pos hk, List.getElem?_drop, gDe]
theorem qq4 {F X : List Nat} {W r : Nat} (hX64 : ∀ x ∈ X, x < 18446744073709551616) : (metN F X W r W = 0) ↔ hitR F W X r = false := by
 rw [← Bool.not_eq_true, ql8]
 constructor
 ·rintro h ⟨i, h1, h2, h3⟩
  have hb : (metN F X W r W).testBit (i % 64) = true := (qjn W (i % 64)).2 ⟨i / 64, by omega, h2, by
   have := h3
   unfold bitAt at this
   rw [qq3 (by omega)] at this
   exact this⟩
  rw [h] at hb
  simp at hb
 ·intro h
  refine Nat.eq_of_testBit_eq fun q => ?_
  rw [Nat.zero_testBit]
  cases hb : (metN F X W r W).testBit q with
  | false => rfl
  | true =>
   obtain ⟨k, h1, h2, h3⟩ := (qjn W q).1 hb
   have hq : q < 64 := by
    rcases Nat.lt_or_ge q 64 with h | h
    ·exact h
    ·have e : (X.getD k 0).testBit q = false := Nat.testBit_lt_two_pow (Nat.lt_of_lt_of_le (qbp hX64 k) (by rw [show (18446744073709551616 : Nat) = 2 ^ 64 by decide]; exact Nat.pow_le_pow_right (by decide) h))
     rw [e] at h2; cases h2
   refine absurd ⟨64 * k + q, by omega, ?_, ?_⟩ h
   ·unfold bitAt
    rw [show (64 * k + q) / 64 = k by omega, show (64 * k + q) % 64 = q by omega]
    exact h2
   ·unfold bitAt
    rw [show (64 * k + q) / 64 = k by omega, show (64 * k + q) % 64 = q by omega, qq3 h1]
    exact h3
theorem ql9 {F X : List Nat} {W : Nat} (hX64 : ∀ x ∈ X, x < 18446744073709551616) : ∀ n, hitsN F X W n = qdr F W X n
 | 0 => by simp [hitsN, qdr]
 | n + 1 => by
  unfold hitsN
  rw [ql9 hX64 n]
  cases h : hitR F W X n with
  | true => rw [qs9 h, if_neg (fun e => by rw [(qq4 hX64).1 e] at h; cases h)]
  | false => rw [qvd h, if_pos ((qq4 hX64).2 h), List.append_nil]
end
section
open Go.RowKit
end
section
open Go.RowKit
theorem qfz (T S : List Nat) (W : Nat) (b : Nat) : ∀ (A X : List Nat), qat T S W (A ++ [b]) X = rdTo W T S (qat T S W A X) b W
 | [], X => rfl
 | a :: A, X => qfz T S W b A _
theorem qvp : ∀ (A : List Nat) (a : Int), 0 ≤ a → a + (A.length : Int) ≤ 1000000000 → atV A a = a + (A.length : Int)
 | [], a, _, _ => by simp [atV]
 | x :: A, a, h0, h1 => by
  rw [List.length_cons] at h1 ⊢
  have e : IntKind.i64.wrap (a + 1) = a + 1 := by rw [IntKind.wrap_i64]; omega
  unfold atV
  rw [e, qvp A (a + 1) (by omega) (by push_cast at h1 ⊢; omega)]
  push_cast
  omega
theorem qh3 (T S F : List Nat) (W n : Nat) (b : Nat) : ∀ (A X : List Nat) (a : Int), qa3 T S F W n (A ++ [b]) X a = qa3 T S F W n A X a ++ (hitsN F (rdTo W T S (qat T S W A X) b W) W n).map (fun (r : Nat) => (IntKind.i64.wrap (atV A a + 1), (r : Int)))
 | [], X, a => by simp [qa3, qat, atV]
 | x :: A, X, a => by
  simp only [List.cons_append, qa3, qh3 T S F W n b A, List.append_assoc, qat, atV]
theorem qh4 {T S : List Nat} {W : Nat} (hT : ∀ x ∈ T, x < 18446744073709551616) : ∀ (A X : List Nat), (∀ x ∈ X, x < 18446744073709551616) → ∀ x ∈ qat T S W A X, x < 18446744073709551616
 | [], X, h => h
 | a :: A, X, h => qh4 hT A _ (qlj h hT)
theorem qvq {T S F X B : List Nat} {W nn n k b : Nat} (hb : B[k]? = some b) (ha : (n : Int) + (B.length : Int) ≤ 1000000000) :
  qat T S W (B.take (k + 1)) X = rdTo W T S (qat T S W (B.take k) X) b W ∧ qa3 T S F W nn (B.take (k + 1)) X (n : Int) = qa3 T S F W nn (B.take k) X (n : Int) ++ (hitsN F (rdTo W T S (qat T S W (B.take k) X) b W) W nn).map (fun r : Nat => (((n + k + 1 : Nat) : Int), (r : Int))) := by
 have hk : k < B.length := (List.getElem?_eq_some_iff.1 hb).1
 have e : B.take (k + 1) = B.take k ++ [b] := by rw [List.take_add_one, hb]; rfl
 have hl : (B.take k).length = k := by rw [List.length_take]; omega
 rw [e, qfz, qh3, qvp _ _ (by omega) (by rw [hl]; omega), hl]
 have e2 : IntKind.i64.wrap ((n : Int) + (k : Int) + 1) = ((n + k + 1 : Nat) : Int) := by rw [IntKind.wrap_i64]; omega
 rw [e2]
 exact ⟨rfl, rfl⟩
structure Fd (lo : Nat) (z : World) (yB : Nat) (RV out : Value) (X : List Nat) (at_ : Int) (ps : List (Int × Int)) (V : World) : Prop where
 o : Off (fun j => j = yB) z V
 yl : yB < z.heap.size
 y : Blk V yB 27 #[RV, .int .i64 at_]
 r : Rd V (fun k => lo ≤ k ∧ k ≠ yB ∧ out.ownBlock ≠ some k) 1 RV X.length (qab X)
 own : V.ownsRow z.heap.size 85 2 out ps.length (qa9 ps)
section
variable {lo : Nat} {z V V' : World} {yB : Nat} {RV out : Value} {X : List Nat} {at_ : Int} {ps : List (Int × Int)}
end
end
section
open Go.RowKit
end
section
open Go.RowKit
/-! ### lists of elements of one size -/
theorem qom {α : Type} {enc : α → List Value} {s : Nat} (hs : ∀ a, (enc a).length = s) : ∀ (L : List α) (k j : Nat) (a : α), L[k]? = some a → j < s → (L.flatMap enc)[k * s + j]? = (enc a)[j]?
 | [], k, j, a, h, _ => by simp at h
 | x :: L, 0, j, a, h, hj => by
  have e : x = a := by simpa using h
  subst e
  rw [List.flatMap_cons, List.getElem?_append_left (by rw [hs]; omega)]
  congr 1
  omega
 | x :: L, k + 1, j, a, h, hj => by
  have ih := qom hs L k j a (by simpa using h) hj
  rw [List.flatMap_cons, List.getElem?_append_right (by rw [hs, Nat.succ_mul]; omega), hs, ← ih]
  congr 1
  rw [Nat.succ_mul]
  omega
def RdL {α : Type} (w : World) (F : Nat → Prop) (s : Nat) (enc : α → List Value) (v : Value) (L : List α) : Prop := Rd w F s v L.length (L.flatMap enc)
section
variable {α : Type} {w w' : World} {F G : Nat → Prop} {s : Nat} {enc : α → List Value} {v : Value}
theorem RdL.keep {L : List α} (h : RdL w F s enc v L) (o : Off G w w') (hd : ∀ k, F k → ¬ G k) : RdL w' F s enc v L := Rd.keep h o hd
theorem RdL.mono {L : List α} (h : RdL w F s enc v L) (hs : ∀ k, F k → G k) : RdL w G s enc v L := Rd.mono h hs
theorem RdL.form {L : List α} (h : RdL w F s enc v L) : ∃ A c, v = .slice A L.length c := by
 obtain ⟨A, c, rfl, _⟩ := Rd.form h
 exact ⟨A, c, rfl⟩
theorem RdL.at_ {L : List α} (h : RdL w F s enc v L) (hs : ∀ a, (enc a).length = s) {k : Nat} {a : α} (hk : L[k]? = some a) : ∃ b o c, v = .slice (some ⟨b, o, none⟩) L.length c ∧ b < w.heap.size ∧ F b ∧ ∀ j u, (enc a)[j]? = some u → w.cell? ⟨b, o + k * s + j, none⟩ = some u := by
 obtain ⟨A, c, he, hm, hl, hc⟩ := h
 have hlt := (List.getElem?_eq_some_iff.1 hk).1
 obtain ⟨b, o, rfl, hF, hb, hx⟩ := hc (by omega)
 refine ⟨b, o, c, he, hb, hF, fun j u hu => ?_⟩
 have hj : j < s := by
  have := (List.getElem?_eq_some_iff.1 hu).1
  rwa [hs] at this
 rw [Nat.add_assoc]
 exact hx _ _ (by rw [qom hs L k j a hk hj]; exact hu)
end
/-! ### patterns -/
def elV (e : El) : List Value := [.bool e.gap, .int .u64 (e.cls.1 : Int), .int .u64 (e.cls.2.1 : Int), .int .u64 (e.cls.2.2.1 : Int), .int .u64 (e.cls.2.2.2 : Int), .int .i64 e.lo, .int .i64 e.hi]
theorem qcq (e : El) : (elV e).length = 7 := rfl
def zEl : El := ⟨false, (0, 0, 0, 0), 0, 0⟩
structure ElB (e : El) : Prop where
 q : Q4ok e.cls
 lo : -9223372036854775808 ≤ e.lo ∧ e.lo ≤ 9223372036854775807
 hi : -9223372036854775808 ≤ e.hi ∧ e.hi ≤ 9223372036854775807
def ElOk (p : List El) (j : Nat) : Prop := ((p.getD j zEl).gap = false → (p.getD j zEl).lo = 0 ∧ (p.getD j zEl).hi = 0) ∧ ((p.getD j zEl).gap = true → (p.getD j zEl).cls = (0, 0, 0, 0) ∧ 0 ≤ (p.getD j zEl).lo ∧ (p.getD j zEl).lo ≤ (p.getD j zEl).hi ∧ (p.getD j zEl).hi ≤ 16 ∧ j ≠ 0 ∧ j + 1 ≠ p.length ∧ (p.getD (j - 1) zEl).gap = false)
def PatOk (p : List El) : Prop := p ≠ [] ∧ ∀ j, j < p.length → ElOk p j
theorem qx4 : Tryz.prog.eqGuardType Tryz.prog.depth 73 = false := by kernel_rfl
theorem qx5 : Tryz.prog.cellsOf 71 = 1 := by kernel_rfl
theorem cl_eq (w : World) (a0 a1 a2 a3 b0 b1 b2 b3 : Int) : (Op.equalIn 10000 73 (.agg #[.int .u64 a0, .int .u64 a1, .int .u64 a2, .int .u64 a3]) (.agg #[.int .u64 b0, .int .u64 b1, .int .u64 b2, .int .u64 b3])).run Tryz.prog w = .ok (a0 == b0 && (a1 == b1 && (a2 == b2 && a3 == b3))) w := by
 obtain ⟨i0, hi, hz0, hz1, hz2⟩ := info_parts Tryz.infoU64
 rw [show (10000 : Nat) = 9999 + 1 from rfl, run_equalIn_array w 9999 _ _ Tryz.underlying73 hi, qx5]
 have hr : List.range 4 = [0, 1, 2, 3] := rfl
 rw [hr]
 have hp : ∀ (w : World) (x0 x1 x2 x3 : Int) (j : Nat) (v : Value), #[Value.int .u64 x0, .int .u64 x1, .int .u64 x2, .int .u64 x3][j]? = some v → (part 71 #[.int .u64 x0, .int .u64 x1, .int .u64 x2, .int .u64 x3] j).run Tryz.prog w = .ok v w := by
  intro w x0 x1 x2 x3 j v hv
  exact run_part_plain w (by kernel_rfl) hv
 have he : ∀ (w : World) (a b : Int), (Op.equalIn 9999 71 (.int .u64 a) (.int .u64 b)).run Tryz.prog w = .ok (a == b) w := by
  intro w a b
  rw [show (9999 : Nat) = 9998 + 1 from rfl, run_equalIn_int w 9998 _ .u64 .u64 a b Tryz.underlying71]
 simp only [Op.eqItems, Sem.run_bind, Nat.mul_one]
 simp only [hp w _ _ _ _ 0 _ rfl, hp w _ _ _ _ 1 _ rfl, hp w _ _ _ _ 2 _ rfl, hp w _ _ _ _ 3 _ rfl, Result.andThen_ok, he]
 cases h0 : (a0 == b0) <;> cases h1 : (a1 == b1) <;> cases h2 : (a2 == b2) <;> cases h3 : (a3 == b3) <;> simp [Result.andThen_ok, hp w _ _ _ _ 1 _ rfl, hp w _ _ _ _ 2 _ rfl, hp w _ _ _ _ 3 _ rfl, he, h0, h1, h2, h3]
end
section
open Go.RowKit
def CkR (w : World) (p : List El) (e : Ending) (w' : World) : Prop := ∃ i x : Int, e = .returned (.tuple #[.int .i64 i, .int .i64 x]) ∧ (x = 0 ↔ PatOk p) ∧ Off Nob w w'
theorem r_ck (p : List El) (hb : ∀ e ∈ p, ElB e) (hn : p.length ≤ 60) (w : World) (v : Value) (hv : RdL w (fun _ => True) 7 elV v p) : Calls Tryz.prog 102 #[v] w (CkR w p) := by
 obtain ⟨A, c, rfl⟩ := hv.form
 have HV := hID hv
 have HB := hID hb
 clear hv hb
 by_cases h0 : p.length = 0
 ·have e0 : p = [] := List.eq_nil_of_length_eq_zero h0
  have d0 : ((p.length : Int) == 0) = true := by simp [h0]
  have OO : Off Nob w w := Off.refl _ _
  clear h0
  go_enter Tryz.func102, Tryz.ntmps102
  go_wp2_with fail
  exact bodyPost_ret (v := .tuple #[.int .i64 0, .int .i64 6]) (by simp [results, Tryz.f102, go_sem]) rfl ⟨_, _, rfl, ⟨fun h => absurd h (by decide), fun h => absurd e0 h.1⟩, OO⟩
 ·have d0 : ((p.length : Int) == 0) = false := beq_eq_false_iff_ne.2 (by omega)
  have d1 : decide ((512 : Int) < (p.length : Int)) = false := dcF
  have d1n : decide (512 < p.length) = false := dcF
  have HNE : Hid (p ≠ []) := hID (fun e => h0 (by rw [e]; rfl))
  have hpos : 0 < p.length := by omega
  clear h0
  obtain ⟨n, hnn⟩ : ∃ n, p.length = n := ⟨_, rfl⟩
  have HN := hID hnn
  have HL := hID (show n ≤ 60 ∧ 0 < n by omega)
  rw [hnn] at d0 d1 d1n ⊢
  clear hnn hn hpos
  go_enter Tryz.func102, Tryz.ntmps102
  go_wp2_with fail
  clear d0 d1 d1n
  go_loopw [4] (fun q wr => ∃ i : Nat, i ≤ n ∧ q = .int .i64 (i : Int) ∧ Off Nob w wr ∧ ∀ j, j < i → ElOk p j) (fun q _ => n - (intOf q).toNat)
  case atStart => exact ⟨0, Nat.zero_le _, rfl, Off.refl _ _, fun j hj => absurd hj (Nat.not_lt_zero _)⟩
  case round =>
   obtain ⟨i, hi, rfl, ho, hall⟩ := hrel
   have HO := hID ho
   have HALL := hID hall
   clear ho hall
   by_cases hin : i < n
   ·have d1 : decide ((i : Int) < (n : Int)) = true := dcT
    have d1n : decide (i < n) = true := dT hin
    have HIN := hID hin
    have hi60 : i < 60 := by have := HL.out; omega
    obtain ⟨x, hx⟩ : ∃ x, p[i]? = some x := ⟨_, gEe (by rw [HN.out]; exact hin)⟩
    have HXD : Hid (p.getD i zEl = x) := hID (by rw [gDe, hx]; rfl)
    have HXB : Hid (ElB x) := hID (HB.out x (List.mem_of_getElem? hx))
    obtain ⟨b, o, c2, he, -, -, hc⟩ := (HV.out.keep HO.out (fun _ _ h => h)).at_ qcq hx
    injection he with he1 he2 he3
    subst he1
    clear he2 he3
    have a0 := hc 0 _ rfl
    have a1 := hc 1 _ rfl
    have a2 := hc 2 _ rfl
    have a3 := hc 3 _ rfl
    have a4 := hc 4 _ rfl
    have a5 := hc 5 _ rfl
    have a6 := hc 6 _ rfl
    clear hc
    simp only [Nat.add_zero] at a0
    have OO : Off Nob w (wr.alloc (.cells #[.bool x.gap, .int .u64 (x.cls.1 : Int), .int .u64 (x.cls.2.1 : Int), .int .u64 (x.cls.2.2.1 : Int), .int .u64 (x.cls.2.2.2 : Int), .int .i64 x.lo, .int .i64 x.hi] 160)) := HO.out.alloc _
    obtain ⟨gp, hgp⟩ : ∃ gp, x.gap = gp := ⟨_, rfl⟩
    obtain ⟨lo, hlo⟩ : ∃ lo, x.lo = lo := ⟨_, rfl⟩
    obtain ⟨hi', hhi⟩ : ∃ h, x.hi = h := ⟨_, rfl⟩
    have HG := hID hgp
    have HLO := hID hlo
    have HHI := hID hhi
    rw [hgp] at a0 OO
    rw [hlo] at a5 OO
    rw [hhi] at a6 OO
    clear hgp hlo hhi
    cases gp
    case false =>
     have bad : ∀ y : Int, y ≠ 0 → ¬ (lo = 0 ∧ hi' = 0) → ((y = 0) ↔ PatOk p) := fun y hy hn => ⟨fun e => absurd e hy, fun hp => by
      have h := (hp.2 i (by rw [HN.out]; exact HIN.out)).1
      rw [HXD.out, HG.out, HLO.out, HHI.out] at h
      exact absurd (h rfl) hn⟩
     by_cases hl : lo = 0
     ·by_cases hh : hi' = 0
      ·have dl : (lo != 0) = false := by simp [hl]
       have dh : (hi' != 0) = false := by simp [hh]
       have HOK : Hid (ElOk p i) := hID (by
        unfold ElOk
        rw [HXD.out, HG.out, HLO.out, HHI.out]
        exact ⟨fun _ => ⟨hl, hh⟩, fun h => by cases h⟩)
       have HOO := hID OO
       clear bad hl hh OO
       go_wp2_with fail
       go_roundw
       case rel => exact ⟨i + 1, HIN.out, by go_num, HOO.out, fun j hj => by
        rcases Nat.lt_or_ge j i with h | h
        ·exact HALL.out j h
        ·obtain rfl : j = i := by omega
         exact HOK.out⟩
       case measure => have := HIN.out; simp [intOf]; omega
      ·have dl : (lo != 0) = false := by simp [hl]
       have dh : (hi' != 0) = true := by simp [hh]
       have hbad := bad 6 (by decide) (fun h => hh h.2)
       have HBAD := hID hbad
       have HOO := hID OO
       clear bad hl hh OO hbad
       go_wp2_with fail
       exact bodyPost_ret (v := .tuple #[.int .i64 (i : Int), .int .i64 6]) (by simp [results, Tryz.f102, go_sem]) rfl ⟨_, _, rfl, HBAD.out, HOO.out⟩
     ·have dl : (lo != 0) = true := by simp [hl]
      have hbad := bad 6 (by decide) (fun h => hl h.1)
      have HBAD := hID hbad
      have HOO := hID OO
      clear bad hl OO hbad
      go_wp2_with fail
      exact bodyPost_ret (v := .tuple #[.int .i64 (i : Int), .int .i64 6]) (by simp [results, Tryz.f102, go_sem]) rfl ⟨_, _, rfl, HBAD.out, HOO.out⟩
    case true =>
     have bad : ∀ y : Int, y ≠ 0 → ¬ (x.cls = (0, 0, 0, 0) ∧ 0 ≤ lo ∧ lo ≤ hi' ∧ hi' ≤ 16 ∧ i ≠ 0 ∧ i + 1 ≠ p.length ∧ (p.getD (i - 1) zEl).gap = false) → ((y = 0) ↔ PatOk p) := fun y hy hn => ⟨fun e => absurd e hy, fun hp => by
      have h := (hp.2 i (by rw [HN.out]; exact HIN.out)).2
      rw [HXD.out, HG.out, HLO.out, HHI.out] at h
      exact absurd (h rfl) hn⟩
     have hfe := fun w => cl_eq w (x.cls.1 : Int) (x.cls.2.1 : Int) (x.cls.2.2.1 : Int) (x.cls.2.2.2 : Int) 0 0 0 0
     have hfg := qx4
     have hzz : ∀ q : Q4, ((q.1 : Int) == 0 && (((q.2.1 : Int) == 0) && (((q.2.2.1 : Int) == 0) && ((q.2.2.2 : Int) == 0)))) = decide (q = (0, 0, 0, 0)) := fun ⟨q0, q1, q2, q3⟩ => by
      rw [Bool.eq_iff_iff]
      simp only [Bool.and_eq_true, beq_iff_eq, decide_eq_true_eq, Prod.mk.injEq]
      omega
     simp only [hzz] at hfe
     clear hzz
     have HOO := hID OO
     clear OO
     by_cases hcl : x.cls = (0, 0, 0, 0)
     ·have dc : decide (x.cls = (0, 0, 0, 0)) = true := dT hcl
      have HCL := hID hcl
      simp only [dc] at hfe
      clear hcl dc
      by_cases h1 : lo < 0
      ·have d1' : decide (lo < 0) = true := dT h1
       have HBAD := hID (bad 7 (by decide) (fun h => by have := h.2.1; omega))
       clear bad h1
       go_wp2_with fail
       exact bodyPost_ret (v := .tuple #[.int .i64 (i : Int), .int .i64 7]) (by simp [results, Tryz.f102, go_sem]) rfl ⟨_, _, rfl, HBAD.out, HOO.out⟩
      ·have d1' : decide (lo < 0) = false := dF h1
       have H1 := hID h1
       clear h1
       by_cases h2 : hi' < lo
       ·have d2 : decide (hi' < lo) = true := dT h2
        have HBAD := hID (bad 7 (by decide) (fun h => by have := h.2.2.1; omega))
        clear bad h2
        go_wp2_with fail
        exact bodyPost_ret (v := .tuple #[.int .i64 (i : Int), .int .i64 7]) (by simp [results, Tryz.f102, go_sem]) rfl ⟨_, _, rfl, HBAD.out, HOO.out⟩
       ·have d2 : decide (hi' < lo) = false := dF h2
        have H2 := hID h2
        clear h2
        by_cases h3 : 16 < hi'
        ·have d3 : decide (16 < hi') = true := dT h3
         have HBAD := hID (bad 7 (by decide) (fun h => by have := h.2.2.2.1; omega))
         clear bad h3
         go_wp2_with fail
         exact bodyPost_ret (v := .tuple #[.int .i64 (i : Int), .int .i64 7]) (by simp [results, Tryz.f102, go_sem]) rfl ⟨_, _, rfl, HBAD.out, HOO.out⟩
        ·have d3 : decide (16 < hi') = false := dF h3
         have H3 := hID h3
         clear h3
         by_cases h4 : i = 0
         ·have d4 : ((i : Int) == 0) = true := by simp [h4]
          have HBAD := hID (bad 6 (by decide) (fun h => h.2.2.2.2.1 h4))
          clear bad h4
          go_wp2_with fail
          exact bodyPost_ret (v := .tuple #[.int .i64 (i : Int), .int .i64 6]) (by simp [results, Tryz.f102, go_sem]) rfl ⟨_, _, rfl, HBAD.out, HOO.out⟩
         ·have d4 : ((i : Int) == 0) = false := beq_eq_false_iff_ne.2 (by omega)
          have H4 := hID h4
          have hn1 : IntKind.i64.wrap ((n : Int) - 1) = ((n - 1 : Nat) : Int) := by rw [IntKind.wrap_i64]; have := HL.out; omega
          by_cases h5 : i = n - 1
          ·have d5 : ((i : Int) == ((n - 1 : Nat) : Int)) = true := by simp [h5]
           have d5w : ((i : Int) == (n : Int) - 1) = true := beq_iff_eq.2 (by omega)
           have HBAD := hID (bad 6 (by decide) (fun h => h.2.2.2.2.2.1 (by rw [HN.out]; omega)))
           clear bad h5 h4
           go_wp2_with fail
           exact bodyPost_ret (v := .tuple #[.int .i64 (i : Int), .int .i64 6]) (by simp [results, Tryz.f102, go_sem]) rfl ⟨_, _, rfl, HBAD.out, HOO.out⟩
          ·have d5 : ((i : Int) == ((n - 1 : Nat) : Int)) = false := beq_eq_false_iff_ne.2 (by omega)
           have d5w : ((i : Int) == (n : Int) - 1) = false := beq_eq_false_iff_ne.2 (by omega)
           have H5 := hID h5
           obtain ⟨k, hk⟩ : ∃ k, i - 1 = k := ⟨_, rfl⟩
           have hki : IntKind.i64.wrap ((i : Int) - 1) = (k : Int) := by rw [IntKind.wrap_i64]; omega
           have hkw : ((i : Int) - 1) = (k : Int) := by omega
           have hkn : k < n := by omega
           obtain ⟨y, hy⟩ : ∃ y, p[k]? = some y := ⟨_, gEe (by rw [HN.out]; exact hkn)⟩
           obtain ⟨b', o', c', he', -, -, hc'⟩ := (HV.out.keep HOO.out (fun _ _ h => h)).at_ qcq hy
           injection he' with e1 e2 e3
           injection e1 with e1
           injection e1 with e1 e4 e5
           subst e1 e4
           have y0 := hc' 0 _ rfl
           simp only [Nat.add_zero] at y0
           have HYD : Hid (p.getD (i - 1) zEl = y) := hID (by rw [hk, gDe, hy]; rfl)
           clear e2 e3 e5 hc'
           obtain ⟨gy, hgy⟩ : ∃ g, y.gap = g := ⟨_, rfl⟩
           have HGY := hID hgy
           rw [hgy] at y0
           clear hgy h4 h5 hk hy
           cases gy
           ·have HOK : Hid (ElOk p i) := hID (by
             unfold ElOk
             rw [HXD.out, HG.out, HLO.out, HHI.out, HYD.out, HGY.out]
             have := H1.out; have := H2.out; have := H3.out; have := H4.out; have := H5.out; have := HN.out; have := HL.out
             exact ⟨fun h => (by cases h), fun _ => ⟨HCL.out, by omega, by omega, by omega, by omega, by omega, rfl⟩⟩)
            clear bad
            go_wp2_with fail
            go_roundw
            case rel => exact ⟨i + 1, HIN.out, by go_num, HOO.out, fun j hj => by
             rcases Nat.lt_or_ge j i with h | h
             ·exact HALL.out j h
             ·obtain rfl : j = i := by omega
              exact HOK.out⟩
            case measure => have := HIN.out; simp [intOf]; omega
           ·have HBAD := hID (bad 6 (by decide) (fun h => by
             have h := h.2.2.2.2.2.2
             rw [HYD.out, HGY.out] at h
             cases h))
            clear bad
            go_wp2_with fail
            exact bodyPost_ret (v := .tuple #[.int .i64 (i : Int), .int .i64 6]) (by simp [results, Tryz.f102, go_sem]) rfl ⟨_, _, rfl, HBAD.out, HOO.out⟩
     ·have dc : decide (x.cls = (0, 0, 0, 0)) = false := dF hcl
      simp only [dc] at hfe
      have HBAD := hID (bad 6 (by decide) (fun h => hcl h.1))
      clear bad hcl dc
      go_wp2_with fail
      exact bodyPost_ret (v := .tuple #[.int .i64 (i : Int), .int .i64 6]) (by simp [results, Tryz.f102, go_sem]) rfl ⟨_, _, rfl, HBAD.out, HOO.out⟩
   ·obtain rfl : i = n := by omega
    have d1 : decide ((i : Int) < (i : Int)) = false := by simp
    have d1n : decide (i < i) = false := by simp
    have OO := HO.out
    go_wp2_with fail
    exact bodyPost_ret (v := .tuple #[.int .i64 0, .int .i64 0]) (by simp [results, Tryz.f102, go_sem]) rfl ⟨_, _, rfl, ⟨fun _ => ⟨HNE.out, fun j hj => HALL.out j (by rw [← HN.out]; exact hj)⟩, fun _ => rfl⟩, OO⟩
end
section
open Go.RowKit Go.Conc Go.Pip
theorem qq7 {F : List Nat} {W n top : Nat} : ∀ {ss : List Nat} {ls : List Ln}, ss ≠ [] → lnR F W n top ss = some ls → (ls.getLastD (0, 0, 0)).2.1 + (ls.getLastD (0, 0, 0)).2.2 = top
 | [], ls, h, _ => absurd rfl h
 | f :: rest, ls, _, h => by
  unfold lnR at h
  split at h
  ·cases h
  ·rename_i hlt
   obtain ⟨l', hl', rfl⟩ := Option.map_eq_some_iff.1 h
   cases rest with
   | nil =>
    simp only [lnR, Option.some.injEq] at hl'
    subst hl'
    simp only [List.headD_nil] at hlt
    simp [List.getLastD]
    omega
   | cons g rest' =>
    have ih := qq7 (ss := g :: rest') (by simp) hl'
    have hne : l' ≠ [] := by
     intro e
     subst e
     have := qeh hl'
     simp [qaq] at this
    cases l' with
    | nil => exact absurd rfl hne
    | cons y l'' => simpa [List.getLastD] using ih
structure PlanOk (T S F : List Nat) (W n : Nat) (l : List Ln) : Prop where
 ok : qao W l = true
 starts : qaq l = onesN S
 ends : ∀ r, r < n → ofN W (endsN r l) = finL F W r
 rules : qa1 l + 1 = n
 tab : ∀ b i, b < 256 → i < 64 * W → bitAt (qar T W b) i = true → i < lnEnd 0 l
theorem PlanOk.of {T S F : List Nat} {W n : Nat} {l : List Ln} (h : planR F S T W n = some l) : PlanOk T S F W n l := by
 unfold planR at h
 split at h
 ·cases h
 ·rename_i l0 hl0
  split at h
  ·rename_i hc
   obtain rfl := Option.some.inj h
   simp only [Bool.and_eq_true, decide_eq_true_eq, List.all_eq_true, List.mem_range] at hc
   obtain ⟨⟨⟨⟨h1, h2⟩, h3⟩, h4⟩, h5⟩ := hc
   have hf := qeh hl0
   have lf := LnFacts.of h1
   have hne : onesN S ≠ [] := by
    rw [← hf]
    intro e
    exact lf.ne (List.map_eq_nil_iff.1 e)
   have ht := qq7 hne hl0
   rw [lf.last] at ht
   refine ⟨h1, hf, h4, h2, fun b i hb hi hbit => ?_⟩
   rw [ht]
   unfold qf8 at h5
   have h6 := of_decide_eq_true (List.all_eq_true.1 h5 b (List.mem_range.2 hb))
   have hm : i ∈ onesN (qar T W b) := qal.2 ⟨by rw [qgq]; exact hi, hbit⟩
   have hx := qgr (qc5 (qar T W b)) hm
   have hne : (onesN (qar T W b)).isEmpty = false := by
    rw [List.isEmpty_eq_false_iff]
    intro e
    rw [e] at hm
    cases hm
   rw [hne] at h6
   simp only [Bool.false_eq_true, if_false] at h6
   omega
  ·cases h
theorem q1z {T S X : List Nat} {W b i : Nat} (hX64 : ∀ x ∈ X, x < 18446744073709551616) (hT64 : ∀ x ∈ T, x < 18446744073709551616) (hi : i < 64 * W) :
  bitAt (rdTo W T S X b W) i = (((decide (1 ≤ i) && bitAt X (i - 1)) || bitAt S i) && bitAt (qar T W b) i) := by
 rw [qei hi]
 have hj : i / 64 < W := by omega
 have hs := qvo hX64 (i / 64) (i % 64) (by omega)
 have e : 64 * (i / 64) + i % 64 = i := by omega
 rw [e] at hs
 rw [← hs]
 show ((rdTo W T S X b W).getD (i / 64) 0).testBit (i % 64) = _
 rw [qe4 hj, if_pos hj]
 unfold nxN
 rw [Nat.testBit_and, Nat.testBit_or]
 rfl
theorem qqd {ids : List Int} {Wd : Int} {T S F : List Nat} (h : qan ids Wd T S F = 0) : ∃ W : Nat, Wd = (W : Int) ∧ 1 ≤ W ∧ W ≤ 4 ∧ S.length = W ∧ F.length = ids.length * W ∧ T.length = 256 * W ∧ ∃ l, planR F S T W ids.length = some l ∧ PlanOk T S F W ids.length l ∧ qdb ids W T S F = lnEnd 0 l := by
 obtain ⟨_, _, _, ⟨W, rfl, h1, h4, hT, hS, hF, hp⟩, _⟩ := qcr h
 obtain ⟨l, hl⟩ := Option.isSome_iff_exists.1 hp
 exact ⟨W, rfl, h1, h4, hS, hF, hT, l, hl, PlanOk.of hl, by unfold qdb; rw [hl]⟩
theorem qtj (W : Nat) : onesN (List.replicate W 0) = [] := by
 rw [List.eq_nil_iff_forall_not_mem]
 intro f hf
 obtain ⟨_, h2⟩ := qal.1 hf
 unfold bitAt at h2
 rw [gDe, List.getElem?_replicate] at h2
 split at h2 <;> simp at h2
theorem qqe {ids : List Int} {Wd : Int} {T S F : List Nat} (h0 : qan ids Wd T S F = 0) : shErr ids Wd T S F (qbl ids Wd T S F) 0 = 0 ∧ (qbl ids Wd T S F).length = Wd.toNat ∧ qbl ids Wd T S F = List.replicate Wd.toNat 0 := by
 obtain ⟨W, rfl, _⟩ := qqd h0
 have e : qbl ids (W : Int) T S F = List.replicate W 0 := by unfold qbl; rw [if_pos h0, Int.toNat_natCast]
 rw [e]
 refine ⟨?_, by simp, by simp⟩
 unfold shErr
 rw [h0, if_neg (by simp), List.length_replicate, if_neg (by simp), qtj]
 simp
end
section
open Go.RowKit Go.Conc Go.Pip
def qb8 (T : List Nat) (W f : Nat) : List Nat → Nat → Bool
 | [], _ => true
 | b :: R, 0 => bitAt (qar T W b) f
 | b :: R, p + 1 => bitAt (qar T W b) (f + (p + 1)) && qb8 T W f R p
theorem qme {T S : List Nat} {W f m : Nat} (hT64 : ∀ x ∈ T, x < 18446744073709551616) (hW : f + m ≤ 64 * W) (hS0 : bitAt S f = true) (hS : ∀ p, 0 < p → p < m → bitAt S (f + p) = false) (X : List Nat) (hX : ∀ x ∈ X, x < 18446744073709551616) :
  ∀ (R : List Nat) (p : Nat), p < m → bitAt (qat T S W R.reverse X) (f + p) = if p < R.length then qb8 T W f R p else (bitAt X (f + p - R.length) && qb8 T W f R p)
 | [], p, hp => by simp [qat, qb8]
 | b :: R, p, hp => by
  have hY : ∀ x ∈ qat T S W R.reverse X, x < 18446744073709551616 := qh4 hT64 _ _ hX
  rw [List.reverse_cons, qfz, q1z hY hT64 (by omega)]
  cases p with
  | zero =>
   have h0 : 0 < (b :: R).length := by simp
   rw [if_pos h0]
   simp only [Nat.add_zero, qb8, hS0, Bool.or_true, Bool.true_and]
  | succ p =>
   have ih := qme hT64 hW hS0 hS X hX R p (by omega)
   have e : f + (p + 1) - 1 = f + p := by omega
   have d : decide (1 ≤ f + (p + 1)) = true := dcT
   rw [e, d, hS (p + 1) (by omega) hp, Bool.true_and, Bool.or_false, ih]
   have e2 : f + (p + 1) - (b :: R).length = f + p - R.length := by simp only [List.length_cons]; omega
   rw [e2]
   by_cases h : p < R.length
   ·have h2 : p + 1 < (b :: R).length := by simp only [List.length_cons]; omega
    rw [if_pos h, if_pos h2]
    simp only [qb8]
    rw [Bool.and_comm]
   ·have h2 : ¬ p + 1 < (b :: R).length := by simp only [List.length_cons]; omega
    rw [if_neg h, if_neg h2]
    simp only [qb8]
    cases bitAt X (f + p - R.length) <;> cases qb8 T W f R p <;> cases bitAt (qar T W b) (f + (p + 1)) <;> rfl
theorem qf0 : ∀ {l : List Ln} {n rule : Nat} {b : Bool}, lnOk n rule b l = true → ∀ x ∈ l, n ≤ x.2.1 ∧ ∀ y ∈ l, ∀ p, 0 < p → p < x.2.2 → y.2.1 ≠ x.2.1 + p
 | [], n, rule, b, _, x, hx => by cases hx
 | z :: l, n, rule, b, h, x, hx => by
  unfold lnOk at h
  simp only [Bool.and_eq_true, decide_eq_true_eq] at h
  obtain ⟨⟨⟨⟨⟨_, _⟩, h3⟩, _⟩, _⟩, h6⟩ := h
  have ih := qf0 h6
  rcases List.mem_cons.1 hx with rfl | hx2
  ·refine ⟨by omega, fun y hy p hp hpl => ?_⟩
   rcases List.mem_cons.1 hy with rfl | hy2
   ·omega
   ·have := (ih y hy2).1
    omega
  ·refine ⟨by have := (ih x hx2).1; omega, fun y hy p hp hpl => ?_⟩
   rcases List.mem_cons.1 hy with rfl | hy2
   ·have := (ih x hx2).1
    omega
   ·exact (ih x hx2).2 y hy2 p hp hpl
theorem PlanOk.lane {T S F : List Nat} {W n : Nat} {l : List Ln} (h : PlanOk T S F W n l) (hSl : S.length = W) {x : Ln} (hx : x ∈ l) : x.2.1 + x.2.2 ≤ 64 * W ∧ bitAt S x.2.1 = true ∧ ∀ p, 0 < p → p < x.2.2 → bitAt S (x.2.1 + p) = false := by
 have lf := LnFacts.of h.ok
 have hall := lf.all x hx
 have hok : lnOk 0 0 false l = true := by
  have := h.ok
  unfold qao at this
  simp only [Bool.and_eq_true] at this
  exact this.1.2
 have h64 := lf.e64
 refine ⟨by omega, ?_, fun p hp hpl => ?_⟩
 ·have : x.2.1 ∈ onesN S := by rw [← h.starts]; exact List.mem_map.2 ⟨x, hx, rfl⟩
  exact (qal.1 this).2
 ·rw [← Bool.not_eq_true]
  intro hb
  have : x.2.1 + p ∈ onesN S := qal.2 ⟨by rw [hSl]; omega, hb⟩
  rw [← h.starts] at this
  obtain ⟨y, hy, he⟩ := List.mem_map.1 this
  exact (qf0 hok x hx).2 y hy p hp hpl he
end
section
open Go.RowKit Go.Conc Go.Pip
def wantK (T : List Nat) (W : Nat) (B : List Nat) (f p k : Nat) : Bool := decide (p < B.length) && (List.range k).all (fun j => bitAt (qar T W (B.getD (B.length - 1 - p + j) 0)) (f + j))
theorem qi5 (T : List Nat) (W f : Nat) : ∀ (R : List Nat) (p : Nat), p < R.length → qb8 T W f R p = (List.range (p + 1)).all (fun k => bitAt (qar T W (R.getD (p - k) 0)) (f + k))
 | [], p, h => by simp at h
 | b :: R, 0, h => by simp [qb8]
 | b :: R, p + 1, h => by
  have ih := qi5 T W f R p (by simpa using h)
  rw [List.range_succ, List.all_append]
  simp only [qb8, ih]
  have e : (List.range (p + 1)).all (fun k => bitAt (qar T W ((b :: R).getD (p + 1 - k) 0)) (f + k)) = (List.range (p + 1)).all (fun k => bitAt (qar T W (R.getD (p - k) 0)) (f + k)) := by
   rw [Bool.eq_iff_iff, List.all_eq_true, List.all_eq_true]
   constructor
   ·intro h k hk
    have := h k hk
    have hk2 := List.mem_range.1 hk
    rwa [show p + 1 - k = (p - k) + 1 by omega, List.getD_cons_succ] at this
   ·intro h k hk
    have := h k hk
    have hk2 := List.mem_range.1 hk
    rwa [show p + 1 - k = (p - k) + 1 by omega, List.getD_cons_succ]
  rw [e, Bool.and_comm]
  simp
theorem qos {T : List Nat} {W f p : Nat} {B : List Nat} (h : p < B.length) : qb8 T W f B.reverse p = wantK T W B f p (p + 1) := by
 rw [qi5 T W f B.reverse p (by rw [List.length_reverse]; exact h)]
 unfold wantK
 have d : decide (p < B.length) = true := dT h
 rw [d, Bool.true_and, Bool.eq_iff_iff, List.all_eq_true, List.all_eq_true]
 have e : ∀ k, k ∈ List.range (p + 1) → B.reverse.getD (p - k) 0 = B.getD (B.length - 1 - p + k) 0 := fun k hk => by
  have hk2 := List.mem_range.1 hk
  rw [gDe, gDe, List.getElem?_reverse (by omega)]
  rw [show B.length - 1 - (p - k) = B.length - 1 - p + k by omega]
 constructor
 ·intro g k hk; rw [← e k hk]; exact g k hk
 ·intro g k hk; rw [e k hk]; exact g k hk
theorem qvz {T S F : List Nat} {W n : Nat} {l : List Ln} (h : PlanOk T S F W n l) (hSl : S.length = W) (hT64 : ∀ x ∈ T, x < 18446744073709551616) (B : List Nat) {x : Ln} (hm : x ∈ l) {p : Nat} (hp : p < x.2.2) :
  bitAt (qat T S W B (List.replicate W 0)) (x.2.1 + p) = wantK T W B x.2.1 p (p + 1) := by
 obtain ⟨g1, g2, g3⟩ := h.lane hSl hm
 have a := qme hT64 g1 g2 g3 (List.replicate W 0) (fun y hy => by rw [List.eq_of_mem_replicate hy]; decide) B.reverse p hp
 rw [List.reverse_reverse, List.length_reverse] at a
 rw [a]
 by_cases hp : p < B.length
 ·rw [if_pos hp, qos hp]
 ·rw [if_neg hp]
  have z : bitAt (List.replicate W 0) (x.2.1 + p - B.length) = false := by
   unfold bitAt
   rw [gDe, List.getElem?_replicate]
   split <;> simp
  rw [z, Bool.false_and]
  unfold wantK
  have d : decide (p < B.length) = false := dF hp
  rw [d, Bool.false_and]
end
section
open Go.RowKit Go.Conc Go.Pip
def packR (i : Nat) : Nat → List (List Q4) → List Ln
 | _, [] => []
 | n, L :: Ls => (i, n, L.length) :: packR i (n + L.length) Ls
def qah (Ls : List (List Q4)) : Nat := Ls.flatten.length
def packL : Nat → Nat → List (List (List Q4)) → List Ln
 | _, _, [] => []
 | i, n, R :: Rs => packR i n R ++ packL (i + 1) (n + qah R) Rs
theorem qf1 (L : List Q4) (Ls : List (List Q4)) : qah (L :: Ls) = L.length + qah Ls := by simp [qah]
def qaj (Rs : List (List (List Q4))) : Nat := Rs.flatten.flatten.length
theorem qf2 (R : List (List Q4)) (Rs : List (List (List Q4))) : qaj (R :: Rs) = qah R + qaj Rs := by simp [qaj, qah]
structure PackOk (Rs : List (List (List Q4))) : Prop where
 ne : Rs ≠ []
 le : Rs.length ≤ 16
 rules : ∀ R ∈ Rs, R ≠ [] ∧ ∀ L ∈ R, L ≠ []
 total : qaj Rs ≤ 256
theorem qot (i : Nat) (hi : i < 16) (rest : List Ln) : ∀ (R : List (List Q4)) (n rule : Nat) (b : Bool), (i = rule ∨ (b = true ∧ i = rule + 1)) → (∀ L ∈ R, L ≠ []) → n + qah R ≤ 256 → R ≠ [] → lnOk (n + qah R) i true rest = true → lnOk n rule b (packR i n R ++ rest) = true
 | [], n, rule, b, _, _, _, h, _ => absurd rfl h
 | L :: Ls, n, rule, b, hr, hL, hn, _, hrest => by
  have hl : 1 ≤ L.length := by
   have := hL L (by simp)
   cases L with
   | nil => exact absurd rfl this
   | cons _ _ => simp
  rw [qf1] at hn hrest
  have htail : lnOk (n + L.length) i true (packR i (n + L.length) Ls ++ rest) = true := by
   by_cases hLs : Ls = []
   ·subst hLs
    simpa [packR, qah] using hrest
   ·refine qot i hi rest Ls (n + L.length) i true (.inl rfl) (fun L hl => hL L (List.mem_cons_of_mem _ hl)) (by omega) hLs ?_
    rwa [Nat.add_assoc]
  simp only [packR, List.cons_append, lnOk, Bool.and_eq_true, Bool.or_eq_true, decide_eq_true_eq]
  refine ⟨⟨⟨⟨⟨hl, hi⟩, trivial⟩, ?_⟩, by omega⟩, htail⟩
  rcases hr with h | ⟨h1, h2⟩
  ·exact .inl h
  ·exact .inr ⟨h1, h2⟩
theorem qjp : ∀ (Rs : List (List (List Q4))) (i n rule : Nat) (b : Bool), (i = rule ∨ (b = true ∧ i = rule + 1)) → i + Rs.length ≤ 16 → (∀ R ∈ Rs, R ≠ [] ∧ ∀ L ∈ R, L ≠ []) → n + qaj Rs ≤ 256 → lnOk n rule b (packL i n Rs) = true
 | [], i, n, rule, b, _, _, _, _ => rfl
 | R :: Rs, i, n, rule, b, hr, hi, hR, hn => by
  rw [qf2] at hn
  have h0 := hR R (by simp)
  refine qot i (by simp at hi; omega) _ R n rule b hr h0.2 (by omega) h0.1 ?_
  exact qjp Rs (i + 1) (n + qah R) i true (.inr ⟨rfl, rfl⟩) (by simp at hi; omega) (fun R hR' => hR R (List.mem_cons_of_mem _ hR')) (by omega)
theorem qia : ∀ (a b : List Ln) (n : Nat), lnEnd n (a ++ b) = lnEnd (lnEnd n a) b
 | [], b, n => rfl
 | x :: a, b, n => qia a b _
theorem qmf (i : Nat) : ∀ (R : List (List Q4)) (n : Nat), lnEnd n (packR i n R) = n + qah R
 | [], n => by simp [packR, lnEnd, qah]
 | L :: Ls, n => by simp only [packR, lnEnd]; rw [qmf i Ls, qf1, Nat.add_assoc]
theorem qfo : ∀ (Rs : List (List (List Q4))) (i n : Nat), lnEnd n (packL i n Rs) = n + qaj Rs
 | [], i, n => by simp [packL, lnEnd, qaj]
 | R :: Rs, i, n => by simp only [packL]; rw [qia, qmf, qfo Rs, qf2, Nat.add_assoc]
theorem qjq {i n : Nat} {R : List (List Q4)} (h : R ≠ []) : packR i n R ≠ [] := by
 cases R with
 | nil => exact absurd rfl h
 | cons _ _ => simp [packR]
theorem qkq (i : Nat) : ∀ (R : List (List Q4)) (n : Nat), R ≠ [] → ((packR i n R).getLastD (0, 0, 0)).1 = i
 | [], n, h => absurd rfl h
 | [L], n, _ => rfl
 | L :: M :: Ls, n, _ => by
  have h := qkq i (M :: Ls) (n + L.length) (by simp)
  simp only [packR, List.getLastD_cons] at h ⊢
  exact h
theorem qkr {a b : List Ln} (h : b ≠ []) : qa1 (a ++ b) = qa1 b := by
 unfold qa1
 rw [List.getLastD_eq_getLast?, List.getLastD_eq_getLast?, List.getLast?_append]
 cases hb : b.getLast? with
 | none => exact absurd (List.getLast?_eq_none_iff.1 hb) h
 | some x => rfl
theorem qg4 : ∀ (Rs : List (List (List Q4))) (i n : Nat), Rs ≠ [] → (∀ R ∈ Rs, R ≠ []) → qa1 (packL i n Rs) + 1 = i + Rs.length
 | [], i, n, h, _ => absurd rfl h
 | [R], i, n, _, hR => by
  simp only [packL, List.append_nil, List.length_cons, List.length_nil]
  have := qkq i R n (hR R (by simp))
  unfold qa1
  omega
 | R :: M :: Rs, i, n, _, hR => by
  have ih := qg4 (M :: Rs) (i + 1) (n + qah R) (by simp) (fun R h => hR R (List.mem_cons_of_mem _ h))
  have hne : packL (i + 1) (n + qah R) (M :: Rs) ≠ [] := by
   simp only [packL]
   intro e
   exact qjq (hR M (by simp)) (List.append_eq_nil_iff.1 e).1
  rw [packL, qkr hne, ih]
  simp only [List.length_cons]
  omega
theorem qks (i : Nat) : ∀ (R : List (List Q4)) (n : Nat) (x : Ln), x ∈ packR i n R → x.1 = i ∧ ∃ L ∈ R, x.2.2 = L.length ∧ n ≤ x.2.1 ∧ ∀ j, j < L.length → R.flatten[x.2.1 - n + j]? = L[j]?
 | [], n, x, h => by cases h
 | L :: Ls, n, x, h => by
  rcases List.mem_cons.1 h with rfl | h
  ·refine ⟨rfl, L, by simp, rfl, Nat.le_refl _, fun j hj => ?_⟩
   simp only [List.flatten_cons, Nat.sub_self, Nat.zero_add]
   rw [List.getElem?_append_left hj]
  ·obtain ⟨h1, M, hM, h2, h3, h4⟩ := qks i Ls (n + L.length) x h
   refine ⟨h1, M, List.mem_cons_of_mem _ hM, h2, by omega, fun j hj => ?_⟩
   rw [List.flatten_cons, List.getElem?_append_right (by omega), ← h4 j hj]
   congr 1
   omega
theorem qet : ∀ (Rs : List (List (List Q4))) (i n : Nat) (x : Ln), x ∈ packL i n Rs → i ≤ x.1 ∧ ∃ R, Rs[x.1 - i]? = some R ∧ ∃ L ∈ R, x.2.2 = L.length ∧ n ≤ x.2.1 ∧ ∀ j, j < L.length → Rs.flatten.flatten[x.2.1 - n + j]? = L[j]?
 | [], i, n, x, h => by cases h
 | R :: Rs, i, n, x, h => by
  rcases List.mem_append.1 h with h | h
  ·obtain ⟨h1, L, hL, h2, h3, h4⟩ := qks i R n x h
   refine ⟨by omega, R, by rw [h1]; simp, L, hL, h2, h3, fun j hj => ?_⟩
   have h5 := h4 j hj
   have hlt : x.2.1 - n + j < R.flatten.length := by
    rcases Nat.lt_or_ge (x.2.1 - n + j) R.flatten.length with h | h
    ·exact h
    ·rw [List.getElem?_eq_none h, gEe hj] at h5
     cases h5
   rw [List.flatten_cons, List.flatten_append, List.getElem?_append_left hlt]
   exact h5
  ·obtain ⟨h1, R', hR', L, hL, h2, h3, h4⟩ := qet Rs (i + 1) (n + qah R) x h
   refine ⟨by omega, R', by rw [show x.1 - i = x.1 - (i + 1) + 1 by omega]; simpa using hR', L, hL, h2, by omega, fun j hj => ?_⟩
   have e : qah R = R.flatten.length := rfl
   rw [List.flatten_cons, List.flatten_append, List.getElem?_append_right (by omega), ← h4 j hj]
   congr 1
   omega
theorem qmg (i : Nat) : ∀ (R : List (List Q4)) (n : Nat) (L : List Q4), L ∈ R → ∃ x ∈ packR i n R, x.1 = i ∧ x.2.2 = L.length ∧ n ≤ x.2.1 ∧ ∀ j, j < L.length → R.flatten[x.2.1 - n + j]? = L[j]?
 | [], n, L, h => by cases h
 | M :: Ls, n, L, h => by
  by_cases e : L = M
  ·subst e
   refine ⟨(i, n, L.length), by simp [packR], rfl, rfl, Nat.le_refl _, fun j hj => ?_⟩
   simp only [List.flatten_cons, Nat.sub_self, Nat.zero_add]
   rw [List.getElem?_append_left hj]
  ·have h2 : L ∈ Ls := by
    rcases List.mem_cons.1 h with h | h
    ·exact absurd h e
    ·exact h
   obtain ⟨x, hx, h1, h3, h4, h5⟩ := qmg i Ls (n + M.length) L h2
   refine ⟨x, List.mem_cons_of_mem _ hx, h1, h3, by omega, fun j hj => ?_⟩
   rw [List.flatten_cons, List.getElem?_append_right (by omega), ← h5 j hj]
   congr 1
   omega
theorem qmh : ∀ (Rs : List (List (List Q4))) (i n r : Nat) (R : List (List Q4)) (L : List Q4), Rs[r]? = some R → L ∈ R → ∃ x ∈ packL i n Rs, x.1 = i + r ∧ x.2.2 = L.length ∧ n ≤ x.2.1 ∧ ∀ j, j < L.length → Rs.flatten.flatten[x.2.1 - n + j]? = L[j]?
 | [], i, n, r, R, L, h, _ => by simp at h
 | M :: Rs, i, n, 0, R, L, h, hL => by
  have e : M = R := by simpa using h
  subst e
  obtain ⟨x, hx, h1, h3, h4, h5⟩ := qmg i M n L hL
  refine ⟨x, List.mem_append_left _ hx, by omega, h3, h4, fun j hj => ?_⟩
  have h6 := h5 j hj
  have hlt : x.2.1 - n + j < M.flatten.length := by
   rcases Nat.lt_or_ge (x.2.1 - n + j) M.flatten.length with h | h
   ·exact h
   ·rw [List.getElem?_eq_none h, gEe hj] at h6
    cases h6
  rw [List.flatten_cons, List.flatten_append, List.getElem?_append_left hlt]
  exact h6
 | M :: Rs, i, n, r + 1, R, L, h, hL => by
  obtain ⟨x, hx, h1, h3, h4, h5⟩ := qmh Rs (i + 1) (n + qah M) r R L (by simpa using h) hL
  have e : qah M = M.flatten.length := rfl
  refine ⟨x, List.mem_append_right _ hx, by omega, h3, by omega, fun j hj => ?_⟩
  rw [List.flatten_cons, List.flatten_append, List.getElem?_append_right (by omega), ← h5 j hj]
  congr 1
  omega
theorem qv0 : ∀ {a b : List Nat}, a.Pairwise (· < ·) → b.Pairwise (· < ·) → (∀ x, x ∈ a ↔ x ∈ b) → a = b
 | [], [], _, _, _ => rfl
 | [], y :: b, _, _, h => by have := (h y).2 (by simp); cases this
 | x :: a, [], _, _, h => by have := (h x).1 (by simp); cases this
 | x :: a, y :: b, ha, hb, h => by
  obtain ⟨ha1, ha2⟩ := List.pairwise_cons.1 ha
  obtain ⟨hb1, hb2⟩ := List.pairwise_cons.1 hb
  have e : x = y := by
   have h1 := (h x).1 (by simp)
   have h2 := (h y).2 (by simp)
   rcases List.mem_cons.1 h1 with h1 | h1
   ·exact h1
   ·rcases List.mem_cons.1 h2 with h2 | h2
    ·exact h2.symm
    ·have := hb1 x h1
     have := ha1 y h2
     omega
  subst e
  rw [qv0 ha2 hb2 fun z => ?_]
  have hz := h z
  simp only [List.mem_cons] at hz
  constructor
  ·intro hm
   have := ha1 z hm
   rcases hz.1 (.inr hm) with h | h
   ·omega
   ·exact h
  ·intro hm
   have := hb1 z hm
   rcases hz.2 (.inr hm) with h | h
   ·omega
   ·exact h
theorem qou : ∀ {l : List Ln} {n rule : Nat} {b : Bool}, lnOk n rule b l = true → (qaq l).Pairwise (· < ·) ∧ ∀ x ∈ qaq l, n ≤ x
 | [], n, rule, b, _ => ⟨List.Pairwise.nil, fun x h => by cases h⟩
 | x :: l, n, rule, b, h => by
  obtain ⟨h1, h2, h3⟩ := qcc h
  obtain ⟨g1, g2⟩ := qou h3
  have ef : qaq (x :: l) = x.2.1 :: qaq l := rfl
  rw [ef]
  refine ⟨List.pairwise_cons.2 ⟨fun y hy => ?_, g1⟩, fun y hy => ?_⟩
  ·have := g2 y hy
   omega
  ·rcases List.mem_cons.1 hy with e | hy
   ·omega
   ·have := g2 y hy
    omega
theorem qd1 : ∀ {l : List Ln} {n rule : Nat} {b : Bool}, lnOk n rule b l = true → ∀ w ∈ l, 1 ≤ w.2.2
 | [], n, rule, b, _, w, hw => by cases hw
 | z :: l, n, rule, b, h, w, hw => by
  obtain ⟨h1, h2, h3⟩ := qcc h
  rcases List.mem_cons.1 hw with e | hw
  ·subst e; exact h1
  ·exact qd1 h3 w hw
theorem qmi : ∀ {l : List Ln} {n rule : Nat} {b : Bool}, lnOk n rule b l = true → ∀ x ∈ l, ∀ y ∈ l, x.2.1 + x.2.2 = y.2.1 + y.2.2 → x = y
 | [], n, rule, b, _, x, hx, _, _, _ => by cases hx
 | z :: l, n, rule, b, h, x, hx, y, hy, e => by
  obtain ⟨h1, h2, h3⟩ := qcc h
  have hall := fun w (hw : w ∈ l) => (qf0 h3 w hw).1
  have hlen : ∀ w ∈ l, 1 ≤ w.2.2 := qd1 h3
  rcases List.mem_cons.1 hx with e1 | hx2
  ·rcases List.mem_cons.1 hy with e2 | hy2
   ·rw [e1, e2]
   ·subst e1
    have := hall y hy2
    have := hlen y hy2
    omega
  ·rcases List.mem_cons.1 hy with e2 | hy2
   ·subst e2
    have := hall x hx2
    have := hlen x hx2
    omega
   ·exact qmi h3 x hx2 y hy2 e
theorem qov {F : List Nat} {W N : Nat} : ∀ {l : List Ln} {n rule : Nat} {b : Bool}, lnOk n rule b l = true → (∀ x ∈ l, ruleR F W N (x.2.1 + x.2.2 - 1) = x.1) → lnR F W N (lnEnd n l) (qaq l) = some l
 | [], n, rule, b, _, _ => rfl
 | x :: l, n, rule, b, h, hr => by
  obtain ⟨h1, h2, h3⟩ := qcc h
  have ih := qov h3 (fun y hy => hr y (List.mem_cons_of_mem _ hy))
  have hhead : (qaq l).headD (lnEnd (n + x.2.2) l) = n + x.2.2 := by
   cases l with
   | nil => rfl
   | cons y l => exact (qcc h3).2.1
  have ef : qaq (x :: l) = x.2.1 :: qaq l := rfl
  have ee : lnEnd n (x :: l) = lnEnd (n + x.2.2) l := rfl
  rw [ef, ee]
  unfold lnR
  rw [hhead, if_neg (by omega), ih]
  have hx := hr x (by simp)
  have e3 : n + x.2.2 - x.2.1 = x.2.2 := by omega
  have e4 : n + x.2.2 - 1 = x.2.1 + x.2.2 - 1 := by omega
  rw [e4, hx, e3]
  rfl
end
section
open Go.RowKit Go.Conc Go.Pip
def posB (C : List Q4) (b : Nat) : List Nat := (List.range C.length).filter (fun q => hasN (C.getD q (0, 0, 0, 0)) b)
structure Built (ids : List Int) (Rs : List (List (List Q4))) (W : Nat) (T S F : List Nat) : Prop where
 ok : PackOk Rs
 n : ids.length = Rs.length
 rng : ∀ x ∈ ids, 1 ≤ x ∧ x ≤ 1000
 asc : AscB ids = true
 w : W = max ((qaj Rs + 63) / 64) 1
 tl : T.length = 256 * W
 sl : S.length = W
 fl : F.length = ids.length * W
 s : S = ofN W (qaq (packL 0 0 Rs))
 f : ∀ r, r < ids.length → finL F W r = ofN W (endsN r (packL 0 0 Rs))
 t : ∀ b, b < 256 → qar T W b = ofN W (posB Rs.flatten.flatten b)
section
variable {ids : List Int} {Rs : List (List (List Q4))} {W : Nat} {T S F : List Nat}
theorem Built.lnOk (h : Built ids Rs W T S F) : lnOk 0 0 false (packL 0 0 Rs) = true :=
 qjp Rs 0 0 0 false (.inl rfl) (by have := h.ok.le; omega) h.ok.rules (by have := h.ok.total; omega)
theorem Built.lanes (h : Built ids Rs W T S F) : qao W (packL 0 0 Rs) = true := by
 unfold qao
 simp only [Bool.and_eq_true, Bool.not_eq_true', List.isEmpty_eq_false_iff, decide_eq_true_eq]
 refine ⟨⟨?_, h.lnOk⟩, ?_⟩
 ·cases hR : Rs with
  | nil => exact absurd hR h.ok.ne
  | cons R Rs' =>
   intro e
   simp only [packL] at e
   exact qjq (h.ok.rules R (by rw [hR]; simp)).1 (List.append_eq_nil_iff.1 e).1
 ·rw [qfo, Nat.zero_add]; exact h.w
theorem Built.w64 (h : Built ids Rs W T S F) : qaj Rs ≤ 64 * W ∧ 1 ≤ W ∧ W ≤ 4 := by
 have := h.w
 have := h.ok.total
 omega
theorem Built.first64 (h : Built ids Rs W T S F) : ∀ i ∈ qaq (packL 0 0 Rs), i < 64 * W := by
 intro i hi
 obtain ⟨x, hx, rfl⟩ := List.mem_map.1 hi
 have lf := LnFacts.of h.lanes
 have := lf.all x hx
 have := lf.e64
 omega
theorem Built.end64 (h : Built ids Rs W T S F) (r : Nat) : ∀ i ∈ endsN r (packL 0 0 Rs), i < 64 * W := by
 intro i hi
 obtain ⟨x, hx, rfl, _⟩ := qbe.1 hi
 have lf := LnFacts.of h.lanes
 have := lf.all x hx
 have := lf.e64
 unfold qa5
 omega
theorem Built.pos64 (h : Built ids Rs W T S F) (b : Nat) : ∀ i ∈ posB Rs.flatten.flatten b, i < 64 * W := by
 intro i hi
 have h1 := List.mem_range.1 (List.mem_filter.1 hi).1
 have := h.w64
 unfold qaj at this
 omega
theorem qya {W : Nat} {l : List Nat} (h : ∀ i ∈ l, i < 64 * W) (ha : l.Pairwise (· < ·)) : onesN (ofN W l) = l := by
 refine qv0 (qc5 _) ha fun x => ?_
 rw [qal, qb4, qdf h, decide_eq_true_eq]
 exact ⟨fun h => h.2, fun hx => ⟨h x hx, hx⟩⟩
theorem Built.starts (h : Built ids Rs W T S F) : onesN S = qaq (packL 0 0 Rs) := by
 rw [h.s]
 exact qya h.first64 (qou h.lnOk).1
theorem Built.fin_bit (h : Built ids Rs W T S F) {r : Nat} (hr : r < ids.length) (p : Nat) : bitAt (finL F W r) p = decide (p ∈ endsN r (packL 0 0 Rs)) := by
 rw [h.f r hr, qdf (h.end64 r)]
theorem Built.rule (h : Built ids Rs W T S F) : ∀ x ∈ packL 0 0 Rs, ruleR F W ids.length (x.2.1 + x.2.2 - 1) = x.1 := by
 intro x hx
 obtain ⟨_, R, hR, _⟩ := qet Rs 0 0 x hx
 have hr : x.1 < ids.length := by
  rw [h.n]
  have := (List.getElem?_eq_some_iff.1 hR).1
  simpa using this
 refine qvc hr ?_ fun s hs => ?_
 ·rw [h.fin_bit hr, decide_eq_true_eq]
  exact qbe.2 ⟨x, hx, rfl, rfl⟩
 ·rw [h.fin_bit (by omega), decide_eq_false_iff_not]
  intro hm
  obtain ⟨y, hy, he, hs2⟩ := qbe.1 hm
  have l1 := qd1 h.lnOk x hx
  have l2 := qd1 h.lnOk y hy
  unfold qa5 at he
  have := qmi h.lnOk x hx y hy (by omega)
  subst this
  omega
theorem Built.top (h : Built ids Rs W T S F) : topOf (prs F W ids.length) = lnEnd 0 (packL 0 0 Rs) := by
 have lf := LnFacts.of h.lanes
 refine Nat.le_antisymm (qe3 fun x hx => ?_) ?_
 ·obtain ⟨h1, h2⟩ := qcn.1 (show (x.1, x.2) ∈ prs F W ids.length from hx)
  have hb := (qal.1 h2).2
  rw [h.fin_bit h1, decide_eq_true_eq] at hb
  obtain ⟨y, hy, he, _⟩ := qbe.1 hb
  have := lf.all y hy
  unfold qa5 at he
  omega
 ·have hm := qnr lf.ne
  obtain ⟨x, hx⟩ : ∃ x, (packL 0 0 Rs).getLastD (0, 0, 0) = x := ⟨_, rfl⟩
  have hl := lf.last
  rw [hx] at hm hl
  obtain ⟨_, R, hR, _⟩ := qet Rs 0 0 x hm
  have hr : x.1 < ids.length := by
   rw [h.n]
   have := (List.getElem?_eq_some_iff.1 hR).1
   simpa using this
  have hin : (qa5 x, x.1) ∈ prs F W ids.length := by
   refine qcn.2 ⟨hr, qal.2 ⟨?_, ?_⟩⟩
   ·rw [qc6 h.fl hr]
    exact h.end64 x.1 _ (qbe.2 ⟨x, hm, rfl, rfl⟩)
   ·rw [h.fin_bit hr, decide_eq_true_eq]
    exact qbe.2 ⟨x, hm, rfl, rfl⟩
  have := qw8 hin
  have l1 := qd1 h.lnOk x hm
  unfold qa5 at this
  simp only at this
  omega
theorem Built.row_bit (h : Built ids Rs W T S F) {b : Nat} (hb : b < 256) (q : Nat) : bitAt (qar T W b) q = (decide (q < qaj Rs) && hasN (Rs.flatten.flatten.getD q (0, 0, 0, 0)) b) := by
 rw [h.t b hb, qdf (h.pos64 b), Bool.eq_iff_iff, decide_eq_true_eq, Bool.and_eq_true, decide_eq_true_eq]
 unfold posB qaj
 rw [List.mem_filter, List.mem_range]
theorem Built.plan (h : Built ids Rs W T S F) : planR F S T W ids.length = some (packL 0 0 Rs) := by
 have lf := LnFacts.of h.lanes
 unfold planR
 rw [h.starts, h.top, qov h.lnOk h.rule]
 simp only
 have h1 : decide (qa1 (packL 0 0 Rs) + 1 = ids.length) = true := dT (by rw [qg4 Rs 0 0 h.ok.ne (fun R hR => (h.ok.rules R hR).1), h.n, Nat.zero_add])
 have h2 : decide (ofN W (qaq (packL 0 0 Rs)) = S) = true := dT h.s.symm
 have h3 : (List.range ids.length).all (fun r => decide (ofN W (endsN r (packL 0 0 Rs)) = finL F W r)) = true := by
  rw [List.all_eq_true]
  intro r hr
  exact dT (h.f r (List.mem_range.1 hr)).symm
 have h4 : qf8 T W (lnEnd 0 (packL 0 0 Rs)) = true := by
  unfold qf8
  rw [List.all_eq_true]
  intro b hb
  refine dT ?_
  have hb := List.mem_range.1 hb
  by_cases he : onesN (qar T W b) = []
  ·rw [he]; simp
  ·have hm := qnq he
   have hbit := (qal.1 hm).2
   rw [h.row_bit hb, Bool.and_eq_true, decide_eq_true_eq] at hbit
   have he2 : (onesN (qar T W b)).isEmpty = false := by rw [List.isEmpty_eq_false_iff]; exact he
   rw [he2, qfo]
   simp only [Bool.false_eq_true, if_false]
   omega
 rw [h.lanes, h1, h2, h3, h4]
 rfl
theorem Built.setOk (h : Built ids Rs W T S F) : qan ids (W : Int) T S F = 0 := by
 have hw := h.w64
 have hn := h.n
 have hle := h.ok.le
 have hne : Rs.length ≠ 0 := by
  intro e
  exact h.ok.ne (List.eq_nil_of_length_eq_zero e)
 unfold qan
 rw [if_neg (by omega), if_neg (by omega)]
 have h1 : (ids.all (fun x => decide (1 ≤ x ∧ x ≤ 1000)) && decide (1 ≤ (W : Int) ∧ (W : Int) ≤ 4)) = true := by
  rw [Bool.and_eq_true]
  exact ⟨List.all_eq_true.2 fun x hx => dT (h.rng x hx), dcT⟩
 rw [if_pos h1, if_pos]
 rw [Int.toNat_natCast, h.plan, h.asc]
 simp only [Bool.and_eq_true, decide_eq_true_eq, Option.isSome_some]
 exact ⟨⟨trivial, h.tl, h.sl, h.fl⟩, trivial⟩
theorem Built.hit (h : Built ids Rs W T S F) (hS64 : ∀ x ∈ S, x < 18446744073709551616) (hT64 : ∀ x ∈ T, x < 18446744073709551616) (B : List Nat) (hB : ∀ b ∈ B, b < 256) {r : Nat} (hr : r < ids.length) :
  r ∈ hitsN F (qat T S W B (List.replicate W 0)) W ids.length ↔ ∃ R, Rs[r]? = some R ∧ ∃ L ∈ R, L.length ≤ B.length ∧ mtAt B L (B.length - L.length) := by
 have hp := PlanOk.of h.plan
 have hX64 := qh4 (S := S) (W := W) hT64 B (List.replicate W 0) (fun y hy => by rw [List.eq_of_mem_replicate hy]; decide)
 rw [ql9 hX64]
 unfold qdr
 rw [List.mem_filter, List.mem_range, ql8]
 have key : ∀ x ∈ packL 0 0 Rs, ∀ L : List Q4, x.2.2 = L.length → (∀ j, j < L.length → Rs.flatten.flatten[x.2.1 - 0 + j]? = L[j]?) → (bitAt (qat T S W B (List.replicate W 0)) (qa5 x) = true ↔ L.length ≤ B.length ∧ mtAt B L (B.length - L.length)) := by
  intro x hx L hl hL
  have l1 := qd1 h.lnOk x hx
  have e : qa5 x = x.2.1 + (L.length - 1) := by unfold qa5; omega
  rw [e, qvz hp h.sl hT64 B hx (by omega)]
  unfold wantK
  rw [show L.length - 1 + 1 = L.length by omega, Bool.and_eq_true, decide_eq_true_eq, List.all_eq_true, qh2]
  have hbit : ∀ j, j < L.length → L.length ≤ B.length → (bitAt (qar T W (B.getD (B.length - 1 - (L.length - 1) + j) 0)) (x.2.1 + j) = true ↔ hasN (L.getD j (0, 0, 0, 0)) (B.getD (B.length - L.length + j) 0) = true) := by
   intro j hj hle
   have e2 : B.length - 1 - (L.length - 1) + j = B.length - L.length + j := by omega
   have hlt : B.length - L.length + j < B.length := by omega
   have hb : B.getD (B.length - L.length + j) 0 < 256 := by
    rw [gDe, gEe hlt]
    exact hB _ (List.getElem_mem hlt)
   have hc := hL j hj
   rw [Nat.sub_zero, gEe hj] at hc
   have hq := (List.getElem?_eq_some_iff.1 hc).1
   rw [e2, h.row_bit hb]
   have e3 : Rs.flatten.flatten.getD (x.2.1 + j) (0, 0, 0, 0) = L.getD j (0, 0, 0, 0) := by
    rw [gDe, hc, gDe, gEe hj]
   have d : decide (x.2.1 + j < qaj Rs) = true := dT hq
   rw [d, Bool.true_and, e3]
  constructor
  ·rintro ⟨h1, h2⟩
   refine ⟨by omega, fun j hj => ⟨by omega, (hbit j hj (by omega)).1 (h2 j (List.mem_range.2 hj))⟩⟩
  ·rintro ⟨h1, h2⟩
   refine ⟨by omega, fun j hj => (hbit j (List.mem_range.1 hj) h1).2 (h2 j (List.mem_range.1 hj)).2⟩
 constructor
 ·rintro ⟨_, i, hi, hb, hf⟩
  rw [h.fin_bit hr, decide_eq_true_eq] at hf
  obtain ⟨x, hx, rfl, rfl⟩ := qbe.1 hf
  obtain ⟨_, R, hR, L, hL, hl, _, hc⟩ := qet Rs 0 0 x hx
  exact ⟨R, by simpa using hR, L, hL, (key x hx L hl hc).1 hb⟩
 ·rintro ⟨R, hR, L, hL, hm⟩
  obtain ⟨x, hx, h1, hl, _, hc⟩ := qmh Rs 0 0 r R L hR hL
  rw [Nat.zero_add] at h1
  have hmem : qa5 x ∈ endsN r (packL 0 0 Rs) := qbe.2 ⟨x, hx, rfl, h1.symm⟩
  exact ⟨hr, qa5 x, h.end64 r _ hmem, (key x hx L hl hc).2 hm, by rw [h.fin_bit hr, decide_eq_true_eq]; exact hmem⟩
end
def allP (B : List Nat) (ps : List (List El)) : List (Int × Int) := (List.range B.length).flatMap (fun k => ((List.range ps.length).filter (fun r => qaw B (ps.getD r []) (fun _ => true) (k + 1))).map (fun r : Nat => (((k + 1 : Nat) : Int), (r : Int))))
def qil (ps : List (List El)) (Rs : List (List (List Q4))) : Prop := ps.length = Rs.length ∧ ∀ (i : Nat) (p : List El) (R : List (List Q4)), ps[i]? = some p → Rs[i]? = some R → ∀ L, L ∈ R ↔ ∃ c, okCh (gapsN p) c ∧ L = lineN p c
theorem qfa (F X : List Nat) (W : Nat) : ∀ n, hitsN F X W n = (List.range n).filter (fun r => decide (metN F X W r W ≠ 0))
 | 0 => rfl
 | n + 1 => by
  rw [hitsN, qfa F X W n, List.range_succ, List.filter_append]
  by_cases h : metN F X W n W = 0 <;> simp [h]
theorem qi7 (T S F : List Nat) (W n : Nat) (B X : List Nat) (hat : B.length ≤ 1000000) : ∀ k, k ≤ B.length → qa3 T S F W n (B.take k) X 0 = (List.range k).flatMap (fun j => (hitsN F (qat T S W (B.take (j + 1)) X) W n).map (fun r : Nat => (((j + 1 : Nat) : Int), (r : Int))))
 | 0, _ => by simp [qa3]
 | k + 1, hk => by
  have hb : B[k]? = some (B[k]'(by omega)) := gEe (by omega)
  obtain ⟨h1, h2⟩ := qvq (T := T) (S := S) (F := F) (X := X) (W := W) (nn := n) (n := 0) hb (by omega)
  rw [List.range_succ, List.flatMap_append, ← qi7 T S F W n B X hat k (by omega)]
  have h3 : qa3 T S F W n (B.take (k + 1)) X 0 = _ := h2
  rw [h3, ← h1]
  simp
theorem qtk {f g : Nat → Bool} {n : Nat} (h : ∀ r, r < n → f r = g r) : (List.range n).filter f = (List.range n).filter g := by
 refine List.filter_congr fun x hx => h x (List.mem_range.1 hx)
theorem qqf {ids : List Int} {ps : List (List El)} {Rs : List (List (List Q4))} {W : Nat} {T S F : List Nat} (h : Built ids Rs W T S F) (hl : qil ps Rs) (hS64 : ∀ x ∈ S, x < 18446744073709551616) (hT64 : ∀ x ∈ T, x < 18446744073709551616) (B : List Nat) (hB : ∀ b ∈ B, b < 256) (hlen : B.length ≤ 1000000) :
  qa3 T S F W ids.length B (List.replicate W 0) 0 = allP B ps := by
 have h1 := qi7 T S F W ids.length B (List.replicate W 0) hlen B.length (Nat.le_refl _)
 rw [List.take_of_length_le (Nat.le_refl _)] at h1
 rw [h1]
 unfold allP
 have hn : ids.length = ps.length := by rw [h.n, hl.1]
 have key : ∀ k, k < B.length → hitsN F (qat T S W (B.take (k + 1)) (List.replicate W 0)) W ids.length = (List.range ps.length).filter (fun r => qaw B (ps.getD r []) (fun _ => true) (k + 1)) := by
  intro k hk
  rw [qfa, hn]
  refine qtk fun r hr => ?_
  have hr2 : r < ids.length := by omega
  have hlt : (B.take (k + 1)).length = k + 1 := by rw [List.length_take]; omega
  have hit := h.hit hS64 hT64 (B.take (k + 1)) (fun b hb => hB b (List.mem_of_mem_take hb)) hr2
  rw [hlt] at hit
  have hm : (decide (metN F (qat T S W (B.take (k + 1)) (List.replicate W 0)) W r W ≠ 0) = true) ↔ r ∈ hitsN F (qat T S W (B.take (k + 1)) (List.replicate W 0)) W ids.length := by
   rw [qfa, List.mem_filter, List.mem_range]
   exact ⟨fun h => ⟨hr2, h⟩, fun h => h.2⟩
  rw [Bool.eq_iff_iff, hm, hit, ql7 hB _ _ _ (by omega)]
  have hp : ps[r]? = some (ps[r]'hr) := gEe hr
  have hR : Rs[r]? = some (Rs[r]'(by rw [← hl.1]; exact hr)) := gEe _
  have hlines := hl.2 r _ _ hp hR
  have ep : ps.getD r [] = ps[r]'hr := by rw [gDe, hp]; rfl
  rw [ep, hR]
  constructor
  ·rintro ⟨R, hRR, L, hL, h2, h3⟩
   obtain rfl := Option.some.inj hRR
   obtain ⟨c, hc, rfl⟩ := (hlines L).1 hL
   refine ⟨k + 1 - (lineN (ps[r]'hr) c).length, c, by omega, rfl, hc, by omega, ?_⟩
   exact (qh1 _ _ _ (by omega)).1 h3
  ·rintro ⟨s, c, h2, _, hc, h4, h5⟩
   refine ⟨_, rfl, lineN (ps[r]'hr) c, (hlines _).2 ⟨c, hc, rfl⟩, by omega, ?_⟩
   rw [qh1 _ _ _ (by omega)]
   have e : k + 1 - (lineN (ps[r]'hr) c).length = s := by omega
   rw [e]
   exact h5
 have congr : ∀ (l : List Nat), (∀ k ∈ l, k < B.length) → l.flatMap (fun j => (hitsN F (qat T S W (B.take (j + 1)) (List.replicate W 0)) W ids.length).map (fun r : Nat => (((j + 1 : Nat) : Int), (r : Int)))) = l.flatMap (fun k => ((List.range ps.length).filter (fun r => qaw B (ps.getD r []) (fun _ => true) (k + 1))).map (fun r : Nat => (((k + 1 : Nat) : Int), (r : Int)))) := by
  intro l
  induction l with
  | nil => intro _; rfl
  | cons k l ih =>
   intro hk
   simp only [List.flatMap_cons]
   rw [key k (hk k (by simp)), ih (fun j hj => hk j (List.mem_cons_of_mem _ hj))]
 exact congr _ (fun k hk => List.mem_range.1 hk)
end
end Go.Proofs.YtlgjaefcfnndhaaGreatDoor
