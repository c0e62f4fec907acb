/-
 Sets of bytes: Has and Add of the specification in general.
-/
import Derived.Test.YtlgjaefcfnndhaaGreatDoorP15
import Derived.Test.YtlgjaefcfnndhaaGreatDoorP10
import Derived.Test.YtlgjaefcfnndhaaGreatDoorP12
import Derived.Laws.Bits64b
set_option linter.unusedVariables false
set_option linter.unusedSimpArgs false
set_option maxHeartbeats 16000000
namespace Go.Proofs.YtlgjaefcfnndhaaGreatDoor
section
open Go.RowKit
abbrev Q4 := Nat × Nat × Nat × Nat
def q4W (a : Q4) (j : Nat) : Nat := if j = 0 then a.1 else if j = 1 then a.2.1 else if j = 2 then a.2.2.1 else a.2.2.2
def hasN (a : Q4) (b : Nat) : Bool := (q4W a (b / 64)).testBit (b % 64)
def q4V (a : Q4) : Value := .agg #[.int .u64 (a.1 : Int), .int .u64 (a.2.1 : Int), .int .u64 (a.2.2.1 : Int), .int .u64 (a.2.2.2 : Int)]
structure Q4ok (a : Q4) : Prop where
 a0 : a.1 < 18446744073709551616
 a1 : a.2.1 < 18446744073709551616
 a2 : a.2.2.1 < 18446744073709551616
 a3 : a.2.2.2 < 18446744073709551616
theorem qx2 (a : Q4) (b : Nat) (hb : b < 256) : hasB (a.1 : Int) (a.2.1 : Int) (a.2.2.1 : Int) (a.2.2.2 : Int) b = hasN a b := by
 have key : ∀ x : Nat, ((((x : Int) / 2 ^ (b % 64)).tmod 2 == 1) : Bool) = x.testBit (b % 64) := by
  intro x
  have e1 : ((2 : Int) ^ (b % 64)) = ((2 ^ (b % 64) : Nat) : Int) := by push_cast; rfl
  rw [e1, ← Int.natCast_ediv, Int.tmod_eq_emod_of_nonneg (Int.natCast_nonneg _), Nat.testBit_eq_decide_div_mod_eq]
  have e2 : (((x / 2 ^ (b % 64) : Nat) : Int) % 2) = ((x / 2 ^ (b % 64) % 2 : Nat) : Int) := by push_cast; rfl
  rw [e2, Bool.eq_iff_iff]
  simp only [beq_iff_eq, decide_eq_true_eq]
  omega
 have q : b / 64 = 0 ∨ b / 64 = 1 ∨ b / 64 = 2 ∨ b / 64 = 3 := by omega
 unfold hasB hasN q4W
 rcases q with e | e | e | e
 ·rw [if_pos (by omega), if_pos e]; exact key _
 ·rw [if_neg (by omega), if_pos (by omega), if_neg (by omega), if_pos e]; exact key _
 ·rw [if_neg (by omega), if_neg (by omega), if_pos (by omega), if_neg (by omega), if_neg (by omega), if_pos e]; exact key _
 ·rw [if_neg (by omega), if_neg (by omega), if_neg (by omega), if_neg (by omega), if_neg (by omega), if_neg (by omega)]; exact key _
theorem r_has (a : Q4) (b : Nat) (hb : b < 256) (w : World) : Calls Tryz.prog 35 #[q4V a, .int .u8 (b : Int)] w (RetV w (.bool (hasN a b))) := by
 rw [← qx2 a b hb]
 exact qur _ _ _ _ b hb w
end
section
structure El where
 gap : Bool
 cls : Q4
 lo : Int
 hi : Int
def gapsN (p : List El) : List El := p.filter (fun e => e.gap)
def okCh : List El → List Nat → Prop
 | [], c => c = []
 | g :: gs, c => ∃ n c', c = n :: c' ∧ g.lo ≤ (n : Int) ∧ (n : Int) ≤ g.hi ∧ okCh gs c'
def allQ : Q4 := (18446744073709551615, 18446744073709551615, 18446744073709551615, 18446744073709551615)
theorem qx3 {b : Nat} (hb : b < 256) : hasN allQ b = true := by
 have h : ∀ m : Fin 64, Nat.testBit 18446744073709551615 m.val = true := by decide +kernel
 unfold hasN q4W allQ
 have := h ⟨b % 64, Nat.mod_lt _ (by decide)⟩
 split
 ·exact this
 ·split
  ·exact this
  ·split <;> exact this
def lineN : List El → List Nat → List Q4
 | [], _ => []
 | e :: p, c => if e.gap then List.replicate (c.headD 0) allQ ++ lineN p c.tail else e.cls :: lineN p c
def mtAt (B : List Nat) : List Q4 → Nat → Prop
 | [], _ => True
 | q :: L, s => s < B.length ∧ hasN q (B.getD s 0) = true ∧ mtAt B L (s + 1)
theorem qfy (B : List Nat) : ∀ (L M : List Q4) (s : Nat), mtAt B (L ++ M) s ↔ mtAt B L s ∧ mtAt B M (s + L.length)
 | [], M, s => by simp [mtAt]
 | q :: L, M, s => by
  simp only [List.cons_append, mtAt, qfy B L M (s + 1), List.length_cons, and_assoc]
  rw [show s + 1 + L.length = s + (L.length + 1) by omega]
theorem qjm {B : List Nat} (hB : ∀ b ∈ B, b < 256) : ∀ (n s : Nat), mtAt B (List.replicate n allQ) s ↔ s + n ≤ B.length ∨ n = 0
 | 0, s => by simp [mtAt]
 | n + 1, s => by
  simp only [List.replicate_succ, mtAt, qjm hB n (s + 1)]
  constructor
  ·rintro ⟨h1, _, h2⟩; omega
  ·intro h
   have h1 : s < B.length := by omega
   refine ⟨h1, qx3 (hB _ ?_), by omega⟩
   rw [gDe, gEe h1]
   exact List.getElem_mem h1
def stepE (e : El) (B : List Nat) (at_ : Nat → Bool) (k : Nat) : Bool :=
 if e.gap then (List.range (k + 1)).any (fun j => at_ j && decide (e.lo ≤ ((k - j : Nat) : Int) ∧ ((k - j : Nat) : Int) ≤ e.hi))
 else decide (1 ≤ k ∧ k ≤ B.length) && at_ (k - 1) && hasN e.cls (B.getD (k - 1) 0)
def qaw (B : List Nat) : List El → (Nat → Bool) → Nat → Bool
 | [], at_ => at_
 | e :: p, at_ => qaw B p (stepE e B at_)
theorem ql7 {B : List Nat} (hB : ∀ b ∈ B, b < 256) : ∀ (p : List El) (at_ : Nat → Bool) (k : Nat), k ≤ B.length → (qaw B p at_ k = true ↔ ∃ s c, s ≤ k ∧ at_ s = true ∧ okCh (gapsN p) c ∧ s + (lineN p c).length = k ∧ mtAt B (lineN p c) s)
 | [], at_, k, hk => by
  simp only [qaw, gapsN, List.filter_nil, okCh, lineN, mtAt]
  constructor
  ·intro h; exact ⟨k, [], Nat.le_refl _, h, rfl, rfl, trivial⟩
  ·rintro ⟨s, c, h1, h2, rfl, h4, _⟩
   have : s = k := by simpa using h4
   rw [← this]; exact h2
 | e :: p, at_, k, hk => by
  rw [qaw, ql7 hB p _ k hk]
  cases hg : e.gap with
  | false =>
   have eg : gapsN (e :: p) = gapsN p := by simp [gapsN, hg]
   have el : ∀ c, lineN (e :: p) c = e.cls :: lineN p c := fun c => by simp [lineN, hg]
   rw [eg]
   constructor
   ·rintro ⟨s, c, h1, h2, h3, h4, h5⟩
    simp only [stepE, hg, Bool.false_eq_true, if_false, Bool.and_eq_true, decide_eq_true_eq] at h2
    obtain ⟨⟨⟨g1, g2⟩, g3⟩, g4⟩ := h2
    refine ⟨s - 1, c, by omega, g3, h3, ?_, ?_⟩
    ·rw [el, List.length_cons]; omega
    ·rw [el]
     exact ⟨by omega, g4, by rw [show s - 1 + 1 = s by omega]; exact h5⟩
   ·rintro ⟨s, c, h1, h2, h3, h4, h5⟩
    rw [el] at h4 h5
    rw [List.length_cons] at h4
    obtain ⟨g1, g2, g3⟩ := h5
    refine ⟨s + 1, c, by omega, ?_, h3, by omega, g3⟩
    simp only [stepE, hg, Bool.false_eq_true, if_false, Bool.and_eq_true, decide_eq_true_eq, Nat.add_sub_cancel]
    exact ⟨⟨⟨by omega, by omega⟩, h2⟩, g2⟩
  | true =>
   have eg : gapsN (e :: p) = e :: gapsN p := by simp [gapsN, hg]
   have el : ∀ n c, lineN (e :: p) (n :: c) = List.replicate n allQ ++ lineN p c := fun n c => by simp [lineN, hg]
   rw [eg]
   constructor
   ·rintro ⟨s, c, h1, h2, h3, h4, h5⟩
    simp only [stepE, hg, if_true, List.any_eq_true, List.mem_range, Bool.and_eq_true, decide_eq_true_eq] at h2
    obtain ⟨j, hj, g1, g2, g3⟩ := h2
    refine ⟨j, (s - j) :: c, by omega, g1, ⟨s - j, c, rfl, g2, g3, h3⟩, ?_, ?_⟩
    ·rw [el, List.length_append, List.length_replicate]; omega
    ·rw [el, qfy, qjm hB, List.length_replicate]
     exact ⟨by omega, by rw [show j + (s - j) = s by omega]; exact h5⟩
   ·rintro ⟨s, c, h1, h2, ⟨n, c', rfl, g1, g2, g3⟩, h4, h5⟩
    rw [el] at h4 h5
    rw [List.length_append, List.length_replicate] at h4
    rw [qfy, qjm hB, List.length_replicate] at h5
    refine ⟨s + n, c', by omega, ?_, g3, by omega, h5.2⟩
    simp only [stepE, hg, if_true, List.any_eq_true, List.mem_range, Bool.and_eq_true, decide_eq_true_eq]
    exact ⟨s, by omega, h2, by rw [show s + n - s = n by omega]; exact g1, by rw [show s + n - s = n by omega]; exact g2⟩
theorem qh1 {B : List Nat} : ∀ (L : List Q4) (s k : Nat), s + L.length ≤ k → (mtAt (B.take k) L s ↔ mtAt B L s)
 | [], s, k, h => by simp [mtAt]
 | q :: L, s, k, h => by
  simp only [List.length_cons] at h
  have ih := qh1 (B := B) L (s + 1) k (by omega)
  have hs : s < k := by omega
  simp only [mtAt, ih, List.length_take]
  have e : (B.take k).getD s 0 = B.getD s 0 := by
   rw [gDe, gDe, List.getElem?_take, if_pos hs]
  rw [e]
  constructor
  ·rintro ⟨a, b, c⟩; exact ⟨by omega, b, c⟩
  ·rintro ⟨a, b, c⟩; exact ⟨by omega, b, c⟩
theorem qh2 {B : List Nat} : ∀ (L : List Q4) (s : Nat), mtAt B L s ↔ ∀ j, j < L.length → s + j < B.length ∧ hasN (L.getD j (0, 0, 0, 0)) (B.getD (s + j) 0) = true
 | [], s => by simp [mtAt]
 | q :: L, s => by
  simp only [mtAt, qh2 L (s + 1)]
  constructor
  ·rintro ⟨h1, h2, h3⟩ j hj
   cases j with
   | zero => exact ⟨h1, h2⟩
   | succ j =>
    have := h3 j (by simpa using hj)
    rw [show s + 1 + j = s + (j + 1) by omega] at this
    simpa using this
  ·intro h
   have h0 := h 0 (by simp)
   refine ⟨h0.1, h0.2, fun j hj => ?_⟩
   have := h (j + 1) (by simpa using hj)
   rw [show s + (j + 1) = s + 1 + j by omega] at this
   simpa using this
end
end Go.Proofs.YtlgjaefcfnndhaaGreatDoor
