/-
 The plain law of shiftand's automaton: what a byte does to the words is what it does to the bits; the hits.
-/
import Derived.Test.YtlgjaefcfnndhaaGreatDoorM23
import Derived.Test.YtlgjaefcfnndhaaGreatDoorM31
import Derived.Test.YtlgjaefcfnndhaaGreatDoorM37
import Derived.Test.YtlgjaefcfnndhaaGreatDoorM38
set_option linter.unusedVariables false
set_option linter.unusedSimpArgs false
set_option maxHeartbeats 16000000
set_option maxRecDepth 100000
namespace Go.Proofs.YtlgjaefcfnndhaaGreatDoor
section
open Go.RowKit Go.Conc Go.Pip
theorem quy {X : List Nat} (hX64 : ∀ x ∈ X, x < 18446744073709551616) (j r : Nat) (hr : r < 64) :
  ((X.getD j 0 * 2) % 18446744073709551616 ||| cyN X j).testBit r = (decide (1 ≤ 64 * j + r) && bitAt X (64 * j + r - 1)) := by
 have e2 : X.getD j 0 * 2 = X.getD j 0 * 2 ^ 1 := by omega
 have em : (18446744073709551616 : Nat) = 2 ^ 64 := by decide
 have ed : (9223372036854775808 : Nat) = 2 ^ 63 := by decide
 have h0 : ∀ k, (X.getD k 0).testBit (64 + k * 0) = false := fun k => Nat.testBit_lt_two_pow (Nat.lt_of_lt_of_le (qbm hX64 k) (by rw [em]; exact Nat.pow_le_pow_right (by decide) (by omega)))
 rw [Nat.testBit_or, em, Nat.testBit_mod_two_pow, e2, Nat.testBit_mul_two_pow]
 unfold cyN bitAt
 by_cases hr0 : r = 0
 ·subst hr0
  by_cases hj : j = 0
  ·subst hj; simp
  ·have e1 : (64 * j + 0 - 1) / 64 = j - 1 := by omega
   have e3 : (64 * j + 0 - 1) % 64 = 63 := by omega
   rw [if_neg hj, e1, e3, ed, Nat.testBit_div_two_pow]
   have d : decide (1 ≤ 64 * j + 0) = true := dcT
   rw [d]
   simp
 ·have e1 : (64 * j + r - 1) / 64 = j := by omega
  have e3 : (64 * j + r - 1) % 64 = r - 1 := by omega
  have d : decide (1 ≤ 64 * j + r) = true := dcT
  have hc : (if j = 0 then 0 else X.getD (j - 1) 0 / 9223372036854775808).testBit r = false := by
   split
   ·simp
   ·rw [ed, Nat.testBit_div_two_pow]
    exact Nat.testBit_lt_two_pow (Nat.lt_of_lt_of_le (qbm hX64 _) (by rw [em]; exact Nat.pow_le_pow_right (by decide) (by omega)))
  rw [hc, e1, e3, d]
  have d1 : decide (r < 64) = true := decide_eq_true hr
  have d2 : decide (r ≥ 1) = true := dcT
  rw [d1, d2]
  simp
end
section
open Go.RowKit
end
section
open Go.RowKit
theorem qf5 (T S : List Nat) (W : Nat) (b : Nat) : ∀ (A X : List Nat), qan T S W (A ++ [b]) X = rdTo W T S (qan T S W A X) b W
 | [], X => rfl
 | a :: A, X => qf5 T S W b A _
theorem qoa : ∀ (A : List Nat) (a : Int), 0 ≤ a → a + (A.length : Int) ≤ 1000000000 → atV A a = a + (A.length : Int)
 | [], a, _, _ => by simp [atV]
 | x :: A, a, h0, h1 => by
  rw [List.length_cons] at h1 ⊢
  have e : IntKind.i64.wrap (a + 1) = a + 1 := by rw [IntKind.wrap_i64]; omega
  unfold atV
  rw [e, qoa A (a + 1) (by omega) (by push_cast at h1 ⊢; omega)]
  push_cast
  omega
theorem qdk {T S : List Nat} {W : Nat} (hT : ∀ x ∈ T, x < 18446744073709551616) : ∀ (A X : List Nat), (∀ x ∈ X, x < 18446744073709551616) → ∀ x ∈ qan T S W A X, x < 18446744073709551616
 | [], X, h => h
 | a :: A, X, h => qdk hT A _ (qih h hT)
theorem Rd.there2 {V : World} {F : Nat → Prop} {sz n : Nat} {v : Value} {xs : List Value} (h : Rd V F sz v n xs) : Rd V (fun k => F k ∧ k < V.heap.size) sz v n xs := by
 obtain ⟨A, c, rfl, h1, h2, h3⟩ := h
 refine ⟨A, c, rfl, h1, h2, fun hn => ?_⟩
 obtain ⟨b, o, rfl, hf, hb, hx⟩ := h3 hn
 exact ⟨b, o, rfl, ⟨hf, hb⟩, hb, hx⟩
structure Fd (lo : Nat) (z : World) (yB : Nat) (RV out : Value) (X : List Nat) (at_ : Int) (ps : List (Int × Int)) (V : World) : Prop where
 o : Off (fun j => j = yB) z V
 yl : yB < z.heap.size
 y : Blk V yB 27 #[RV, .int .i64 at_]
 r : Rd V (fun k => lo ≤ k ∧ k ≠ yB ∧ out.ownBlock ≠ some k) 1 RV X.length (qab X)
 own : V.ownsRow z.heap.size 85 2 out ps.length (qas ps)
section
variable {lo : Nat} {z V V' : World} {yB : Nat} {RV out : Value} {X : List Nat} {at_ : Int} {ps : List (Int × Int)}
theorem Fd.go (h : Fd lo z yB RV out X at_ ps V) (k : Off Nob V V') : Fd lo z yB RV out X at_ ps V' :=
 ⟨h.o.also k.ofNob, h.yl, h.y.to (k.block _ h.y.lt id), h.r.keep k (fun _ _ h => h), qap h.own (fun g hg => k.block g (h.own.lt g hg).2 id)⟩
theorem Fd.put (h : Fd lo z yB RV out X at_ ps V) {RV' : Value} {X' : List Nat} (at' : Int) (hr : Rd V (fun k => lo ≤ k ∧ k ≠ yB ∧ out.ownBlock ≠ some k) 1 RV' X'.length (qab X')) : Fd lo z yB RV' out X' at' ps ((V.setCell ⟨yB, 0, none⟩ RV').setCell ⟨yB, 1, none⟩ (.int .i64 at')) := by
 have o : Off (fun j => j = yB) V ((V.setCell ⟨yB, 0, none⟩ RV').setCell ⟨yB, 1, none⟩ (.int .i64 at')) := Off.put (F := fun j => j = yB) (Off.put (F := fun j => j = yB) oRf (.inl rfl) _) (.inl rfl) _
 exact ⟨h.o.also o, h.yl, (h.y.put 0 RV').put 1 (.int .i64 at'), hr.keep o (fun k hk he => hk.2.1 he), qap h.own (fun g hg => o.block g (h.own.lt g hg).2 (fun e => by have := (h.own.lt g hg).1; have := h.yl; omega))⟩
theorem Rd.beside {V V' : World} {lo yB sz n : Nat} {out out' v : Value} {xs : List Value} (h : Rd V (fun k => lo ≤ k ∧ k ≠ yB ∧ out.ownBlock ≠ some k) sz v n xs) (hg : V.grownBy V' out.ownBlock) (hat : out'.ownBlock = out.ownBlock ∨ out'.ownBlock = some V.heap.size) : Rd V' (fun k => lo ≤ k ∧ k ≠ yB ∧ out'.ownBlock ≠ some k) sz v n xs := by
 have o2 : Off (fun j => out.ownBlock = some j) V V' := Off.grown oRf hg (fun k hk => .inl hk)
 refine (h.there2.keep o2 (fun k hk hf => hk.1.2.2 hf)).mono fun k hk => ⟨hk.1.1, hk.1.2.1, fun e => ?_⟩
 rcases hat with h3 | h3
 ·exact hk.1.2.2 (h3 ▸ e)
 ·rw [h3] at e
  injection e with e
  omega
theorem Fd.grown (h : Fd lo z yB RV out X at_ ps V) {W : World} {out' : Value} {ps' : List (Int × Int)} (o : Off Nob V W) (oW : V'.ownsRow z.heap.size 85 2 out' ps'.length (qas ps')) (hg : W.grownBy V' out.ownBlock) (hat : out'.ownBlock = out.ownBlock ∨ out'.ownBlock = some W.heap.size) : Fd lo z yB RV out' X at_ ps' V' := by
 have h2 := h.go o
 have o2 : Off (fun j => out.ownBlock = some j) W V' := Off.grown oRf hg (fun k hk => .inl hk)
 refine ⟨⟨o2.os.trans h2.o.os, o2.tape.trans h2.o.tape, o2.output.trans h2.o.output, Nat.le_trans h2.o.size o2.size, fun k hk hn => (o2.block k (Nat.lt_of_lt_of_le hk h2.o.size) (fun e => by have := (h2.own.lt k e).1; omega)).trans (h2.o.block k hk hn)⟩, h.yl, h2.y.to (o2.block _ h2.y.lt (fun e => by have := (h2.own.lt _ e).1; have := h.yl; omega)), h2.r.beside hg hat, oW⟩
end
end
section
open Go.RowKit
end
section
open Go.RowKit Go.Conc Go.Pip
theorem qqi {F : List Nat} {W n top : Nat} : ∀ {ss : List Nat} {ls : List Ln}, ss ≠ [] → lnR F W n top ss = some ls → (ls.getLastD (0, 0, 0)).2.1 + (ls.getLastD (0, 0, 0)).2.2 = top
 | [], ls, h, _ => absurd rfl h
 | f :: rest, ls, _, h => by
  unfold lnR at h
  split at h
  ·cases h
  ·rename_i hlt
   obtain ⟨l', hl', rfl⟩ := Option.map_eq_some_iff.1 h
   cases rest with
   | nil =>
    simp only [lnR, Option.some.injEq] at hl'
    subst hl'
    simp only [List.headD_nil] at hlt
    simp [List.getLastD]
    omega
   | cons g rest' =>
    have ih := qqi (ss := g :: rest') (by simp) hl'
    have hne : l' ≠ [] := by
     intro e
     subst e
     have := qer hl'
     simp [qbn] at this
    cases l' with
    | nil => exact absurd rfl hne
    | cons y l'' => simpa [List.getLastD] using ih
structure PlanOk (T S F : List Nat) (W n : Nat) (l : List Ln) : Prop where
 ok : qal W l = true
 starts : qbn l = onesN S
 ends : ∀ r, r < n → ofN W (endsN r l) = finL F W r
 rules : qbc l + 1 = n
 tab : ∀ b i, b < 256 → i < 64 * W → bitAt (qaf T W b) i = true → i < lnEnd 0 l
theorem PlanOk.of {T S F : List Nat} {W n : Nat} {l : List Ln} (h : planR F S T W n = some l) : PlanOk T S F W n l := by
 unfold planR at h
 split at h
 ·cases h
 ·rename_i l0 hl0
  split at h
  ·rename_i hc
   obtain rfl := Option.some.inj h
   simp only [Bool.and_eq_true, decide_eq_true_eq, List.all_eq_true, List.mem_range] at hc
   obtain ⟨⟨⟨⟨h1, h2⟩, h3⟩, h4⟩, h5⟩ := hc
   have hf := qer hl0
   have lf := LnFacts.of h1
   have hne : onesN S ≠ [] := by
    rw [← hf]
    intro e
    exact lf.ne (List.map_eq_nil_iff.1 e)
   have ht := qqi hne hl0
   rw [lf.last] at ht
   refine ⟨h1, hf, h4, h2, fun b i hb hi hbit => ?_⟩
   rw [ht]
   unfold qd1 at h5
   have h6 := of_decide_eq_true (List.all_eq_true.1 h5 b (List.mem_range.2 hb))
   have hm : i ∈ onesN (qaf T W b) := qao.2 ⟨by rw [qbe]; exact hi, hbit⟩
   have hx := qgx (qdb (qaf T W b)) hm
   have hne : (onesN (qaf T W b)).isEmpty = false := by
    rw [List.isEmpty_eq_false_iff]
    intro e
    rw [e] at hm
    cases hm
   rw [hne] at h6
   simp only [Bool.false_eq_true, if_false] at h6
   omega
  ·cases h
theorem qob {T S X : List Nat} {W b i : Nat} (hX64 : ∀ x ∈ X, x < 18446744073709551616) (hT64 : ∀ x ∈ T, x < 18446744073709551616) (hi : i < 64 * W) :
  bitAt (rdTo W T S X b W) i = (((decide (1 ≤ i) && bitAt X (i - 1)) || bitAt S i) && bitAt (qaf T W b) i) := by
 rw [qes hi]
 have hj : i / 64 < W := by omega
 have hs := quy hX64 (i / 64) (i % 64) (by omega)
 have e : 64 * (i / 64) + i % 64 = i := by omega
 rw [e] at hs
 rw [← hs]
 show ((rdTo W T S X b W).getD (i / 64) 0).testBit (i % 64) = _
 rw [qe8 hj, if_pos hj]
 unfold nxN
 rw [Nat.testBit_and, Nat.testBit_or]
 rfl
theorem qhf (T S : List Nat) (W : Nat) : ∀ (A B X : List Nat), qan T S W (A ++ B) X = qan T S W B (qan T S W A X)
 | [], B, X => rfl
 | a :: A, B, X => qhf T S W A B _
theorem qkk : ∀ (A B : List Nat) (a : Int), atV (A ++ B) a = atV B (atV A a)
 | [], B, a => rfl
 | x :: A, B, a => qkk A B _
theorem qgj (T S F : List Nat) (W n : Nat) : ∀ (A B X : List Nat) (a : Int), qa8 T S F W n (A ++ B) X a = qa8 T S F W n A X a ++ qa8 T S F W n B (qan T S W A X) (atV A a)
 | [], B, X, a => rfl
 | x :: A, B, X, a => by
  simp only [List.cons_append, qa8, qgj T S F W n A B, qan, atV, List.append_assoc]
theorem qlz {T S F : List Nat} {W n : Nat} {l : List Ln} (h : PlanOk T S F W n l) (hT64 : ∀ x ∈ T, x < 18446744073709551616) : ∀ (B X : List Nat), (∀ b ∈ B, b < 256) → X.length = W → (∀ x ∈ X, x < 18446744073709551616) → (∀ f ∈ onesN X, f < lnEnd 0 l) → ∀ f ∈ onesN (qan T S W B X), f < lnEnd 0 l
 | [], X, _, _, _, hf => hf
 | b :: B, X, hB, hl, hX, hf => by
  refine qlz h hT64 B _ (fun b hb => hB b (List.mem_cons_of_mem _ hb)) (qdg _ _ _ _ _ _) (qih hX hT64) ?_
  intro f hm
  obtain ⟨h1, h2⟩ := qao.1 hm
  rw [qdg] at h1
  rw [qob hX hT64 h1] at h2
  simp only [Bool.and_eq_true] at h2
  exact h.tab b f (hB b (List.mem_cons_self ..)) h1 h2.2
theorem qdr {ids : List Int} {Wd : Int} {T S F : List Nat} (h : qag ids Wd T S F = 0) : ∃ W : Nat, Wd = (W : Int) ∧ 1 ≤ W ∧ W ≤ 4 ∧ S.length = W ∧ F.length = ids.length * W ∧ T.length = 256 * W ∧ ∃ l, planR F S T W ids.length = some l ∧ PlanOk T S F W ids.length l ∧ qc0 ids W T S F = lnEnd 0 l := by
 obtain ⟨_, _, _, ⟨W, rfl, h1, h4, hT, hS, hF, hp⟩, _⟩ := qcd h
 obtain ⟨l, hl⟩ := Option.isSome_iff_exists.1 hp
 exact ⟨W, rfl, h1, h4, hS, hF, hT, l, hl, PlanOk.of hl, by unfold qc0; rw [hl]⟩
theorem qsw {ids : List Int} {Wd : Int} {T S F X B : List Nat} {at_ : Int} (h : shErr ids Wd T S F X at_ = 0) (hX : ∀ x ∈ X, x < 18446744073709551616) (hT : ∀ x ∈ T, x < 18446744073709551616) (hB : ∀ b ∈ B, b < 256) (hat : at_ + (B.length : Int) ≤ 1000000000) : shErr ids Wd T S F (qan T S X.length B X) (at_ + (B.length : Int)) = 0 := by
 obtain ⟨h0, h1, h2, h3, h4⟩ := qdv h
 obtain ⟨W, rfl, _, _, _, _, _, l, hl, hp, hs⟩ := qdr h0
 have hW : X.length = W := by omega
 subst hW
 simp only [Int.toNat_natCast] at h2
 have hlen := qbf T S X.length B X rfl
 have hin := qlz hp hT B X hB rfl hX (by rw [← hs]; exact h2)
 rw [← hs] at hin
 unfold shErr
 rw [h0, hlen, if_neg (by simp), if_neg (by simp), Int.toNat_natCast]
 have hn : ¬ (onesN (qan T S X.length B X)).any (fun p => decide (qc0 ids X.length T S F ≤ p)) = true := by
  intro hh
  obtain ⟨f, hf, hd⟩ := List.any_eq_true.1 hh
  have := hin f hf
  have := of_decide_eq_true hd
  omega
 rw [if_neg hn, if_neg (by omega)]
theorem qsx (W : Nat) : onesN (List.replicate W 0) = [] := by
 rw [List.eq_nil_iff_forall_not_mem]
 intro f hf
 obtain ⟨_, h2⟩ := qao.1 hf
 unfold bitAt at h2
 rw [List.getD_eq_getElem?_getD, List.getElem?_replicate] at h2
 split at h2 <;> simp at h2
theorem qf6 {ids : List Int} {Wd : Int} {T S F : List Nat} (h0 : qag ids Wd T S F = 0) : shErr ids Wd T S F (qah ids Wd T S F) 0 = 0 ∧ (qah ids Wd T S F).length = Wd.toNat ∧ qah ids Wd T S F = List.replicate Wd.toNat 0 := by
 obtain ⟨W, rfl, _⟩ := qdr h0
 have e : qah ids (W : Int) T S F = List.replicate W 0 := by unfold qah; rw [if_pos h0, Int.toNat_natCast]
 rw [e]
 refine ⟨?_, by simp, by simp⟩
 unfold shErr
 rw [h0, if_neg (by simp), List.length_replicate, if_neg (by simp), qsx]
 simp
end
section
open Go.RowKit Go.Conc Go.Pip
def qb8 (T : List Nat) (W f : Nat) : List Nat → Nat → Bool
 | [], _ => true
 | b :: R, 0 => bitAt (qaf T W b) f
 | b :: R, p + 1 => bitAt (qaf T W b) (f + (p + 1)) && qb8 T W f R p
theorem qfs {T S : List Nat} {W f m : Nat} (hT64 : ∀ x ∈ T, x < 18446744073709551616) (hW : f + m ≤ 64 * W) (hS0 : bitAt S f = true) (hS : ∀ p, 0 < p → p < m → bitAt S (f + p) = false) (X : List Nat) (hX : ∀ x ∈ X, x < 18446744073709551616) :
  ∀ (R : List Nat) (p : Nat), p < m → bitAt (qan T S W R.reverse X) (f + p) = if p < R.length then qb8 T W f R p else (bitAt X (f + p - R.length) && qb8 T W f R p)
 | [], p, hp => by simp [qan, qb8]
 | b :: R, p, hp => by
  have hY : ∀ x ∈ qan T S W R.reverse X, x < 18446744073709551616 := qdk hT64 _ _ hX
  rw [List.reverse_cons, qf5, qob hY hT64 (by omega)]
  cases p with
  | zero =>
   have h0 : 0 < (b :: R).length := by simp
   rw [if_pos h0]
   simp only [Nat.add_zero, qb8, hS0, Bool.or_true, Bool.true_and]
  | succ p =>
   have ih := qfs hT64 hW hS0 hS X hX R p (by omega)
   have e : f + (p + 1) - 1 = f + p := by omega
   have d : decide (1 ≤ f + (p + 1)) = true := dcT
   rw [e, d, hS (p + 1) (by omega) hp, Bool.true_and, Bool.or_false, ih]
   have e2 : f + (p + 1) - (b :: R).length = f + p - R.length := by simp only [List.length_cons]; omega
   rw [e2]
   by_cases h : p < R.length
   ·have h2 : p + 1 < (b :: R).length := by simp only [List.length_cons]; omega
    rw [if_pos h, if_pos h2]
    simp only [qb8]
    rw [Bool.and_comm]
   ·have h2 : ¬ p + 1 < (b :: R).length := by simp only [List.length_cons]; omega
    rw [if_neg h, if_neg h2]
    simp only [qb8]
    cases bitAt X (f + p - R.length) <;> cases qb8 T W f R p <;> cases bitAt (qaf T W b) (f + (p + 1)) <;> rfl
theorem qkn : ∀ {l : List Ln} {n rule : Nat} {b : Bool}, lnOk n rule b l = true → ∀ i, n ≤ i → i < lnEnd n l → ∃ x ∈ l, x.2.1 ≤ i ∧ i < x.2.1 + x.2.2
 | [], n, rule, b, _, i, h1, h2 => by simp only [lnEnd] at h2; omega
 | x :: l, n, rule, b, h, i, h1, h2 => by
  unfold lnOk at h
  simp only [Bool.and_eq_true, decide_eq_true_eq] at h
  obtain ⟨⟨⟨⟨⟨_, _⟩, h3⟩, _⟩, _⟩, h6⟩ := h
  simp only [lnEnd] at h2
  by_cases hi : i < n + x.2.2
  ·exact ⟨x, by simp, by omega, by omega⟩
  ·obtain ⟨y, hy, q⟩ := qkn h6 i (by omega) h2
   exact ⟨y, List.mem_cons_of_mem _ hy, q⟩
theorem qi2 : ∀ {l : List Ln} {n rule : Nat} {b : Bool}, lnOk n rule b l = true → ∀ x ∈ l, n ≤ x.2.1 ∧ ∀ y ∈ l, ∀ p, 0 < p → p < x.2.2 → y.2.1 ≠ x.2.1 + p
 | [], n, rule, b, _, x, hx => by cases hx
 | z :: l, n, rule, b, h, x, hx => by
  unfold lnOk at h
  simp only [Bool.and_eq_true, decide_eq_true_eq] at h
  obtain ⟨⟨⟨⟨⟨_, _⟩, h3⟩, _⟩, _⟩, h6⟩ := h
  have ih := qi2 h6
  rcases List.mem_cons.1 hx with rfl | hx2
  ·refine ⟨by omega, fun y hy p hp hpl => ?_⟩
   rcases List.mem_cons.1 hy with rfl | hy2
   ·omega
   ·have := (ih y hy2).1
    omega
  ·refine ⟨by have := (ih x hx2).1; omega, fun y hy p hp hpl => ?_⟩
   rcases List.mem_cons.1 hy with rfl | hy2
   ·have := (ih x hx2).1
    omega
   ·exact (ih x hx2).2 y hy2 p hp hpl
theorem PlanOk.lane {T S F : List Nat} {W n : Nat} {l : List Ln} (h : PlanOk T S F W n l) (hSl : S.length = W) {x : Ln} (hx : x ∈ l) : x.2.1 + x.2.2 ≤ 64 * W ∧ bitAt S x.2.1 = true ∧ ∀ p, 0 < p → p < x.2.2 → bitAt S (x.2.1 + p) = false := by
 have lf := LnFacts.of h.ok
 have hall := lf.all x hx
 have hok : lnOk 0 0 false l = true := by
  have := h.ok
  unfold qal at this
  simp only [Bool.and_eq_true] at this
  exact this.1.2
 have h64 := lf.e64
 refine ⟨by omega, ?_, fun p hp hpl => ?_⟩
 ·have : x.2.1 ∈ onesN S := by rw [← h.starts]; exact List.mem_map.2 ⟨x, hx, rfl⟩
  exact (qao.1 this).2
 ·rw [← Bool.not_eq_true]
  intro hb
  have : x.2.1 + p ∈ onesN S := qao.2 ⟨by rw [hSl]; omega, hb⟩
  rw [← h.starts] at this
  obtain ⟨y, hy, he⟩ := List.mem_map.1 this
  exact (qi2 hok x hx).2 y hy p hp hpl he
theorem qi3 {T S F : List Nat} {W n : Nat} {l : List Ln} (h : PlanOk T S F W n l) (hT64 : ∀ x ∈ T, x < 18446744073709551616) {B X : List Nat} (hB : ∀ b ∈ B, b < 256) (hne : B ≠ []) (hX : ∀ x ∈ X, x < 18446744073709551616) {i : Nat} (hi : lnEnd 0 l ≤ i) (hiW : i < 64 * W) : bitAt (qan T S W B X) i = false := by
 obtain ⟨A, b, rfl⟩ : ∃ A b, B = A ++ [b] := ⟨B.dropLast, B.getLast hne, (List.dropLast_concat_getLast hne).symm⟩
 rw [qf5, qob (qdk hT64 _ _ hX) hT64 hiW]
 have : bitAt (qaf T W b) i = false := by
  rw [← Bool.not_eq_true]
  intro hb
  have := h.tab b i (hB b (by simp)) hiW hb
  omega
 rw [this, Bool.and_false]
theorem qli {T S F : List Nat} {W n : Nat} {l : List Ln} (h : PlanOk T S F W n l) (hSl : S.length = W) (hT64 : ∀ x ∈ T, x < 18446744073709551616) {B X Y : List Nat} (hB : ∀ b ∈ B, b < 256) (hX : ∀ x ∈ X, x < 18446744073709551616) (hY : ∀ x ∈ Y, x < 18446744073709551616) (hXl : X.length = W) (hYl : Y.length = W)
  (hm : ∀ x ∈ l, x.2.2 ≤ B.length) : qan T S W B X = qan T S W B Y := by
 have lf := LnFacts.of h.ok
 have hok : lnOk 0 0 false l = true := by
  have := h.ok
  unfold qal at this
  simp only [Bool.and_eq_true] at this
  exact this.1.2
 have hne : B ≠ [] := by
  intro e
  subst e
  obtain ⟨x, hx⟩ := List.exists_mem_of_ne_nil _ lf.ne
  have := hm x hx
  have := (lf.all x hx).2.1
  simp at *
  omega
 refine qk3 (by rw [qbf _ _ _ _ _ hXl, qbf _ _ _ _ _ hYl]) (qdk hT64 _ _ hX) (qdk hT64 _ _ hY) fun i hi => ?_
 rw [qbf _ _ _ _ _ hXl] at hi
 by_cases hs : i < lnEnd 0 l
 ·obtain ⟨x, hx, h1, h2⟩ := qkn hok i (Nat.zero_le _) hs
  obtain ⟨g1, g2, g3⟩ := h.lane hSl hx
  obtain ⟨p, rfl⟩ : ∃ p, i = x.2.1 + p := ⟨i - x.2.1, by omega⟩
  have hp : p < x.2.2 := by omega
  have a := qfs hT64 g1 g2 g3 X hX B.reverse p hp
  have b := qfs hT64 g1 g2 g3 Y hY B.reverse p hp
  have hl := hm x hx
  rw [List.reverse_reverse, if_pos (by rw [List.length_reverse]; omega)] at a b
  rw [a, b]
 ·rw [qi3 h hT64 hB hne hX (by omega) hi, qi3 h hT64 hB hne hY (by omega) hi]
end
end Go.Proofs.YtlgjaefcfnndhaaGreatDoor
