/-
 Sets of bytes: Has and Add of the specification in general.
-/
import Derived.Test.YtlgjaefcfnndhaaGreatDoorM16
import Derived.Test.YtlgjaefcfnndhaaGreatDoorM11
import Derived.Test.YtlgjaefcfnndhaaGreatDoorM13
import Derived.Laws.Bits64b
import Derived.Test.YtlgjaefcfnndhaaGreatDoorM43
set_option linter.unusedVariables false
set_option linter.unusedSimpArgs false
set_option maxHeartbeats 16000000
set_option maxRecDepth 100000
namespace Go.Proofs.YtlgjaefcfnndhaaGreatDoor
section
open Go.RowKit
abbrev Q4 := Nat × Nat × Nat × Nat
def q4W (a : Q4) (j : Nat) : Nat := if j = 0 then a.1 else if j = 1 then a.2.1 else if j = 2 then a.2.2.1 else a.2.2.2
def hasN (a : Q4) (b : Nat) : Bool := (q4W a (b / 64)).testBit (b % 64)
def addN (a : Q4) (b : Nat) : Q4 := if b / 64 = 0 then (a.1 ||| 2 ^ (b % 64), a.2) else if b / 64 = 1 then (a.1, a.2.1 ||| 2 ^ (b % 64), a.2.2) else if b / 64 = 2 then (a.1, a.2.1, a.2.2.1 ||| 2 ^ (b % 64), a.2.2.2) else (a.1, a.2.1, a.2.2.1, a.2.2.2 ||| 2 ^ (b % 64))
def q4V (a : Q4) : Value := .agg #[.int .u64 (a.1 : Int), .int .u64 (a.2.1 : Int), .int .u64 (a.2.2.1 : Int), .int .u64 (a.2.2.2 : Int)]
structure Q4ok (a : Q4) : Prop where
 a0 : a.1 < 18446744073709551616
 a1 : a.2.1 < 18446744073709551616
 a2 : a.2.2.1 < 18446744073709551616
 a3 : a.2.2.2 < 18446744073709551616
theorem p64 (b : Nat) : 2 ^ (b % 64) < 18446744073709551616 := by
 have : (18446744073709551616 : Nat) = 2 ^ 64 := by decide
 rw [this]
 exact Nat.pow_lt_pow_right (by decide) (Nat.mod_lt _ (by decide))
theorem or64 {x y : Nat} (hx : x < 18446744073709551616) (hy : y < 18446744073709551616) : x ||| y < 18446744073709551616 := by
 have : (18446744073709551616 : Nat) = 2 ^ 64 := by decide
 rw [this] at *
 exact Nat.or_lt_two_pow hx hy
theorem Q4ok.add {a : Q4} (h : Q4ok a) (b : Nat) : Q4ok (addN a b) := by
 have hp := p64 b
 unfold addN
 split
 ·exact ⟨or64 h.a0 hp, h.a1, h.a2, h.a3⟩
 ·split
  ·exact ⟨h.a0, or64 h.a1 hp, h.a2, h.a3⟩
  ·split
   ·exact ⟨h.a0, h.a1, or64 h.a2 hp, h.a3⟩
   ·exact ⟨h.a0, h.a1, h.a2, or64 h.a3 hp⟩
theorem qw1 (a : Q4) {b c : Nat} (hb : b < 256) (hc : c < 256) : hasN (addN a b) c = (hasN a c || decide (c = b)) := by
 have hd : c = b ↔ c / 64 = b / 64 ∧ b % 64 = c % 64 := by omega
 have q : c / 64 = 0 ∨ c / 64 = 1 ∨ c / 64 = 2 ∨ c / 64 = 3 := by omega
 have q2 : b / 64 = 0 ∨ b / 64 = 1 ∨ b / 64 = 2 ∨ b / 64 = 3 := by omega
 simp only [hasN, addN, q4W, hd]
 rcases q with e | e | e | e <;> rcases q2 with e2 | e2 | e2 | e2 <;> simp [e, e2, Nat.testBit_or, Nat.testBit_two_pow]
theorem qil {x : Nat} (hx : x < 18446744073709551616) (b : Nat) : adF (x : Int) b = ((x ||| 2 ^ (b % 64) : Nat) : Int) := by
 unfold adF
 have hpc : ((2 : Int) ^ (b % 64)) = ((2 ^ (b % 64) : Nat) : Int) := by push_cast; rfl
 have hp := p64 b
 have hw : IntKind.u64.wrap ((2 : Int) ^ (b % 64)) = ((2 ^ (b % 64) : Nat) : Int) := by
  rw [IntKind.wrap_u64, hpc]
  exact Int.emod_eq_of_lt (Int.natCast_nonneg _) (Int.ofNat_lt.2 hp)
 rw [hw]
 exact bits_or_u64_nat _ _ hx hp
theorem r_add {a : Q4} (h : Q4ok a) (b : Nat) (hb : b < 256) (w : World) : Calls Tryz.prog 65 #[q4V a, .int .u8 (b : Int)] w (RetV w (q4V (addN a b))) := by
 have q : b / 64 = 0 ∨ b / 64 = 1 ∨ b / 64 = 2 ∨ b / 64 = 3 := by omega
 unfold addN q4V
 rcases q with e | e | e | e
 ·rw [if_pos e]; simp only []; rw [← qil h.a0 b]; exact qpx _ _ _ _ b (by omega) (by omega) w
 ·rw [if_neg (by omega), if_pos e]; simp only []; rw [← qil h.a1 b]; exact qpy _ _ _ _ b (by omega) (by omega) w
 ·rw [if_neg (by omega), if_neg (by omega), if_pos e]; simp only []; rw [← qil h.a2 b]; exact qpz _ _ _ _ b (by omega) (by omega) w
 ·rw [if_neg (by omega), if_neg (by omega), if_neg (by omega)]; simp only []; rw [← qil h.a3 b]; exact qp0 _ _ _ _ b (by omega) (by omega) w
theorem qw2 (a : Q4) (b : Nat) (hb : b < 256) : hasB (a.1 : Int) (a.2.1 : Int) (a.2.2.1 : Int) (a.2.2.2 : Int) b = hasN a b := by
 have key : ∀ x : Nat, ((((x : Int) / 2 ^ (b % 64)).tmod 2 == 1) : Bool) = x.testBit (b % 64) := by
  intro x
  have e1 : ((2 : Int) ^ (b % 64)) = ((2 ^ (b % 64) : Nat) : Int) := by push_cast; rfl
  rw [e1, ← Int.natCast_ediv, Int.tmod_eq_emod_of_nonneg (Int.natCast_nonneg _), Nat.testBit_eq_decide_div_mod_eq]
  have e2 : (((x / 2 ^ (b % 64) : Nat) : Int) % 2) = ((x / 2 ^ (b % 64) % 2 : Nat) : Int) := by push_cast; rfl
  rw [e2, Bool.eq_iff_iff]
  simp only [beq_iff_eq, decide_eq_true_eq]
  omega
 have q : b / 64 = 0 ∨ b / 64 = 1 ∨ b / 64 = 2 ∨ b / 64 = 3 := by omega
 unfold hasB hasN q4W
 rcases q with e | e | e | e
 ·rw [if_pos (by omega), if_pos e]; exact key _
 ·rw [if_neg (by omega), if_pos (by omega), if_neg (by omega), if_pos e]; exact key _
 ·rw [if_neg (by omega), if_neg (by omega), if_pos (by omega), if_neg (by omega), if_neg (by omega), if_pos e]; exact key _
 ·rw [if_neg (by omega), if_neg (by omega), if_neg (by omega), if_neg (by omega), if_neg (by omega), if_neg (by omega)]; exact key _
theorem r_has (a : Q4) (b : Nat) (hb : b < 256) (w : World) : Calls Tryz.prog 35 #[q4V a, .int .u8 (b : Int)] w (RetV w (.bool (hasN a b))) := by
 rw [← qw2 a b hb]
 exact qde _ _ _ _ b hb w
end
section
open Go.RowKit Go.Conc Go.Pip
theorem Tryz.infoC4 : (Tryz.prog.info? 73).map (fun i => (i.zero, i.size, i.bytes)) = some (some (q4V (0, 0, 0, 0)), 4, 32) := by kernel_rfl
structure ClsAt (W : World) (g n : Nat) (L : Nat → Q4) : Prop where
 lt : g < W.heap.size
 c : ∀ q, q < n → W.cell? ⟨g, q * 4, none⟩ = some (.int .u64 (((L q).1 : Nat) : Int)) ∧ W.cell? ⟨g, q * 4 + 1, none⟩ = some (.int .u64 (((L q).2.1 : Nat) : Int)) ∧ W.cell? ⟨g, q * 4 + 2, none⟩ = some (.int .u64 (((L q).2.2.1 : Nat) : Int)) ∧ W.cell? ⟨g, q * 4 + 3, none⟩ = some (.int .u64 (((L q).2.2.2 : Nat) : Int))
theorem ClsAt.go {V V' : World} {g n : Nat} {L : Nat → Q4} (h : ClsAt V g n L) (k : Lies V V') : ClsAt V' g n L := by
 have key : ∀ (j : Nat) (u : Value), V.cell? ⟨g, j, none⟩ = some u → V'.cell? ⟨g, j, none⟩ = some u := fun j u hu => by
  rw [World.cell?_of_block (k.block g h.lt)]; exact hu
 exact ⟨Nat.lt_of_lt_of_le h.lt k.size, fun q hq => by
  obtain ⟨c0, c1, c2, c3⟩ := h.c q hq
  exact ⟨key _ _ c0, key _ _ c1, key _ _ c2, key _ _ c3⟩⟩
theorem qha (cur : Array Value) (a b c d : Value) (i k : Nat) (h : k < i ∨ i + 4 ≤ k) : ((((cur.setIfInBounds i a).setIfInBounds (i + 1) b).setIfInBounds (i + 2) c).setIfInBounds (i + 3) d)[k]? = cur[k]? := by
 rw [Array.getElem?_setIfInBounds_ne (by omega), Array.getElem?_setIfInBounds_ne (by omega), Array.getElem?_setIfInBounds_ne (by omega), Array.getElem?_setIfInBounds_ne (by omega)]
structure CSt (w3 : World) (g n : Nat) (P : Nat → Nat → Bool) (wr : World) : Prop where
 o : Off Nob w3 wr
 gl : w3.heap.size ≤ g
 x : ∃ (cur : Array Value) (L : Nat → Q4), Blk wr g 73 cur ∧ n * 4 ≤ cur.size ∧ ∀ q, q < n → cur[q * 4]? = some (.int .u64 ((L q).1 : Int)) ∧ cur[q * 4 + 1]? = some (.int .u64 ((L q).2.1 : Int)) ∧ cur[q * 4 + 2]? = some (.int .u64 ((L q).2.2.1 : Int)) ∧ cur[q * 4 + 3]? = some (.int .u64 ((L q).2.2.2 : Int)) ∧ Q4ok (L q) ∧ ∀ c, c < 256 → hasN (L q) c = P q c
theorem qu1 (n j : Nat) (hj : j < n * 4) : (madeCells (q4V (0, 0, 0, 0)).cells (n * 4)).toList[j]? = some (.int .u64 0) := by
 have e : (q4V (0, 0, 0, 0)).cells = #[.int .u64 0, .int .u64 0, .int .u64 0, .int .u64 0] := rfl
 rw [e]
 have h4 : j % 4 = 0 ∨ j % 4 = 1 ∨ j % 4 = 2 ∨ j % 4 = 3 := by omega
 simp [madeCells, hj]
 rcases h4 with h | h | h | h <;> simp [h]
section
variable {w3 wr W' : World} {g n : Nat} {P P' : Nat → Nat → Bool}
theorem CSt.lt (h : CSt w3 g n P wr) : g < wr.heap.size := by
 obtain ⟨_, _, h1, _⟩ := h.x
 exact h1.lt
theorem CSt.go (h : CSt w3 g n P wr) (k : Off Nob wr W') : CSt w3 g n P W' :=
 ⟨h.o.also k, h.gl, by
  obtain ⟨cur, L, h1, h2, h3⟩ := h.x
  exact ⟨cur, L, h1.to (k.block _ h1.lt id), h2, h3⟩⟩
theorem CSt.to (h : CSt w3 g n P wr) (hp : ∀ q c, q < n → c < 256 → P q c = P' q c) : CSt w3 g n P' wr :=
 ⟨h.o, h.gl, by
  obtain ⟨cur, L, h1, h2, h3⟩ := h.x
  exact ⟨cur, L, h1, h2, fun q hq => by
   obtain ⟨c0, c1, c2, c3, c4, c5⟩ := h3 q hq
   exact ⟨c0, c1, c2, c3, c4, fun c hc => (c5 c hc).trans (hp q c hq hc)⟩⟩⟩
theorem CSt.one (h : CSt w3 g n P wr) {q b : Nat} (hq : q < n) (hb : b < 256) : ∃ a : Q4, Q4ok a ∧ (wr.cell? ⟨g, q * 4, none⟩ = some (.int .u64 ((a.1 : Nat) : Int)) ∧ wr.cell? ⟨g, q * 4 + 1, none⟩ = some (.int .u64 ((a.2.1 : Nat) : Int)) ∧ wr.cell? ⟨g, q * 4 + 2, none⟩ = some (.int .u64 ((a.2.2.1 : Nat) : Int)) ∧ wr.cell? ⟨g, q * 4 + 3, none⟩ = some (.int .u64 ((a.2.2.2 : Nat) : Int))) ∧ (wr.frozen? ⟨g, q * 4, none⟩ = false ∧ wr.frozen? ⟨g, q * 4 + 1, none⟩ = false ∧ wr.frozen? ⟨g, q * 4 + 2, none⟩ = false ∧ wr.frozen? ⟨g, q * 4 + 3, none⟩ = false) ∧
  CSt w3 g n (fun x c => P x c || (decide (x = q) && decide (c = b))) ((((wr.setCell ⟨g, q * 4, none⟩ (.int .u64 ((addN a b).1 : Int))).setCell ⟨g, q * 4 + 1, none⟩ (.int .u64 ((addN a b).2.1 : Int))).setCell ⟨g, q * 4 + 2, none⟩ (.int .u64 ((addN a b).2.2.1 : Int))).setCell ⟨g, q * 4 + 3, none⟩ (.int .u64 ((addN a b).2.2.2 : Int))) := by
 obtain ⟨cur, L, h1, h2, h3⟩ := h.x
 obtain ⟨c0, c1, c2, c3, c4, c5⟩ := h3 q hq
 have gl := h.gl
 refine ⟨L q, c4, ⟨(h1.cell (q * 4)).trans c0, (h1.cell (q * 4 + 1)).trans c1, (h1.cell (q * 4 + 2)).trans c2, (h1.cell (q * 4 + 3)).trans c3⟩, ⟨h1.frozen _, h1.frozen _, h1.frozen _, h1.frozen _⟩, ?_⟩
 refine ⟨(((h.o.put (.inr gl) _).put (.inr gl) _).put (.inr gl) _).put (.inr gl) _, gl, _, fun x => if x = q then addN (L q) b else L x, (((h1.put (q * 4) _).put (q * 4 + 1) _).put (q * 4 + 2) _).put (q * 4 + 3) _, by simpa using h2, fun x hx => ?_⟩
 by_cases e : x = q
 ·subst e
  simp only [if_true]
  refine ⟨?_, ?_, ?_, ?_, c4.add b, fun c hc => ?_⟩
  ·simp [Array.getElem?_setIfInBounds]; omega
  ·simp [Array.getElem?_setIfInBounds]; omega
  ·simp [Array.getElem?_setIfInBounds]; omega
  ·simp [Array.getElem?_setIfInBounds]; omega
  ·rw [qw1 _ hb hc, c5 c hc]; simp
 ·simp only [if_neg e]
  obtain ⟨d0, d1, d2, d3, d4, d5⟩ := h3 x hx
  have n0 : ∀ j : Nat, j < 4 → x * 4 + j < q * 4 ∨ q * 4 + 4 ≤ x * 4 + j := fun j hj => by omega
  refine ⟨(qha _ _ _ _ _ _ _ (n0 0 (by omega))).trans d0, (qha _ _ _ _ _ _ _ (n0 1 (by omega))).trans d1, (qha _ _ _ _ _ _ _ (n0 2 (by omega))).trans d2, (qha _ _ _ _ _ _ _ (n0 3 (by omega))).trans d3, d4, fun c hc => ?_⟩
  ·rw [d5 c hc]; simp [e]
theorem CSt.at_ (h : CSt w3 g n P wr) : ∃ L, ClsAt wr g n L ∧ ∀ q, q < n → ∀ c, c < 256 → hasN (L q) c = P q c := by
 obtain ⟨cur, L, h1, h2, h3⟩ := h.x
 refine ⟨L, ⟨h1.lt, fun q hq => ?_⟩, fun q hq c hc => (h3 q hq).2.2.2.2.2 c hc⟩
 obtain ⟨c0, c1, c2, c3, c4, c5⟩ := h3 q hq
 exact ⟨(h1.cell (q * 4)).trans c0, (h1.cell (q * 4 + 1)).trans c1, (h1.cell (q * 4 + 2)).trans c2, (h1.cell (q * 4 + 3)).trans c3⟩
theorem CSt.start {w : World} {n : Nat} (g : Nat) (oW : wr.ownsRow w.heap.size 73 4 (.slice (some ⟨g, 0, none⟩) n n) n (madeCells (q4V (0, 0, 0, 0)).cells (n * 4)).toList) (ho : Off Nob w wr) : CSt w g n (fun _ _ => false) wr := by
 rcases oW.2 with ⟨h0, h1⟩ | ⟨g2, cap, cur, he, hb, hg, hcap, _, hsz, htake⟩
 ·cases h0
 ·injection he with he1 he2 he3
  injection he1 with he1
  injection he1 with he1
  subst he1
  refine ⟨ho, hb, cur, fun _ => (0, 0, 0, 0), hg, by omega, fun q hq => ?_⟩
  have key : ∀ j, j < 4 → cur[q * 4 + j]? = some (.int .u64 0) := fun j hj => by
   have e : cur[q * 4 + j]? = (cur.toList.take (n * 4))[q * 4 + j]? := by rw [List.getElem?_take, if_pos (by omega), Array.getElem?_toList]
   rw [e, htake]
   exact qu1 n (q * 4 + j) (by omega)
  exact ⟨key 0 (by omega), key 1 (by omega), key 2 (by omega), key 3 (by omega), ⟨(by decide : (0 : Nat) < 18446744073709551616), (by decide : (0 : Nat) < 18446744073709551616), (by decide : (0 : Nat) < 18446744073709551616), (by decide : (0 : Nat) < 18446744073709551616)⟩, fun c hc => by simp [hasN, q4W]⟩
end
def ClsR (w : World) (n : Nat) (T : List Nat) (W : Nat) (e : Ending) (w' : World) : Prop := ∃ g L, e = .returned (.tuple #[.slice (some ⟨g, 0, none⟩) n n, .int .i64 0]) ∧ w.heap.size ≤ g ∧ ClsAt w' g n L ∧ (∀ q, q < n → ∀ b, b < 256 → hasN (L q) b = bitAt (qaf T W b) q) ∧ Off Nob w w'
theorem qyl {w w' : World} {g q : Nat} {a a' : Q4} (h' : w'.cell? ⟨g, q * 4, none⟩ = some (.int .u64 ((a'.1 : Nat) : Int)) ∧ w'.cell? ⟨g, q * 4 + 1, none⟩ = some (.int .u64 ((a'.2.1 : Nat) : Int)) ∧ w'.cell? ⟨g, q * 4 + 2, none⟩ = some (.int .u64 ((a'.2.2.1 : Nat) : Int)) ∧ w'.cell? ⟨g, q * 4 + 3, none⟩ = some (.int .u64 ((a'.2.2.2 : Nat) : Int))) (h : w.cell? ⟨g, q * 4, none⟩ = some (.int .u64 ((a.1 : Nat) : Int)) ∧ w.cell? ⟨g, q * 4 + 1, none⟩ = some (.int .u64 ((a.2.1 : Nat) : Int)) ∧ w.cell? ⟨g, q * 4 + 2, none⟩ = some (.int .u64 ((a.2.2.1 : Nat) : Int)) ∧ w.cell? ⟨g, q * 4 + 3, none⟩ = some (.int .u64 ((a.2.2.2 : Nat) : Int))) (hk : ∀ j, w'.cell? ⟨g, j, none⟩ = w.cell? ⟨g, j, none⟩) : a' = a := by
 rw [hk, hk, hk, hk] at h'
 obtain ⟨x0, x1, x2, x3⟩ := h'
 obtain ⟨y0, y1, y2, y3⟩ := h
 rw [y0] at x0
 rw [y1] at x1
 rw [y2] at x2
 rw [y3] at x3
 obtain ⟨p0, p1, p2, p3⟩ := a
 obtain ⟨q0, q1, q2, q3⟩ := a'
 simp only [Option.some.injEq, Value.int.injEq, true_and] at x0 x1 x2 x3
 simp only [Prod.mk.injEq]
 omega
theorem qu2 {O : List Nat} {i q : Nat} (hq : O[i]? = some q) {T : List Nat} {W : Nat} (x c b : Nat) : ((decide (c < b) && bitAt (qaf T W c) x || (decide (c = b) && decide (x ∈ O.take i))) || (decide (x = q) && decide (c = b))) = (decide (c < b) && bitAt (qaf T W c) x || (decide (c = b) && decide (x ∈ O.take (i + 1)))) := by
 have e : (x ∈ O.take (i + 1)) ↔ (x ∈ O.take i ∨ x = q) := by rw [List.take_add_one, hq]; simp
 simp only [e]
 by_cases h1 : c = b <;> by_cases h2 : x = q <;> by_cases h3 : x ∈ O.take i <;> simp [h1, h2, h3]
theorem qw3 {O : List Nat} {T : List Nat} {W b x : Nat} (h : x ∈ O ↔ bitAt (qaf T W b) x = true) (c : Nat) : (decide (c < b) && bitAt (qaf T W c) x || (decide (c = b) && decide (x ∈ O))) = (decide (c < b + 1) && bitAt (qaf T W c) x) := by
 by_cases h1 : c = b
 ·subst h1
  simp only [h]
  simp
 ·have e : (c < b + 1) ↔ c < b := by omega
  simp only [e]
  simp [h1]
theorem qu3 (ids : List Int) (W : Nat) (T S F : List Nat) (hok : qag ids (W : Int) T S F = 0) (l : List Ln) (hl : planR F S T W ids.length = some l) (w : World) (VI VT VS VF : Value) (hs : SetV w VI VT VS VF ids (W : Int) T S F) :
  Calls Tryz.prog 33 #[.agg #[VI, .int .i64 (W : Int), VT, VS, VF]] w (ClsR w (lnEnd 0 l) T W) := by
 obtain ⟨_, _, _, ⟨Wx, hWx, w1, w4, hTl, hSl, hFl, _⟩, _⟩ := qcd hok
 obtain rfl : W = Wx := by omega
 have hp := PlanOk.of hl
 have lf := LnFacts.of hp.ok
 obtain ⟨i_c, h_c, z_c, s_c, b_c⟩ := info_parts Tryz.infoC4
 obtain ⟨AI, ci, rfl, _⟩ := hs.i.form
 obtain ⟨AT, ct, rfl, _⟩ := hs.t.form
 obtain ⟨AS, cs, rfl, _⟩ := hs.s.form
 obtain ⟨AF, cf, rfl, _⟩ := hs.f.form
 have X0 : Hid (Off Nob w (w.alloc (.cells #[.slice AI ids.length ci, .int .i64 (W : Int), .slice AT T.length ct, .slice AS S.length cs, .slice AF F.length cf] 25))) := hID (oRf.alloc _)
 have B0 : Hid (Blk (w.alloc (.cells #[.slice AI ids.length ci, .int .i64 (W : Int), .slice AT T.length ct, .slice AS S.length cs, .slice AF F.length cf] 25)) w.heap.size 25 #[.slice AI ids.length ci, .int .i64 (W : Int), .slice AT T.length ct, .slice AS S.length cs, .slice AF F.length cf]) := hID (Blk.new _ _ _)
 have HPL := hID (fun (V : World) (oV : Off Nob w V) => qkg ids W T S F V _ _ _ _ (hs.keep oV))
 have HROW := hID (fun (V : World) (oV : Off Nob w V) (b : Nat) (hb : b < 256) => r_row (.slice AI ids.length ci) (.slice AS S.length cs) (.slice AF F.length cf) W (by omega) T hTl b hb V _ (hs.t.keepT oV))
 have HONE := hID (fun (V : World) (b : Nat) (u : Value) (h : Rd V (fun _ => True) 1 u (qaf T W b).length (qab (qaf T W b))) => qkc (qaf T W b) (quj hs.t64 W b) (by rw [qbe]; exact w1) (by rw [qbe]; omega) V u h)
 have HOK := hID hok
 have HLL := hID hl
 have HPO := hID hp
 have HSP := hID (fun (V : World) (v : Value) (h : Rd V (fun _ => True) 3 v l.length (lnV l)) => qqc W w1 (by omega) l (Nat.le_trans lf.len (by decide)) hp.ok V v h)
 obtain ⟨n, hn⟩ : ∃ n, lnEnd 0 l = n := ⟨_, rfl⟩
 have HN := hID hn
 have hn256 : n ≤ 256 := by rw [← hn]; exact lf.e256
 have HW := hID (And.intro w1 w4)
 rw [hn] at HSP ⊢
 clear hp lf hok hl hs hn w1 w4 hTl hSl hFl hWx
 obtain ⟨wa, hwa⟩ : ∃ wa, (w.alloc (.cells #[.slice AI ids.length ci, .int .i64 (W : Int), .slice AT T.length ct, .slice AS S.length cs, .slice AF F.length cf] 25)) = wa := ⟨_, rfl⟩
 obtain ⟨sB, hsB⟩ : ∃ sB, w.heap.size = sB := ⟨_, rfl⟩
 rw [hwa] at X0 B0
 rw [hsB] at B0
 have HSB : Hid (∀ V, Off Nob wa V → Blk V sB 25 #[.slice AI ids.length ci, .int .i64 (W : Int), .slice AT T.length ct, .slice AS S.length cs, .slice AF F.length cf]) := hID (fun V oV => B0.out.to (oV.block _ B0.out.lt id))
 have HWA := hID hwa
 have HSZ := hID hsB
 clear hwa hsB
 go_enter Tryz.func33, Tryz.ntmps33
 have c0 := B0.out.cell 0
 have c1 := B0.out.cell 1
 have c2 := B0.out.cell 2
 have c3 := B0.out.cell 3
 have c4 := B0.out.cell 4
 go_wp2_with fail
 rw [HSZ.out, HWA.out]
 refine (HPL.out _ X0.out).mono ?_
 rintro e w1 ⟨x, A, kk, cc, rfl, hpl, o1⟩
 obtain ⟨rfl, l2, hl2, hrd⟩ := hpl HOK.out
 rw [Int.toNat_natCast, HLL.out] at hl2
 obtain rfl := Option.some.inj hl2
 obtain ⟨A', c', he, hm, _⟩ := hrd.form
 obtain ⟨rfl, rfl, rfl⟩ : A = A' ∧ kk = l.length ∧ cc = c' := by injection he with e1 e2 e3; exact ⟨e1, e2, e3⟩
 clear he hm hpl hl2
 rw [HOK.out]
 obtain ⟨w2, hw2⟩ : ∃ w2, w1.alloc (.cells #[.int .i64 (W : Int), .slice A l.length cc] 62) = w2 := ⟨_, rfl⟩
 obtain ⟨pB, hpB⟩ : ∃ pB, w1.heap.size = pB := ⟨_, rfl⟩
 have X2 : Hid (Off Nob wa w2) := hID (by rw [← hw2]; exact (Off.alloc o1 _))
 have BP : Hid (Blk w2 pB 62 #[.int .i64 (W : Int), .slice A l.length cc]) := hID (by rw [← hw2, ← hpB]; exact Blk.new _ _ _)
 have HRD : Hid (Rd w2 (fun _ => True) 3 (.slice A l.length cc) l.length (lnV l)) := hID (by rw [← hw2]; exact hrd.any.keep (Off.alloc oRf _) (fun _ _ h => h))
 have z0 := BP.out.cell 0
 have z1 := BP.out.cell 1
 have HW2 := hID (And.intro hw2 hpB)
 clear hrd o1 c0 c1 c2 c3 c4 hw2 hpB
 go_wp2_with fail
 rw [HW2.out.1, HW2.out.2]
 refine (HSP.out w2 _ HRD.out).mono ?_
 rintro e w3 ⟨rfl, o1⟩
 have X3 := hID (X2.out.also o1)
 clear o1 z0 z1 BP HRD HSP HPL HW2 X2
 go_wp2_with (at_make; refine wpList_make_full _ rfl _ _ 65 rfl w3.heap.size 73 i_c (q4V (0, 0, 0, 0)) 4 Tryz.underlying65 h_c z_c s_c .i64 .i64 _ _ n rfl rfl rfl rfl (by rw [b_c]; omega) (by unfold maxLen; omega) (Nat.le_refl _) ?_; intro w4 oW gW)
 have C0 := hID (CSt.start w3.heap.size oW (Off.grown (Off.refl Nob w3) gW (fun k hk => by cases hk)))
 obtain ⟨g, hg⟩ : ∃ g, w3.heap.size = g := ⟨_, rfl⟩
 rw [hg] at C0 ⊢
 have HG3 := hID hg
 clear oW gW hg
 go_loopw [9] (fun p wr => ∃ b : Nat, b ≤ 256 ∧ p = .int .i64 (b : Int) ∧ CSt w3 g n (fun x c => decide (c < b) && bitAt (qaf T W c) x) wr) (fun p _ => 256 - (intOf p).toNat)
 case atStart => exact ⟨0, by decide, rfl, C0.out.to (fun q c _ _ => by simp)⟩
 case round =>
  obtain ⟨b, hb, rfl, hcs⟩ := hrel
  have HC := hID hcs
  clear hcs C0
  by_cases hlt : b < 256
  ·have d1 : decide ((b : Int) < 256) = true := dcT
   have d1n : decide (b < 256) = true := decide_eq_true hlt
   have hwb : IntKind.u8.wrap (b : Int) = b := by rw [IntKind.wrap_u8]; omega
   have o4 := X3.out.also HC.out.o
   have c0 := (HSB.out wr o4).cell 0
   have c1 := (HSB.out wr o4).cell 1
   have c2 := (HSB.out wr o4).cell 2
   have c3 := (HSB.out wr o4).cell 3
   have c4 := (HSB.out wr o4).cell 4
   have HX4 := hID o4
   clear o4
   go_wp2_with fail
   refine (HROW.out wr (X0.out.also HX4.out) b hlt).mono ?_
   rintro e w5 ⟨u, rfl, hu⟩
   have C5 := hID (HC.out.go hu.2)
   have HU := hID (show Rd w5 (fun _ => True) 1 u (qaf T W b).length (qab (qaf T W b)) by rw [qbe]; exact hu.rd)
   clear hu HC c0 c1 c2 c3 c4
   go_wp2_with fail
   refine (HONE.out w5 b u HU.out).mono ?_
   rintro e w6 ⟨v, rfl, hv⟩
   have C6 := hID (C5.out.go hv.2)
   have hgl5 := C5.out.lt
   have HV := hID (Rd.own (F := fun k => k ≠ g) hv.1 (fun k hk => by have := (hv.1.lt k hk).1; omega))
   obtain ⟨Av, cv, rfl, -⟩ := hv.rd.form
   clear hv C5 HU hgl5
   have HM : Hid (∀ q ∈ onesN (qaf T W b), q < n) := hID (fun q hq => by
    obtain ⟨h1, h2⟩ := qao.1 hq
    rw [qbe] at h1
    rw [← HN.out]
    exact HPO.out.tab b q hlt h1 h2)
   have HMM : Hid (∀ q, q < n → (q ∈ onesN (qaf T W b) ↔ bitAt (qaf T W b) q = true)) := hID (fun q hq => by
    rw [qao, qbe]
    have h64 := (LnFacts.of HPO.out.ok).e64
    rw [HN.out] at h64
    exact ⟨fun h => h.2, fun h => ⟨by omega, h⟩⟩)
   obtain ⟨O, hO⟩ : ∃ O, onesN (qaf T W b) = O := ⟨_, rfl⟩
   have HL0 : Hid (O.length ≤ 1024) := hID (by
    rw [← hO]
    have h := qcb (qaf T W b)
    rw [qbe] at h
    have := HW.out
    omega)
   rw [hO] at HV HM HMM ⊢
   clear hO
   have HB256 := hID hlt
   go_wp2_with fail
   go_loopw [12] (fun p wq => ∃ i : Nat, i ≤ O.length ∧ p = .int .i64 (i : Int) ∧ CSt w3 g n (fun x c => decide (c < b) && bitAt (qaf T W c) x || (decide (c = b) && decide (x ∈ O.take i))) wq ∧ Off (fun j => j = g) w6 wq) (fun p _ => O.length - (intOf p).toNat)
   case atStart => exact ⟨0, Nat.zero_le _, rfl, C6.out.to (fun q c _ _ => by simp), Off.refl _ _⟩
   case round =>
    obtain ⟨i, hi, rfl, hcs, hoq⟩ := hrel
    have FE := hID hcs
    have OE := hID hoq
    clear hcs hoq C6
    by_cases hil : i < O.length
    ·have d2 : decide ((i : Int) < (O.length : Int)) = true := dcT
     have d2n : decide (i < O.length) = true := decide_eq_true hil
     obtain ⟨q, hq⟩ : ∃ q, O.getD i 0 = q := ⟨_, rfl⟩
     have HLQ : Hid (O[i]? = some q) := hID (by rw [← hq, List.getD_eq_getElem?_getD, List.getElem?_eq_getElem hil]; rfl)
     have HQN : Hid (q < n) := hID (HM.out q (List.mem_of_getElem? HLQ.out))
     obtain ⟨bl, ol, cl, hee, hcc⟩ := HV.out.cellsT (by omega)
     injection hee with hee1 hee2 hee3
     subst hee1
     clear hee2 hee3 hcc
     have HLC : Hid (∀ V, Off (fun j => j = g) w6 V → V.cell? ⟨bl, ol + i, none⟩ = some (.int .i64 (q : Int))) := hID (fun V o => by
      have h := HV.out.keep o (fun k hk he => hk he)
      obtain ⟨b2, o2, c2, he, hx⟩ := h.cellsT (by omega)
      injection he with he1 he2 he3
      injection he1 with he1
      injection he1 with e1 e2 e3
      subst e1 e2
      rw [← hq]
      exact hx V oRf _ _ (qdd hil))
     have hqn : q < n := HQN.out
     have hi1k : i ≤ 1024 := by have := HL0.out; omega
     have HIL : Hid (i + 1 ≤ O.length) := hID hil
     clear hq
     go_wp2_with fail
     refine wp_region_held_drew (S := fun W => W.cell? ⟨bl, ol + i, none⟩ = some (.int .i64 (q : Int))) (by kernel_rfl) (HLC.out _ (OE.out.also (Off.drew oRf))) (fun hHeld => ?_)
     have FA := hID (FE.out.go (Off.drew (Off.refl Nob wr)))
     have OA := hID (OE.out.also (Off.drew (Off.refl (fun j => j = g) wr)))
     clear FE OE
     revert FA OA hHeld
     generalize wr.drew = va
     intro hHeld FA OA
     obtain ⟨a, hao, ha4, -, -⟩ := FA.out.one HQN.out HB256.out
     have A4 := hID ha4
     have HAO := hID hao
     clear ha4 hao
     refine tkH 0 ?_
     refine tkH 1 ?_
     refine tkH 2 ?_
     refine tkH 3 ?_
     refine tkH 4 ?_
     refine tkH 5 ?_
     refine tkH 6 ?_
     refine tkH 7 ?_
     refine tkH 8 ?_
     refine tkH 9 ?_
     refine tkH 10 ?_
     refine tkH 12 ?_
     refine tkH 13 ?_
     refine wpAnyH_ready (rs := [11]) (by kernel_rfl) (by simp) ?_
     refine AllReadyH.cons rfl (fun K hK => ?s1013) ?m1013
     case s1013 =>
      have a0 := A4.out.1
      have a1 := A4.out.2.1
      have a2 := A4.out.2.2.1
      have a3 := A4.out.2.2.2
      go_simp
      refine hK.out _ _ ?_ (fun hHeld => ?_)
      ·first | with_reducible assumption | go_keep
      clear hK K
      try simp only [Act.put, qL]
      refine wpAnyH_ready (rs := [14]) (by kernel_rfl) (by simp) ?_
      refine AllReadyH.cons rfl (fun K hK => ?s1014) ?m1014
      case s1014 =>
       clear a0 a1 a2 a3
       go_simp
       refine (r_add HAO.out b HB256.out va).mono ?_
       rintro e vb ⟨rfl, o1⟩
       have FB := hID (FA.out.go o1)
       have OB := hID (OA.out.also o1.ofNob)
       obtain ⟨a', hao', ha4, hf4, hnew⟩ := FB.out.one HQN.out HB256.out
       obtain rfl : a' = a := qyl ha4 (A4.out) (fun j => World.cell?_of_block (o1.block _ FA.out.lt id))
       have a0 := ha4.1
       have a1 := ha4.2.1
       have a2 := ha4.2.2.1
       have a3 := ha4.2.2.2
       have f0 := hf4.1
       have f1 := hf4.2.1
       have f2 := hf4.2.2.1
       have f3 := hf4.2.2.2
       have FC := hID hnew
       have OC := hID ((((OB.out.put (p := ⟨g, q * 4, none⟩) (.inl rfl) (.int .u64 ((addN a' b).1 : Int))).put (p := ⟨g, q * 4 + 1, none⟩) (.inl rfl) (.int .u64 ((addN a' b).2.1 : Int))).put (p := ⟨g, q * 4 + 2, none⟩) (.inl rfl) (.int .u64 ((addN a' b).2.2.1 : Int))).put (p := ⟨g, q * 4 + 3, none⟩) (.inl rfl) (.int .u64 ((addN a' b).2.2.2 : Int)))
       have T1 := hID (HLC.out _ OB.out)
       have T2 := hID (HLC.out _ OC.out)
       clear hao' ha4 hf4 hnew
       unfold q4V
       go_simp
       refine hK.out _ _ ?_ (fun hHeld => ?_)
       ·first | exact T1.out | go_keep
       clear hK K
       try simp only [Act.put, qL]
       refine tkH 15 ?_
       refine wpAnyH_ready (rs := [16]) (by kernel_rfl) (by simp) ?_
       refine AllReadyH.cons rfl (fun K hK => ?s1016) ?m1016
       case s1016 =>
        go_simp
        refine hK.out _ _ ?_ (fun hHeld => ?_)
        ·first | exact T2.out | go_keep
        clear hK K
        try simp only [Act.put, qL]
        refine wpAnyH_done (by kernel_rfl) ?_ _
        clear a0 a1 a2 a3 f0 f1 f2 f3 T1 T2 FB FA OA OB hHeld
        go_wp2_with fail
        go_roundw
        case rel => exact ⟨i + 1, HIL.out, by go_num, FC.out.to (fun x c hx hc => qu2 HLQ.out x c b), OC.out⟩
        case measure => have hil := HIL.out; simp [intOf]; omega
       exact AllReadyH.nil
      exact AllReadyH.nil
     exact AllReadyH.nil
    ·obtain rfl : i = O.length := by omega
     have d2 : decide ((O.length : Int) < (O.length : Int)) = false := by simp
     have d2n : decide (O.length < O.length) = false := by simp
     rw [List.take_length] at FE
     go_wp2_with fail
     go_roundw
     case rel => exact ⟨b + 1, hlt, by go_num, FE.out.to (fun x c hx hc => qw3 (HMM.out x hx) c)⟩
     case measure => simp [intOf]; omega
  ·obtain rfl : b = 256 := by omega
   have d1 : decide ((256 : Int) < 256) = false := by decide
   go_wp2_with fail
   obtain ⟨L, hL, hP⟩ := HC.out.at_
   refine bodyPost_ret (v := .tuple #[.slice (some ⟨g, 0, none⟩) n n, .int .i64 0]) (by simp [results, Tryz.f33, go_sem]) rfl ⟨g, L, rfl, ?_, hL, fun q hq c hc => ?_, ?_⟩
   ·have := HG3.out; have := X0.out.size; have := X3.out.size; omega
   ·rw [hP q hq c hc]
    have : decide (c < 256) = true := decide_eq_true hc
    rw [this, Bool.true_and]
   ·exact X0.out.also (X3.out.also HC.out.o)
end
end Go.Proofs.YtlgjaefcfnndhaaGreatDoor
