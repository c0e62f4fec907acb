/-
 Rows of bits, and plans of lanes, in plain Lean: what tables.plan and dragnetref18.plan compute.
-/

set_option linter.unusedVariables false
set_option linter.unusedSimpArgs false
set_option maxHeartbeats 16000000
namespace Go.Proofs.YtlgjaefcfnndhaaGreatDoor
def bitAt (L : List Nat) (i : Nat) : Bool := (L.getD (i / 64) 0).testBit (i % 64)
def onesN (L : List Nat) : List Nat := (List.range (64 * L.length)).filter (bitAt L)
def finL (F : List Nat) (W r : Nat) : List Nat := (F.drop (r * W)).take W
abbrev Ln := Nat × Nat × Nat
def prsR (F : List Nat) (W r : Nat) : List (Nat × Nat) := (onesN (finL F W r)).map (fun p => (p, r))
def prs (F : List Nat) (W : Nat) : Nat → List (Nat × Nat)
 | 0 => []
 | n + 1 => prs F W n ++ prsR F W n
def topOf (l : List (Nat × Nat)) : Nat := l.foldl (fun m x => max m (x.1 + 1)) 0
def ownAt (own : List (Nat × Nat)) (p : Nat) : Option Nat := (own.find? (fun x => x.1 == p)).map Prod.snd
def lnC (top : Nat) : List Nat → List (Nat × Nat) → Option (List Ln × List (Nat × Nat))
 | [], own => some ([], own)
 | f :: rest, own =>
  if rest.headD top ≤ f then none else
  match ownAt own (rest.headD top - 1) with
  | none => none
  | some r => (lnC top rest (own.filter (fun x => x.1 != rest.headD top - 1))).map (fun y => ((r, f, rest.headD top - f) :: y.1, y.2))
def ruleR (F : List Nat) (W n p : Nat) : Nat := ((List.range n).find? (fun r => bitAt (finL F W r) p)).getD n
def lnR (F : List Nat) (W n top : Nat) : List Nat → Option (List Ln)
 | [] => some []
 | f :: rest => if rest.headD top ≤ f then none else (lnR F W n top rest).map ((ruleR F W n (rest.headD top - 1), f, rest.headD top - f) :: ·)
def lnOk : Nat → Nat → Bool → List Ln → Bool
 | _, _, _, [] => true
 | n, rule, b, x :: l => decide (1 ≤ x.2.2) && decide (x.1 < 16) && decide (x.2.1 = n) && (decide (x.1 = rule) || (b && decide (x.1 = rule + 1))) && decide (x.2.2 ≤ 256 - n) && lnOk (n + x.2.2) x.1 true l
def lnEnd : Nat → List Ln → Nat
 | n, [] => n
 | n, x :: l => lnEnd (n + x.2.2) l
def qao (W : Nat) (l : List Ln) : Bool := !l.isEmpty && lnOk 0 0 false l && decide (W = max ((lnEnd 0 l + 63) / 64) 1)
def qa1 (l : List Ln) : Nat := (l.getLastD (0, 0, 0)).1
def tabOk (T : List Nat) (W top : Nat) : Bool := (List.range (64 * W)).all (fun i => decide (i < top) || (List.range 256).all (fun b => !(T.getD (256 * (i / 64) + b) 0).testBit (i % 64)))
def planC (F S T : List Nat) (W n : Nat) : Option (List Ln) :=
 if ((prs F W n).map Prod.fst).Nodup then
  match lnC (topOf (prs F W n)) (onesN S) (prs F W n) with
  | none => none
  | some y => if qao W y.1 && decide (qa1 y.1 + 1 = n) && y.2.isEmpty && tabOk T W (topOf (prs F W n)) then some y.1 else none
 else none
def qcx (L : List Nat) (i : Nat) : List Nat := if bitAt L i then L else L.set (i / 64) (L.getD (i / 64) 0 ^^^ 2 ^ (i % 64))
def ofN (W : Nat) (l : List Nat) : List Nat := l.foldl qcx (List.replicate W 0)
def qaq (l : List Ln) : List Nat := l.map (fun x => x.2.1)
def endsN (r : Nat) (l : List Ln) : List Nat := (l.filter (fun x => decide (x.1 = r))).map (fun x => x.2.1 + x.2.2 - 1)
def qar (T : List Nat) (W b : Nat) : List Nat := (List.range W).map (fun k => T.getD (256 * k + b) 0)
def qf8 (T : List Nat) (W top : Nat) : Bool := (List.range 256).all (fun b => decide ((onesN (qar T W b)).getLastD 0 + (if (onesN (qar T W b)).isEmpty then 0 else 1) ≤ top))
def planR (F S T : List Nat) (W n : Nat) : Option (List Ln) :=
 match lnR F W n (topOf (prs F W n)) (onesN S) with
 | none => none
 | some l => if qao W l && decide (qa1 l + 1 = n) && decide (ofN W (qaq l) = S) && (List.range n).all (fun r => decide (ofN W (endsN r l) = finL F W r)) && qf8 T W (topOf (prs F W n)) then some l else none
theorem qal {L : List Nat} {p : Nat} : p ∈ onesN L ↔ p < 64 * L.length ∧ bitAt L p = true := by
 unfold onesN
 rw [List.mem_filter, List.mem_range]
theorem qc5 (L : List Nat) : (onesN L).Pairwise (· < ·) := List.pairwise_lt_range.filter _
theorem qqm {L L' : List Nat} (hl : L.length = L'.length) (h1 : ∀ x ∈ L, x < 18446744073709551616) (h2 : ∀ x ∈ L', x < 18446744073709551616) (h : ∀ i, i < 64 * L.length → bitAt L i = bitAt L' i) : L = L' := by
 apply List.ext_getElem hl
 intro k hk hk'
 apply Nat.eq_of_testBit_eq
 intro j
 by_cases hj : j < 64
 ·have := h (64 * k + j) (by omega)
  unfold bitAt at this
  rw [show (64 * k + j) / 64 = k from by omega, show (64 * k + j) % 64 = j from by omega] at this
  rw [List.getD_eq_getElem?_getD, List.getD_eq_getElem?_getD, List.getElem?_eq_getElem hk, List.getElem?_eq_getElem hk'] at this
  exact this
 ·have e : (18446744073709551616 : Nat) = 2 ^ 64 := by decide
  have p : 2 ^ 64 ≤ 2 ^ j := Nat.pow_le_pow_right (by decide) (by omega)
  rw [Nat.testBit_lt_two_pow (Nat.lt_of_lt_of_le (e ▸ h1 _ (List.getElem_mem hk)) p), Nat.testBit_lt_two_pow (Nat.lt_of_lt_of_le (e ▸ h2 _ (List.getElem_mem hk')) p)]
theorem qkb (L : List Nat) (i : Nat) : (qcx L i).length = L.length := by
 unfold qcx
 split <;> simp
theorem qun {L : List Nat} (h : ∀ x ∈ L, x < 18446744073709551616) (i : Nat) : ∀ x ∈ qcx L i, x < 18446744073709551616 := by
 unfold qcx
 split
 ·exact h
 ·intro x hx
  rcases List.mem_or_eq_of_mem_set hx with hx | rfl
  ·exact h x hx
  ·have e : (18446744073709551616 : Nat) = 2 ^ 64 := by decide
   have g : L.getD (i / 64) 0 < 2 ^ 64 := by
    rw [List.getD_eq_getElem?_getD]
    cases hg : L[i / 64]? with
    | none => simp
    | some y => exact e ▸ h y (List.mem_of_getElem? hg)
   rw [e]
   exact Nat.xor_lt_two_pow g (Nat.pow_lt_pow_right (by decide) (Nat.mod_lt _ (by decide)))
theorem qnm (L : List Nat) {i : Nat} (hi : i < 64 * L.length) (k : Nat) : bitAt (qcx L i) k = (bitAt L k || decide (k = i)) := by
 unfold qcx
 split
 ·rename_i h
  by_cases e : k = i
  ·subst e
   rw [h]
   rfl
  ·simp [e]
 ·rename_i h
  have hb : i / 64 < L.length := by omega
  unfold bitAt at h ⊢
  rw [List.getD_eq_getElem?_getD, List.getElem?_set]
  by_cases e1 : i / 64 = k / 64
  ·rw [if_pos e1, if_pos hb]
   by_cases e : k = i
   ·subst e
    simp only [Option.getD_some]
    rw [Nat.testBit_xor, Nat.testBit_two_pow]
    simp at h
    simp [h]
   ·simp only [Option.getD_some]
    rw [Nat.testBit_xor, Nat.testBit_two_pow, e1]
    have : ¬ i % 64 = k % 64 := by omega
    simp [this, e]
  ·rw [if_neg e1]
   have : ¬ k = i := fun e => e1 (by rw [e])
   simp [this, List.getD_eq_getElem?_getD]
theorem qw6 (l : List Nat) : ∀ L : List Nat, (l.foldl qcx L).length = L.length := by
 induction l with
 | nil => intro L; rfl
 | cons x l ih => intro L; rw [List.foldl_cons, ih, qkb]
theorem qb4 (W : Nat) (l : List Nat) : (ofN W l).length = W := by
 unfold ofN
 rw [qw6, List.length_replicate]
theorem qza (l : List Nat) : ∀ L : List Nat, (∀ x ∈ L, x < 18446744073709551616) → ∀ x ∈ l.foldl qcx L, x < 18446744073709551616 := by
 induction l with
 | nil => intro L h; exact h
 | cons y l ih => intro L h; exact ih _ (qun h y)
theorem qf9 (W : Nat) (l : List Nat) : ∀ x ∈ ofN W l, x < 18446744073709551616 := qza l _ (fun x hx => by rw [List.eq_of_mem_replicate hx]; decide)
theorem qw7 (l : List Nat) : ∀ L : List Nat, (∀ i ∈ l, i < 64 * L.length) → ∀ k, bitAt (l.foldl qcx L) k = (bitAt L k || decide (k ∈ l)) := by
 induction l with
 | nil => intro L _ k; simp
 | cons y l ih =>
  intro L h k
  rw [List.foldl_cons, ih _ (fun i hi => by rw [qkb]; exact h i (List.mem_cons_of_mem _ hi)), qnm L (h y List.mem_cons_self)]
  simp only [List.mem_cons, Bool.decide_or, Bool.or_assoc]
theorem qdf {W : Nat} {l : List Nat} (h : ∀ i ∈ l, i < 64 * W) (k : Nat) : bitAt (ofN W l) k = decide (k ∈ l) := by
 unfold ofN
 rw [qw7 l _ (fun i hi => by rw [List.length_replicate]; exact h i hi)]
 have : bitAt (List.replicate W 0) k = false := by
  unfold bitAt
  rw [List.getD_eq_getElem?_getD, List.getElem?_replicate]
  split <;> simp
 rw [this, Bool.false_or]
theorem qnn {F : List Nat} {W r p s : Nat} : (p, s) ∈ prsR F W r ↔ s = r ∧ p ∈ onesN (finL F W r) := by
 unfold prsR
 simp only [List.mem_map, Prod.mk.injEq]
 constructor
 ·rintro ⟨q, hq, rfl, rfl⟩
  exact ⟨rfl, hq⟩
 ·rintro ⟨rfl, hp⟩
  exact ⟨p, hp, rfl, rfl⟩
theorem qcn {F : List Nat} {W p s : Nat} : ∀ {n : Nat}, (p, s) ∈ prs F W n ↔ s < n ∧ p ∈ onesN (finL F W s)
 | 0 => by simp [prs]
 | n + 1 => by
  rw [prs, List.mem_append, qcn, qnn]
  constructor
  ·rintro (⟨h1, h2⟩ | ⟨rfl, h2⟩)
   ·exact ⟨by omega, h2⟩
   ·exact ⟨by omega, h2⟩
  ·rintro ⟨h1, h2⟩
   by_cases e : s = n
   ·subst e
    exact .inr ⟨rfl, h2⟩
   ·exact .inl ⟨by omega, h2⟩
theorem qc6 {F : List Nat} {W r n : Nat} (hF : F.length = n * W) (hr : r < n) : (finL F W r).length = W := by
 unfold finL
 rw [List.length_take, List.length_drop, hF]
 have : (r + 1) * W ≤ n * W := Nat.mul_le_mul_right _ hr
 rw [Nat.add_mul] at this
 omega
theorem qno {F : List Nat} {W r x : Nat} (h : x ∈ finL F W r) : x ∈ F := List.mem_of_mem_drop (List.mem_of_mem_take h)
theorem qnp (l : List (Nat × Nat)) : ∀ m : Nat, m ≤ l.foldl (fun m x => max m (x.1 + 1)) m ∧ (∀ x ∈ l, x.1 < l.foldl (fun m x => max m (x.1 + 1)) m) ∧ (∀ B, m ≤ B → (∀ x ∈ l, x.1 < B) → l.foldl (fun m x => max m (x.1 + 1)) m ≤ B) := by
 induction l with
 | nil => intro m; exact ⟨Nat.le_refl _, by simp, fun B h _ => h⟩
 | cons y l ih =>
  intro m
  obtain ⟨h1, h2, h3⟩ := ih (max m (y.1 + 1))
  rw [List.foldl_cons]
  refine ⟨by omega, ?_, fun B hB hx => h3 B ?_ (fun x hx' => hx x (List.mem_cons_of_mem _ hx'))⟩
  ·intro x hx
   rcases List.mem_cons.1 hx with rfl | hx
   ·omega
   ·exact h2 x hx
  ·have := hx y List.mem_cons_self
   omega
theorem qw8 {l : List (Nat × Nat)} {x : Nat × Nat} (h : x ∈ l) : x.1 < topOf l := (qnp l 0).2.1 x h
theorem qe3 {l : List (Nat × Nat)} {B : Nat} (h : ∀ x ∈ l, x.1 < B) : topOf l ≤ B := (qnp l 0).2.2 B (Nat.zero_le _) h
theorem quo {F : List Nat} {W n : Nat} (hF : F.length = n * W) : topOf (prs F W n) ≤ 64 * W := qe3 (fun x hx => by
 obtain ⟨h1, h2⟩ := qcn (p := x.1) (s := x.2).1 hx
 have := (qal.1 h2).1
 rwa [qc6 hF h1] at this)
def qa5 (x : Ln) : Nat := x.2.1 + x.2.2 - 1
theorem qeh {F : List Nat} {W n top : Nat} : ∀ {ss : List Nat} {ls : List Ln}, lnR F W n top ss = some ls → qaq ls = ss
 | [], ls, h => by
  simp only [lnR, Option.some.injEq] at h
  subst h
  rfl
 | f :: rest, ls, h => by
  rw [lnR] at h
  split at h
  ·exact absurd h (by simp)
  ·simp only [Option.map_eq_some_iff] at h
   obtain ⟨l, h1, rfl⟩ := h
   simp only [qaq, List.map_cons]
   rw [show List.map (fun x : Ln => x.2.1) l = rest from qeh h1]
theorem qhq {F : List Nat} {W n top B : Nat} (ht : top ≤ B) : ∀ {ss : List Nat} {ls : List Ln}, ss.Pairwise (· < ·) → (∀ s ∈ ss, s < B) → lnR F W n top ss = some ls → (∀ x ∈ ls, 1 ≤ x.2.2 ∧ qa5 x < B ∧ x.1 = ruleR F W n (qa5 x) ∧ x.2.1 ∈ ss ∧ x.2.1 ≤ qa5 x) ∧ ls.Pairwise (fun x y => qa5 x < y.2.1)
 | [], ls, _, _, h => by
  simp only [lnR, Option.some.injEq] at h
  subst h
  exact ⟨by simp, List.Pairwise.nil⟩
 | f :: rest, ls, hs, hb, h => by
  rw [lnR] at h
  split at h
  ·exact absurd h (by simp)
  ·rename_i hle
   simp only [Option.map_eq_some_iff] at h
   obtain ⟨l, h1, rfl⟩ := h
   obtain ⟨i1, i2⟩ := qhq ht (List.pairwise_cons.1 hs).2 (fun s hs' => hb s (List.mem_cons_of_mem _ hs')) h1
   have hB : rest.headD top ≤ B := by
    cases rest with
    | nil => exact ht
    | cons g r => exact Nat.le_of_lt (hb g (by simp))
   have e1 : f + (rest.headD top - f) - 1 = rest.headD top - 1 := by omega
   refine ⟨?_, List.pairwise_cons.2 ⟨fun y hy => ?_, i2⟩⟩
   ·intro x hx
    rcases List.mem_cons.1 hx with rfl | hx
    ·refine ⟨?_, ?_, ?_, by simp, ?_⟩
     ·show 1 ≤ rest.headD top - f
      omega
     ·show f + (rest.headD top - f) - 1 < B
      omega
     ·show _ = ruleR F W n (f + (rest.headD top - f) - 1)
      rw [e1]
     ·show f ≤ f + (rest.headD top - f) - 1
      omega
    ·obtain ⟨a1, a2, a3, a4, a5⟩ := i1 x hx
     exact ⟨a1, a2, a3, List.mem_cons_of_mem _ a4, a5⟩
   ·show f + (rest.headD top - f) - 1 < y.2.1
    have hy4 := (i1 y hy).2.2.2.1
    cases rest with
    | nil => simp at hy4
    | cons g r =>
     simp only [List.headD_cons] at hle ⊢
     rcases List.mem_cons.1 hy4 with e | e
     ·omega
     ·have := (List.pairwise_cons.1 (List.pairwise_cons.1 hs).2).1 _ e
      omega
theorem qfj {own : List (Nat × Nat)} {p r : Nat} (h : ownAt own p = some r) : (p, r) ∈ own := by
 unfold ownAt at h
 simp only [Option.map_eq_some_iff] at h
 obtain ⟨x, hx, rfl⟩ := h
 have h1 := List.find?_some hx
 have h2 := List.mem_of_find?_eq_some hx
 simp at h1
 obtain ⟨a, b⟩ := x
 subst h1
 exact h2
theorem qla {own : List (Nat × Nat)} (hn : (own.map Prod.fst).Nodup) {p r r' : Nat} (h : (p, r) ∈ own) (h' : (p, r') ∈ own) : r = r' := by
 induction own with
 | nil => simp at h
 | cons x l ih =>
  rw [List.map_cons, List.nodup_cons] at hn
  rcases List.mem_cons.1 h with e | e <;> rcases List.mem_cons.1 h' with e' | e'
  ·rw [← e] at e'
   exact (Prod.mk.inj e').2.symm
  ·exact absurd (List.mem_map_of_mem (f := Prod.fst) e') (by rw [← e] at hn; exact hn.1)
  ·exact absurd (List.mem_map_of_mem (f := Prod.fst) e) (by rw [← e'] at hn; exact hn.1)
  ·exact ih hn.2 e e'
theorem qw9 {own : List (Nat × Nat)} (hn : (own.map Prod.fst).Nodup) {p r : Nat} (h : (p, r) ∈ own) : ownAt own p = some r := by
 cases e : ownAt own p with
 | none =>
  unfold ownAt at e
  simp only [Option.map_eq_none_iff, List.find?_eq_none] at e
  exact absurd (e _ h) (by simp)
 | some s => rw [qla hn (qfj e) h]
theorem qft {own : List (Nat × Nat)} (hn : (own.map Prod.fst).Nodup) (f : Nat × Nat → Bool) : ((own.filter f).map Prod.fst).Nodup :=
 List.Nodup.sublist (List.Sublist.map _ List.filter_sublist) hn
theorem qqn {F : List Nat} {W n top : Nat} : ∀ {ss : List Nat} {own left : List (Nat × Nat)} {ls : List Ln}, (own.map Prod.fst).Nodup → (∀ p r, (p, r) ∈ own → ruleR F W n p = r) → lnC top ss own = some (ls, left) → lnR F W n top ss = some ls ∧ ∀ p r, (p, r) ∈ own ↔ (p, r) ∈ left ∨ ∃ x ∈ ls, p = qa5 x ∧ r = x.1
 | [], own, left, ls, hn, hr, h => by
  simp only [lnC, Option.some.injEq, Prod.mk.injEq] at h
  obtain ⟨rfl, rfl⟩ := h
  exact ⟨rfl, by simp⟩
 | f :: rest, own, left, ls, hn, hr, h => by
  rw [lnC] at h
  split at h
  ·exact absurd h (by simp)
  ·rename_i hle
   cases e : ownAt own (rest.headD top - 1) with
   | none => rw [e] at h; exact absurd h (by simp)
   | some r =>
    rw [e] at h
    simp only [Option.map_eq_some_iff, Prod.mk.injEq] at h
    obtain ⟨⟨l1, l2⟩, h1, rfl, rfl⟩ := h
    have hm := qfj e
    obtain ⟨i1, i2⟩ := qqn (qft hn _) (fun p s hp => hr p s (List.mem_filter.1 hp).1) h1
    have e1 : f + (rest.headD top - f) - 1 = rest.headD top - 1 := by omega
    refine ⟨?_, fun p s => ?_⟩
    ·rw [lnR, if_neg hle, i1, hr _ _ hm]
     rfl
    ·constructor
     ·intro hp
      by_cases ep : p = rest.headD top - 1
      ·subst ep
       refine .inr ⟨_, List.mem_cons_self, e1.symm, ?_⟩
       exact qla hn hp hm
      ·rcases (i2 p s).1 (List.mem_filter.2 ⟨hp, by simpa using ep⟩) with h | ⟨x, hx, h⟩
       ·exact .inl h
       ·exact .inr ⟨x, List.mem_cons_of_mem _ hx, h⟩
     ·rintro (h | ⟨x, hx, h2, h3⟩)
      ·exact (List.mem_filter.1 ((i2 p s).2 (.inl h))).1
      ·rcases List.mem_cons.1 hx with rfl | hx
       ·rw [show p = rest.headD top - 1 from h2.trans e1, show s = r from h3]
        exact hm
       ·exact (List.mem_filter.1 ((i2 p s).2 (.inr ⟨x, hx, h2, h3⟩))).1
theorem qqo {F : List Nat} {W n top : Nat} : ∀ {ss : List Nat} {own : List (Nat × Nat)} {ls : List Ln}, (own.map Prod.fst).Nodup → ls.Pairwise (fun x y => qa5 x < y.2.1) → (∀ x ∈ ls, x.2.1 ≤ qa5 x) → lnR F W n top ss = some ls → (∀ p r, (p, r) ∈ own ↔ ∃ x ∈ ls, p = qa5 x ∧ r = x.1) → lnC top ss own = some (ls, [])
 | [], own, ls, hn, hp, hq, h, hm => by
  simp only [lnR, Option.some.injEq] at h
  subst h
  have : own = [] := List.eq_nil_iff_forall_not_mem.2 (fun x hx => by simpa using (hm x.1 x.2).1 hx)
  rw [this]
  rfl
 | f :: rest, own, ls, hn, hp, hq, h, hm => by
  rw [lnR] at h
  split at h
  ·exact absurd h (by simp)
  ·rename_i hle
   simp only [Option.map_eq_some_iff] at h
   obtain ⟨l, h1, rfl⟩ := h
   obtain ⟨p1, p2⟩ := List.pairwise_cons.1 hp
   have e1 : f + (rest.headD top - f) - 1 = rest.headD top - 1 := by omega
   have hmem : (rest.headD top - 1, ruleR F W n (rest.headD top - 1)) ∈ own := (hm _ _).2 ⟨_, List.mem_cons_self, e1.symm, rfl⟩
   rw [lnC, if_neg hle, qw9 hn hmem]
   have ih := qqo (own := own.filter (fun x => x.1 != rest.headD top - 1)) (qft hn _) p2 (fun x hx => hq x (List.mem_cons_of_mem _ hx)) h1 (fun p r => by
    rw [List.mem_filter]
    constructor
    ·rintro ⟨h2, h3⟩
     obtain ⟨x, hx, h4, h5⟩ := (hm p r).1 h2
     rcases List.mem_cons.1 hx with rfl | hx
     ·have h4' : p = f + (rest.headD top - f) - 1 := h4
      rw [h4', e1] at h3
      simp at h3
     ·exact ⟨x, hx, h4, h5⟩
    ·rintro ⟨x, hx, h4, h5⟩
     refine ⟨(hm p r).2 ⟨x, List.mem_cons_of_mem _ hx, h4, h5⟩, ?_⟩
     have a1 := p1 x hx
     have a2 := hq x (List.mem_cons_of_mem _ hx)
     have a3 : f + (rest.headD top - f) - 1 < x.2.1 := a1
     rw [e1] at a3
     have a4 : ¬ p = rest.headD top - 1 := by omega
     exact bne_iff_ne.2 a4)
   rw [ih]
   rfl
theorem qxa {F : List Nat} {W n : Nat} (hn : ((prs F W n).map Prod.fst).Nodup) {p r : Nat} (h : (p, r) ∈ prs F W n) : ruleR F W n p = r := by
 obtain ⟨h1, h2⟩ := qcn.1 h
 unfold ruleR
 cases e : (List.range n).find? (fun r => bitAt (finL F W r) p) with
 | none => exact absurd (List.find?_eq_none.1 e r (List.mem_range.2 h1)) (by simpa using (qal.1 h2).2)
 | some s =>
  have k1 := List.find?_some e
  have k2 := List.mem_range.1 (List.mem_of_find?_eq_some e)
  have h3 : (p, s) ∈ prs F W n := by
   refine qcn.2 ⟨k2, qal.2 ⟨?_, by simpa using k1⟩⟩
   simp only [bitAt] at k1
   false_or_by_contra
   rename_i hge
   have : (finL F W s)[p / 64]? = none := List.getElem?_eq_none (by omega)
   rw [List.getD_eq_getElem?_getD, this] at k1
   simp at k1
  exact qla hn h3 h
theorem qkc : ∀ {l : List Ln} {n rule : Nat} {b : Bool}, lnOk n rule b l = true → ∀ x ∈ l, rule ≤ x.1 ∧ x.1 ≤ (l.getLastD (0, 0, 0)).1
 | [], _, _, _, _ => by simp
 | y :: l, n, rule, b, h => by
  intro x hx
  simp only [lnOk, Bool.and_eq_true, Bool.or_eq_true, decide_eq_true_eq] at h
  have hy : rule ≤ y.1 := by
   rcases h.1.1.2 with e | ⟨_, e⟩ <;> omega
  have ih := qkc h.2
  cases l with
  | nil =>
   simp only [List.mem_cons, List.not_mem_nil, or_false] at hx
   subst hx
   exact ⟨hy, Nat.le_refl _⟩
  | cons z l =>
   have e : (y :: z :: l).getLastD (0, 0, 0) = (z :: l).getLastD (0, 0, 0) := by simp [List.getLastD]
   rw [e]
   rcases List.mem_cons.1 hx with rfl | hx
   ·have := ih z List.mem_cons_self
    exact ⟨hy, by omega⟩
   ·have := ih x hx
    exact ⟨by omega, this.2⟩
theorem qbp {L : List Nat} (h : ∀ x ∈ L, x < 18446744073709551616) (i : Nat) : L.getD i 0 < 18446744073709551616 := by
 rw [List.getD_eq_getElem?_getD]
 cases hg : L[i]? with
 | none => simp
 | some y => exact h y (List.mem_of_getElem? hg)
theorem qei {T : List Nat} {W b i : Nat} (hi : i < 64 * W) : bitAt (qar T W b) i = (T.getD (256 * (i / 64) + b) 0).testBit (i % 64) := by
 unfold bitAt qar
 have h : i / 64 < W := by omega
 rw [List.getD_eq_getElem?_getD, List.getElem?_map, List.getElem?_range h]
 rfl
theorem qgq (T : List Nat) (W b : Nat) : (qar T W b).length = W := by simp [qar]
theorem qgr : ∀ {l : List Nat} (h : l.Pairwise (· < ·)) {x : Nat} (hx : x ∈ l), x ≤ l.getLastD 0
 | [], _, x, hx => by simp at hx
 | y :: l, h, x, hx => by
  obtain ⟨h1, h2⟩ := List.pairwise_cons.1 h
  cases l with
  | nil =>
   simp only [List.mem_cons, List.not_mem_nil, or_false] at hx
   subst hx
   exact Nat.le_refl _
  | cons z l =>
   have e : (y :: z :: l).getLastD 0 = (z :: l).getLastD 0 := by simp [List.getLastD]
   rw [e]
   rcases List.mem_cons.1 hx with rfl | hx
   ·exact Nat.le_trans (Nat.le_of_lt (h1 z List.mem_cons_self)) (qgr (l := z :: l) h2 List.mem_cons_self)
   ·exact qgr (l := z :: l) h2 hx
theorem qnq {l : List Nat} (h : l ≠ []) : l.getLastD 0 ∈ l := by
 cases l with
 | nil => exact absurd rfl h
 | cons y l =>
  have : (y :: l).getLastD 0 = (y :: l).getLast (by simp) := by simp [List.getLastD]
  rw [this]
  exact List.getLast_mem _
theorem qji (T : List Nat) (W top : Nat) : tabOk T W top = qf8 T W top := by
 rw [Bool.eq_iff_iff]
 unfold tabOk qf8
 simp only [List.all_eq_true, List.mem_range, Bool.or_eq_true, decide_eq_true_eq, Bool.not_eq_true']
 constructor
 ·intro h b hb
  by_cases he : onesN (qar T W b) = []
  ·rw [he]
   simp
  ·have hm := qnq he
   obtain ⟨h1, h2⟩ := qal.1 hm
   rw [qgq] at h1
   rw [qei h1] at h2
   have he' : (onesN (qar T W b)).isEmpty = false := by simpa using he
   rw [he']
   rcases h _ h1 with h3 | h3
   ·simp only [Bool.false_eq_true, if_false]
    omega
   ·rw [h3 b hb] at h2
    exact absurd h2 (by simp)
 ·intro h i hi
  by_cases ht : i < top
  ·exact .inl ht
  ·refine .inr fun b hb => ?_
   cases hbit : (T.getD (256 * (i / 64) + b) 0).testBit (i % 64) with
   | false => rfl
   | true =>
    have hm : i ∈ onesN (qar T W b) := qal.2 ⟨by rw [qgq]; exact hi, by rw [qei hi]; exact hbit⟩
    have h1 := qgr (qc5 _) hm
    have h2 := h b hb
    have he' : (onesN (qar T W b)).isEmpty = false := by
     cases e : onesN (qar T W b) with
     | nil => rw [e] at hm; simp at hm
     | cons _ _ => rfl
    rw [he'] at h2
    simp only [Bool.false_eq_true, if_false] at h2
    omega
theorem qr1 (F : List Nat) (W r : Nat) : ((prsR F W r).map Prod.fst).Nodup := by
 unfold prsR
 rw [List.map_map, show (Prod.fst ∘ fun p : Nat => (p, r)) = id from rfl, List.map_id]
 exact (qc5 _).imp (fun h => Nat.ne_of_lt h)
theorem qlv {F : List Nat} {W : Nat} : ∀ {n : Nat}, (∀ p r r', (p, r) ∈ prs F W n → (p, r') ∈ prs F W n → r = r') → ((prs F W n).map Prod.fst).Nodup
 | 0, _ => by simp [prs]
 | n + 1, h => by
  rw [prs, List.map_append, List.nodup_append]
  refine ⟨qlv (fun p r r' h1 h2 => h p r r' (by rw [prs]; exact List.mem_append_left _ h1) (by rw [prs]; exact List.mem_append_left _ h2)), qr1 F W n, ?_⟩
  intro a ha b hb hab
  subst hab
  obtain ⟨⟨p, r⟩, h1, rfl⟩ := List.mem_map.1 ha
  obtain ⟨⟨p', r'⟩, h2, e⟩ := List.mem_map.1 hb
  simp only at e
  subst e
  have e1 := (qnn.1 h2).1
  have e2 := (qcn.1 h1).1
  have := h p' r r' (by rw [prs]; exact List.mem_append_left _ h1) (by rw [prs]; exact List.mem_append_right _ h2)
  omega
theorem qbe {r p : Nat} {l : List Ln} : p ∈ endsN r l ↔ ∃ x ∈ l, p = qa5 x ∧ r = x.1 := by
 unfold endsN
 simp only [List.mem_map, List.mem_filter, decide_eq_true_eq]
 constructor
 ·rintro ⟨x, ⟨h1, h2⟩, rfl⟩
  exact ⟨x, h1, rfl, h2.symm⟩
 ·rintro ⟨x, h1, rfl, h2⟩
  exact ⟨x, ⟨h1, h2.symm⟩, rfl⟩
theorem qnr {l : List Ln} (h : l ≠ []) : l.getLastD (0, 0, 0) ∈ l := by
 cases l with
 | nil => exact absurd rfl h
 | cons y l =>
  have : (y :: l).getLastD (0, 0, 0) = (y :: l).getLast (by simp) := by simp [List.getLastD]
  rw [this]
  exact List.getLast_mem _
theorem qxb {l : List Ln} (hp : l.Pairwise (fun x y => qa5 x < y.2.1)) (hq : ∀ x ∈ l, x.2.1 ≤ qa5 x) {x y : Ln} (hx : x ∈ l) (hy : y ∈ l) (h : qa5 x = qa5 y) : x = y := by
 induction l with
 | nil => simp at hx
 | cons z l ih =>
  obtain ⟨h1, h2⟩ := List.pairwise_cons.1 hp
  rcases List.mem_cons.1 hx with e | e <;> rcases List.mem_cons.1 hy with e' | e'
  ·rw [e, e']
  ·have := h1 y e'
   have := hq y hy
   rw [e] at h
   omega
  ·have := h1 x e
   have := hq x hx
   rw [e'] at h
   omega
  ·exact ih h2 (fun x hx => hq x (List.mem_cons_of_mem _ hx)) e e'
theorem qlw {F S T : List Nat} {W n : Nat} (hF : F.length = n * W) (hS : S.length = W) (hf : ∀ x ∈ F, x < 18446744073709551616) (hs : ∀ x ∈ S, x < 18446744073709551616) : planC F S T W n = planR F S T W n := by
 have hb : ∀ s ∈ onesN S, s < 64 * W := fun s h => by
  have := (qal.1 h).1
  rwa [hS] at this
 have ht := quo hF
 have hfl : ∀ r, ∀ x ∈ finL F W r, x < 18446744073709551616 := fun r x hx => hf x (qno hx)
 have key : ∀ ls, planC F S T W n = some ls ↔ planR F S T W n = some ls := by
  intro ls
  constructor
  ·intro h
   unfold planC at h
   split at h
   ·rename_i hn
    split at h
    ·exact absurd h (by simp)
    ·rename_i y hy
     split at h
     ·rename_i hc
      simp only [Option.some.injEq] at h
      simp only [Bool.and_eq_true, decide_eq_true_eq, List.isEmpty_iff] at hc
      obtain ⟨⟨⟨c1, c2⟩, c3⟩, c4⟩ := hc
      obtain ⟨l, o⟩ := y
      simp only at h c1 c2 c3
      subst h
      subst c3
      obtain ⟨k1, k2⟩ := qqn hn (fun p r hp => qxa hn hp) hy
      obtain ⟨m1, m2⟩ := qhq ht (qc5 S) hb k1
      have hend : ∀ r, ∀ i ∈ endsN r l, i < 64 * W := fun r i hi => by
       obtain ⟨x, hx, rfl, _⟩ := qbe.1 hi
       exact (m1 x hx).2.1
      have e1 : ofN W (qaq l) = S := by
       refine qqm (by rw [qb4, hS]) (qf9 _ _) hs (fun i hi => ?_)
       rw [qb4] at hi
       rw [qeh k1, qdf hb]
       rw [Bool.eq_iff_iff, decide_eq_true_eq, qal, hS]
       exact ⟨fun h => h.2, fun h => ⟨hi, h⟩⟩
      have e2 : ∀ r, r < n → ofN W (endsN r l) = finL F W r := fun r hr => by
       refine qqm (by rw [qb4, qc6 hF hr]) (qf9 _ _) (hfl r) (fun i hi => ?_)
       rw [qb4] at hi
       rw [qdf (hend r), Bool.eq_iff_iff, decide_eq_true_eq, qbe]
       have k3 := k2 i r
       simp only [List.not_mem_nil, false_or] at k3
       rw [← k3, qcn, qal, qc6 hF hr]
       exact ⟨fun h => h.2.2, fun h => ⟨hr, hi, h⟩⟩
      unfold planR
      rw [k1]
      simp only
      rw [if_pos]
      simp only [Bool.and_eq_true, decide_eq_true_eq, List.all_eq_true, List.mem_range]
      exact ⟨⟨⟨⟨c1, c2⟩, e1⟩, e2⟩, by rw [← qji]; exact c4⟩
     ·exact absurd h (by simp)
   ·exact absurd h (by simp)
  ·intro h
   unfold planR at h
   split at h
   ·exact absurd h (by simp)
   ·rename_i l k1
    split at h
    ·rename_i hc
     simp only [Option.some.injEq] at h
     subst h
     simp only [Bool.and_eq_true, decide_eq_true_eq, List.all_eq_true, List.mem_range] at hc
     obtain ⟨⟨⟨⟨c1, c2⟩, c3⟩, c4⟩, c5⟩ := hc
     obtain ⟨m1, m2⟩ := qhq ht (qc5 S) hb k1
     have m3 : ∀ x ∈ l, x.2.1 ≤ qa5 x := fun x hx => (m1 x hx).2.2.2.2
     have hend : ∀ r, ∀ i ∈ endsN r l, i < 64 * W := fun r i hi => by
      obtain ⟨x, hx, rfl, _⟩ := qbe.1 hi
      exact (m1 x hx).2.1
     have c1' := c1
     unfold qao at c1'
     simp only [Bool.and_eq_true, Bool.not_eq_true', List.isEmpty_eq_false_iff, decide_eq_true_eq] at c1'
     have hru : ∀ x ∈ l, x.1 < n := fun x hx => by
      have := (qkc c1'.1.2 x hx).2
      unfold qa1 at c2
      omega
     have hm : ∀ p r, (p, r) ∈ prs F W n ↔ ∃ x ∈ l, p = qa5 x ∧ r = x.1 := fun p r => by
      rw [qcn, ← qbe]
      constructor
      ·rintro ⟨h1, h2⟩
       obtain ⟨h3, h4⟩ := qal.1 h2
       rw [← c4 r h1, qdf (hend r), decide_eq_true_eq] at h4
       exact h4
      ·intro h2
       obtain ⟨x, hx, _, hr⟩ := qbe.1 h2
       have h1 : r < n := hr ▸ hru x hx
       refine ⟨h1, qal.2 ⟨by rw [qc6 hF h1]; exact hend r p h2, ?_⟩⟩
       rw [← c4 r h1, qdf (hend r), decide_eq_true_eq]
       exact h2
     have hn : ((prs F W n).map Prod.fst).Nodup := qlv (fun p r r' h1 h2 => by
      obtain ⟨x, hx, e1, e2⟩ := (hm p r).1 h1
      obtain ⟨y, hy, e3, e4⟩ := (hm p r').1 h2
      have := qxb m2 m3 hx hy (e1 ▸ e3)
      rw [e2, e4, this])
     have k2 := qqo hn m2 m3 k1 hm
     unfold planC
     rw [if_pos hn, k2]
     simp only
     rw [if_pos]
     simp only [Bool.and_eq_true, decide_eq_true_eq, List.isEmpty_iff]
     exact ⟨⟨⟨c1, c2⟩, trivial⟩, by rw [qji]; exact c5⟩
    ·exact absurd h (by simp)
 cases h : planR F S T W n with
 | some ls => exact (key ls).2 h
 | none =>
  cases h2 : planC F S T W n with
  | none => rfl
  | some ls => rw [(key ls).1 h2] at h; exact absurd h (by simp)
end Go.Proofs.YtlgjaefcfnndhaaGreatDoor
