/-
  Plain facts for CompareSorts: what the network of neighbours does to numbers with keys, and to rows of cells. Nothing of the program is named here.
-/
import Derived.Test.YtdgehacbpjgmcaaCmpSort
import Derived.Test.YtdgehacbpjgmcaaMaskPlain
namespace Go.Proofs.Ytdgehacbpjgmcaa
open Go.RowKit
set_option linter.unusedVariables false
set_option linter.unusedSimpArgs false
/-- One pair of neighbours put in order, by its keys. -/
def xS (key : Nat → Nat) (f : Nat → Nat) (j : Nat) : Nat → Nat := if key (f (j + 1)) < key (f j) then fun i => if i = j then f (j + 1) else if i = j + 1 then f j else f i else f
def xL (key : Nat → Nat) (f : Nat → Nat) (l : List Nat) : Nat → Nat := l.foldl (xS key) f
theorem xL_append (key f) (a b : List Nat) : xL key f (a ++ b) = xL key (xL key f a) b := List.foldl_append
/-- Equal keys lie in the order of their numbers. -/
def Stab (key : Nat → Nat) (f : Nat → Nat) : Prop := ∀ i j, i < j → key (f i) = key (f j) → f i < f j
theorem xS_cases (key f j) : (key (f (j + 1)) < key (f j) ∧ xS key f j j = f (j + 1) ∧ xS key f j (j + 1) = f j ∧ ∀ i, i ≠ j → i ≠ j + 1 → xS key f j i = f i) ∨ (¬ key (f (j + 1)) < key (f j) ∧ xS key f j = f) := by
  unfold xS
  by_cases h : key (f (j + 1)) < key (f j)
  · refine .inl ⟨h, ?_, ?_, fun i h1 h2 => ?_⟩
    · rw [if_pos h]; simp
    · rw [if_pos h]; simp
    · rw [if_pos h]; simp [h1, h2]
  · exact .inr ⟨h, by rw [if_neg h]⟩
theorem Stab.step {key f} (h : Stab key f) (j : Nat) : Stab key (xS key f j) := by
  rcases xS_cases key f j with ⟨h1, h2, h3, h4⟩ | ⟨h1, h2⟩
  · intro i k hik he
    by_cases a : i = j
    · subst a
      by_cases b : k = i + 1
      · subst b; rw [h2, h3] at he; omega
      · rw [h2, h4 k (by omega) b] at he ⊢; exact h _ _ (by omega) he
    · by_cases a2 : i = j + 1
      · subst a2; rw [h3, h4 k (by omega) (by omega)] at he ⊢; exact h _ _ (by omega) he
      · rw [h4 i a a2] at he ⊢
        by_cases b : k = j
        · subst b; rw [h2] at he ⊢; exact h _ _ (by omega) he
        · by_cases b2 : k = j + 1
          · subst b2; rw [h3] at he ⊢; exact h _ _ (by omega) he
          · rw [h4 k b b2] at he ⊢; exact h _ _ hik he
  · rw [h2]; exact h
theorem Stab.all {key f} (h : Stab key f) (l : List Nat) : Stab key (xL key f l) := by
  induction l generalizing f with
  | nil => exact h
  | cons j l ih => exact ih (h.step j)
/-- The order of the rows: by the key, then by the number. -/
def Rle (key : Nat → Nat) (a b : Nat) : Prop := key a < key b ∨ (key a = key b ∧ a ≤ b)
theorem Rle.trans {key} {a b c : Nat} (h : Rle key a b) (k : Rle key b c) : Rle key a c := by unfold Rle at *; omega
theorem Rle.refl (key) (a : Nat) : Rle key a a := .inr ⟨rfl, Nat.le_refl _⟩
/-- One pass. -/
theorem pass {key f} (hs : Stab key f) (e : Nat) : (∀ i, i ≤ e → Rle key (xL key f (List.range e) i) (xL key f (List.range e) e)) ∧ (∀ i, e < i → xL key f (List.range e) i = f i) ∧ ∀ i, i ≤ e → ∃ k, k ≤ e ∧ xL key f (List.range e) i = f k := by
  induction e with
  | zero => exact ⟨fun i h => by rw [show i = 0 by omega]; exact Rle.refl _ _, fun i _ => rfl, fun i h => ⟨i, h, rfl⟩⟩
  | succ e ih =>
    rw [List.range_succ, xL_append]
    have hst := hs.all (List.range e)
    obtain ⟨g, hg⟩ : ∃ g, xL key f (List.range e) = g := ⟨_, rfl⟩
    rw [hg] at ih hst ⊢
    obtain ⟨i1, i2, i3⟩ := ih
    have hn := i2 (e + 1) (by omega)
    show (∀ i, i ≤ e + 1 → Rle key (xS key g e i) (xS key g e (e + 1))) ∧ (∀ i, e + 1 < i → xS key g e i = f i) ∧ ∀ i, i ≤ e + 1 → ∃ k, k ≤ e + 1 ∧ xS key g e i = f k
    rcases xS_cases key g e with ⟨h1, h2, h3, h4⟩ | ⟨h1, h2⟩
    · refine ⟨fun i hi => ?_, fun i hi => by rw [h4 i (by omega) (by omega)]; exact i2 i (by omega), fun i hi => ?_⟩
      · rw [h3]
        by_cases a : i = e
        · subst a; rw [h2]; exact .inl h1
        · by_cases b : i = e + 1
          · subst b; rw [h3]; exact Rle.refl _ _
          · rw [h4 i a b]; exact i1 i (by omega)
      · by_cases a : i = e
        · subst a; exact ⟨i + 1, Nat.le_refl _, by rw [h2, hn]⟩
        · by_cases b : i = e + 1
          · subst b
            obtain ⟨k, hk, he⟩ := i3 e (Nat.le_refl _)
            exact ⟨k, by omega, by rw [h3, he]⟩
          · obtain ⟨k, hk, he⟩ := i3 i (by omega)
            exact ⟨k, by omega, by rw [h4 i a b, he]⟩
    · rw [h2]
      have top : Rle key (g e) (g (e + 1)) := by
        by_cases c : key (g e) = key (g (e + 1))
        · exact .inr ⟨c, Nat.le_of_lt (hst e (e + 1) (by omega) c)⟩
        · exact .inl (by omega)
      refine ⟨fun i hi => ?_, fun i hi => i2 i (by omega), fun i hi => ?_⟩
      · by_cases a : i = e + 1
        · rw [a]; exact Rle.refl _ _
        · exact (i1 i (by omega)).trans top
      · by_cases a : i = e + 1
        · exact ⟨e + 1, Nat.le_refl _, by rw [a, hn]⟩
        · obtain ⟨k, hk, he⟩ := i3 i (by omega)
          exact ⟨k, by omega, he⟩
/-- All passes. -/
theorem sorts {key f} (hs : Stab key f) (e : Nat) : (∀ i, i < e → Rle key (xL key f (pl e) i) (xL key f (pl e) (i + 1))) ∧ (∀ i, e < i → xL key f (pl e) i = f i) ∧ ∀ i, i ≤ e → ∃ k, k ≤ e ∧ xL key f (pl e) i = f k := by
  induction e generalizing f with
  | zero => exact ⟨fun i h => absurd h (Nat.not_lt_zero _), fun i _ => rfl, fun i h => ⟨i, h, rfl⟩⟩
  | succ e ih =>
    show (∀ i, i < e + 1 → Rle key (xL key f (List.range (e + 1) ++ pl e) i) (xL key f (List.range (e + 1) ++ pl e) (i + 1))) ∧ (∀ i, e + 1 < i → xL key f (List.range (e + 1) ++ pl e) i = f i) ∧ ∀ i, i ≤ e + 1 → ∃ k, k ≤ e + 1 ∧ xL key f (List.range (e + 1) ++ pl e) i = f k
    rw [xL_append]
    obtain ⟨p1, p2, p3⟩ := pass hs (e + 1)
    obtain ⟨q1, q2, q3⟩ := ih (hs.all (List.range (e + 1)))
    refine ⟨fun i hi => ?_, fun i hi => by rw [q2 i (by omega), p2 i hi], fun i hi => ?_⟩
    · by_cases a : i < e
      · exact q1 i a
      · rw [show i = e by omega, q2 (e + 1) (by omega)]
        obtain ⟨k, hk, he⟩ := q3 e (Nat.le_refl _)
        rw [he]
        exact p1 k (by omega)
    · by_cases a : i ≤ e
      · obtain ⟨k, hk, he⟩ := q3 i a
        obtain ⟨m, hm, hf⟩ := p3 k (by omega)
        exact ⟨m, hm, by rw [he, hf]⟩
      · obtain ⟨m, hm, hf⟩ := p3 i (by omega)
        exact ⟨m, hm, by rw [q2 i (by omega), hf]⟩
/-- The rows of a table lie as numbers say, and all other cells as they were. -/
def Arr (X N Y : Nat) (own C : List (BitVec 64)) (f : Nat → Nat) : Prop := C.length = own.length ∧ (∀ j, j < Y → ∀ t, t < N → cl C (X + j * N + t) = cl own (X + f j * N + t)) ∧ ∀ x, (x < X ∨ X + Y * N ≤ x) → cl C x = cl own x
theorem Arr.start (X N Y : Nat) (own : List (BitVec 64)) : Arr X N Y own own (fun i => i) := ⟨rfl, fun _ _ _ _ => rfl, fun _ _ => rfl⟩
def keyO (X N : Nat) (own : List (BitVec 64)) (j : Nat) : Nat := (cl own (X + j * N)).toNat
theorem row_le {j Y N : Nat} (h : j < Y) : j * N + N ≤ Y * N := by have := Nat.mul_le_mul_right N (show j + 1 ≤ Y by omega); rw [Nat.add_mul, Nat.one_mul] at this; exact this
theorem row_ap {i j N : Nat} (h : i ≠ j) : i * N + N ≤ j * N ∨ j * N + N ≤ i * N := by
  rcases Nat.lt_or_gt_of_ne h with h | h
  · exact .inl (row_le h)
  · exact .inr (row_le h)
theorem Arr.step {X N Y j : Nat} {own C : List (BitVec 64)} {E : List Ev} {f : Nat → Nat} (h : Arr X N Y own C f) (hN : 1 ≤ N) (hX : X + Y * N ≤ own.length) (hj : j + 1 < Y) : Arr X N Y own (soS X N (C, E) j).1 (xS (keyO X N own) f j) := by
  obtain ⟨h1, h2, h3⟩ := h
  have r0 := row_le (N := N) (show j < Y by omega)
  have r1 := row_le (N := N) hj
  have r2 : j * N + N = (j + 1) * N := by rw [Nat.add_mul, Nat.one_mul]
  have hk : ltM (cl C (X + (j + 1) * N)) (cl C (X + j * N)) = msk (decide (keyO X N own (f (j + 1)) < keyO X N own (f j))) := by
    have e1 := h2 (j + 1) hj 0 hN
    have e2 := h2 j (by omega) 0 hN
    simp only [Nat.add_zero] at e1 e2
    unfold ltM keyO
    rw [e1, e2]
  have hcl := cl_swap C (E ++ [(1, X + j * N), (1, X + (j + 1) * N)]) (decide (keyO X N own (f (j + 1)) < keyO X N own (f j))) (X + j * N) (X + (j + 1) * N) N (by omega) (by omega) (.inl (by omega)) N (Nat.le_refl _)
  have hd : (soS X N (C, E) j).1 = (rep (swF (msk (decide (keyO X N own (f (j + 1)) < keyO X N own (f j)))) (X + j * N) (X + (j + 1) * N)) (C, E ++ [(1, X + j * N), (1, X + (j + 1) * N)]) N).1 := by
    show (rep (swF (ltM (cl C (X + (j + 1) * N)) (cl C (X + j * N))) _ _) _ N).1 = _
    rw [hk]
  rw [← hd] at hcl
  have hlen : (soS X N (C, E) j).1.length = own.length := by
    have := (exF_len N (C, E) (X + j * N) (X + (j + 1) * N)).1
    exact this.trans h1
  generalize (soS X N (C, E) j).1 = C' at *
  clear hd hk
  have ap0 : ∀ i, i ≠ j → i * N + N ≤ j * N ∨ j * N + N ≤ i * N := fun i h => row_ap h
  have ap1 : ∀ i, i ≠ j + 1 → i * N + N ≤ (j + 1) * N ∨ (j + 1) * N + N ≤ i * N := fun i h => row_ap h
  rcases xS_cases (keyO X N own) f j with ⟨b1, b2, b3, b4⟩ | ⟨b1, b2⟩
  · rw [decide_eq_true b1] at hcl
    simp only [if_true] at hcl
    refine ⟨hlen, fun i hi t ht => ?_, fun x hx => ?_⟩
    · rw [hcl]
      by_cases a : i = j
      · subst a
        rw [if_pos (by omega), b2, ← h2 (i + 1) hj t ht]
        congr 1
        omega
      · by_cases a2 : i = j + 1
        · subst a2
          rw [if_neg (by omega), if_pos (by omega), b3, ← h2 j (by omega) t ht]
          congr 1
          omega
        · have q0 := ap0 i a
          have q1 := ap1 i a2
          rw [if_neg (by omega), if_neg (by omega), b4 i a a2, ← h2 i hi t ht]
    · rw [hcl, if_neg (by omega), if_neg (by omega)]
      exact h3 x hx
  · rw [decide_eq_false b1] at hcl
    simp only [Bool.false_eq_true, if_false] at hcl
    rw [b2]
    exact ⟨hlen, fun i hi t ht => by rw [hcl]; exact h2 i hi t ht, fun x hx => by rw [hcl]; exact h3 x hx⟩
theorem Arr.all {X N Y : Nat} {own : List (BitVec 64)} (hN : 1 ≤ N) (hX : X + Y * N ≤ own.length) (l : List Nat) (hl : ∀ j ∈ l, j + 1 < Y) : ∀ (s : List (BitVec 64) × List Ev) (f : Nat → Nat), Arr X N Y own s.1 f → Arr X N Y own (soL X N s l).1 (xL (keyO X N own) f l) := by
  induction l with
  | nil => exact fun s f h => h
  | cons j l ih =>
    intro s f h
    exact ih (fun k hk => hl k (List.mem_cons_of_mem _ hk)) (soS X N s j) _ (h.step (E := s.2) hN hX (hl j (List.mem_cons_self ..)))
/-- What Sort leaves: the rows that were there, each once, in the order of their keys, equal ones in the order of their numbers; all else as it was. -/
def Ordd (X N Y : Nat) (own C : List (BitVec 64)) (f : Nat → Nat) : Prop := Arr X N Y own C f ∧ (∀ i, i < Y → f i < Y) ∧ (∀ i j, i < j → f i ≠ f j) ∧ ∀ i, i + 1 < Y → Rle (keyO X N own) (f i) (f (i + 1))
theorem sort_ord (X N Y : Nat) (own : List (BitVec 64)) (E : List Ev) (hN : 1 ≤ N) (hY : 1 ≤ Y) (hX : X + Y * N ≤ own.length) : ∃ f, Ordd X N Y own (soL X N (own, E) (pl (Y - 1))).1 f := by
  have h0 : Stab (keyO X N own) (fun i => i) := fun i j h _ => h
  obtain ⟨s1, s2, s3⟩ := sorts h0 (Y - 1)
  refine ⟨_, Arr.all hN hX (pl (Y - 1)) (fun j hj => by have := pl_mem hj; omega) (own, E) _ (Arr.start X N Y own), fun i hi => ?_, fun i j hij e => ?_, fun i hi => s1 i (by omega)⟩
  · obtain ⟨k, hk, he⟩ := s3 i (by omega)
    rw [he]
    show k < Y
    omega
  · have := h0.all (pl (Y - 1)) i j hij (by rw [e])
    omega
end Go.Proofs.Ytdgehacbpjgmcaa
