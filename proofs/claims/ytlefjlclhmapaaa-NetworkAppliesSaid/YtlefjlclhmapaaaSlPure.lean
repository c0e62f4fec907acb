/-
  What the functions of package slots do to an arena, in plain Lean.
-/
import Derived.Test.YtlefjlclhmapaaaSlots
import Derived.Test.YtlefjlclhmapaaaWords
namespace Go.Proofs.Ytlefjlclhmapaaa
open Go.RowKit
set_option linter.unusedVariables false
/-- Cells and steps. -/
abbrev St := List (BitVec 64) × List Ev
/-- A slot is written. -/
def stS (s : St) (x : Nat) (v : Sl) : St := (((s.1.set x v.1).set (x + 1) v.2.1).set (x + 2) v.2.2, ((s.2 ++ [(2, x)]) ++ [(2, x + 1)]) ++ [(2, x + 2)])
theorem stS_len (s : St) (x : Nat) (v : Sl) : (stS s x v).1.length = s.1.length ∧ (stS s x v).2.length = s.2.length + 3 := by
  unfold stS; simp
/-- Slots are written in a row. -/
def wrS (base : Nat) (L : Nat → Sl) (s : St) : Nat → St
  | 0 => s
  | k + 1 => stS (wrS base L s k) (base + 3 * k) (L k)
theorem wrS_len (base : Nat) (L : Nat → Sl) (s : St) (k : Nat) : (wrS base L s k).1.length = s.1.length ∧ (wrS base L s k).2.length = s.2.length + 3 * k := by
  induction k with
  | zero => exact ⟨rfl, rfl⟩
  | succ k ih =>
    obtain ⟨h1, h2⟩ := stS_len (wrS base L s k) (base + 3 * k) (L k)
    exact ⟨h1.trans ih.1, by show (stS _ _ _).2.length = _; rw [h2, ih.2]; omega⟩
/-- An empty slot. -/
def sl0 : Sl := (0#64, 0#64, 0#64)
/-- The slot of a rule: valid if m is set and the hit's bit is. -/
def fiV (b : Bool) (e : BitVec 64) (r : Nat) (v : BitVec 64) : Sl :=
  if b && decide (v.toNat % 2 = 1) then (msk true, e, BitVec.ofNat 64 r) else (0#64, 0#64, 0#64)
/-- The slots of a byte are written. -/
def fiS (hits first : Nat) (b : Bool) (e : BitVec 64) (s : St) : Nat → St
  | 0 => s
  | r + 1 => stS ((fiS hits first b e s r).1, (fiS hits first b e s r).2 ++ [(1, hits + r)]) (first + 3 * r) (fiV b e r (cl (fiS hits first b e s r).1 (hits + r)))
theorem fiS_len (hits first : Nat) (b : Bool) (e : BitVec 64) (s : St) (k : Nat) : (fiS hits first b e s k).1.length = s.1.length ∧ (fiS hits first b e s k).2.length = s.2.length + 4 * k := by
  induction k with
  | zero => exact ⟨rfl, rfl⟩
  | succ k ih =>
    obtain ⟨h1, h2⟩ := stS_len ((fiS hits first b e s k).1, (fiS hits first b e s k).2 ++ [(1, hits + k)]) (first + 3 * k) (fiV b e k (cl (fiS hits first b e s k).1 (hits + k)))
    exact ⟨h1.trans ih.1, by show (stS _ _ _).2.length = _; rw [h2, List.length_append, ih.2]; simp; omega⟩
/-- A slot is read. -/
def rdV (C : List (BitVec 64)) (x : Nat) : Sl := (cl C x, cl C (x + 1), cl C (x + 2))
def rdL (base : Nat) (C : List (BitVec 64)) (n : Nat) : List Sl := (List.range n).map fun i => rdV C (base + 3 * i)
def rdE (base : Nat) (E : List Ev) : Nat → List Ev
  | 0 => E
  | k + 1 => ((rdE base E k ++ [(1, base + 3 * k)]) ++ [(1, base + 3 * k + 1)]) ++ [(1, base + 3 * k + 2)]
theorem rdL_len (base : Nat) (C : List (BitVec 64)) (n : Nat) : (rdL base C n).length = n := by simp [rdL]
theorem rdE_len (base : Nat) (E : List Ev) (k : Nat) : (rdE base E k).length = E.length + 3 * k := by
  induction k with
  | zero => rfl
  | succ k ih => unfold rdE; simp [ih]; omega
theorem rdL_succ (base : Nat) (C : List (BitVec 64)) (n : Nat) : rdL base C (n + 1) = rdL base C n ++ [rdV C (base + 3 * n)] := by simp [rdL, List.range_succ]
/-- A list in the making: the first k slots, then empty ones. -/
def rdM (base : Nat) (C : List (BitVec 64)) (n k : Nat) : List Sl := rdL base C k ++ List.replicate (n - k) sl0
theorem rdM_len (base : Nat) (C : List (BitVec 64)) (n k : Nat) (h : k ≤ n) : (rdM base C n k).length = n := by simp [rdM, rdL_len]; omega
theorem rdM_zero (base : Nat) (C : List (BitVec 64)) (n : Nat) : rdM base C n 0 = List.replicate n sl0 := by simp [rdM, rdL]
theorem rdM_all (base : Nat) (C : List (BitVec 64)) (n : Nat) : rdM base C n n = rdL base C n := by simp [rdM]
theorem rdM_set (base : Nat) (C : List (BitVec 64)) (n k : Nat) (h : k < n) : (rdM base C n k).set k (rdV C (base + 3 * k)) = rdM base C n (k + 1) := by
  unfold rdM
  rw [List.set_append_right _ _ (by rw [rdL_len]; omega), rdL_len, rdL_succ, List.append_assoc]
  congr 1
  rw [Nat.sub_self]
  obtain ⟨m, hm⟩ : ∃ m, n - k = m + 1 := ⟨n - k - 1, by omega⟩
  rw [hm, show n - (k + 1) = m by omega]
  rfl
/-- The same, over a list of places. -/
def wrL (base : Nat) (L : Nat → Sl) (s : St) (l : List Nat) : St := l.foldl (fun s i => stS s (base + 3 * i) (L i)) s
theorem wrL_snoc (base : Nat) (L : Nat → Sl) (s : St) (l : List Nat) (i : Nat) : wrL base L s (l ++ [i]) = stS (wrL base L s l) (base + 3 * i) (L i) := by unfold wrL; rw [List.foldl_append]; rfl
theorem wrL_len (base : Nat) (L : Nat → Sl) (s : St) (l : List Nat) : (wrL base L s l).1.length = s.1.length ∧ (wrL base L s l).2.length = s.2.length + 3 * l.length := by
  induction l generalizing s with
  | nil => exact ⟨rfl, rfl⟩
  | cons i l ih =>
    obtain ⟨h1, h2⟩ := ih (stS s (base + 3 * i) (L i))
    obtain ⟨h3, h4⟩ := stS_len s (base + 3 * i) (L i)
    exact ⟨h1.trans h3, by show (wrL base L (stS s (base + 3 * i) (L i)) l).2.length = _; rw [h2, h4, List.length_cons]; omega⟩
theorem wrL_range (base : Nat) (L : Nat → Sl) (s : St) (n : Nat) : wrL base L s (List.range n) = wrS base L s n := by
  induction n with
  | zero => rfl
  | succ n ih => rw [List.range_succ, wrL_snoc, ih]; rfl
/-- Slots are read into a list, over a list of places. -/
def rdP (base : Nat) (C : List (BitVec 64)) (s : List Sl × List Ev) (i : Nat) : List Sl × List Ev := (s.1.set i (rdV C (base + 3 * i)), ((s.2 ++ [(1, base + 3 * i)]) ++ [(1, base + 3 * i + 1)]) ++ [(1, base + 3 * i + 2)])
def rdF (base : Nat) (C : List (BitVec 64)) (s : List Sl × List Ev) (l : List Nat) : List Sl × List Ev := l.foldl (rdP base C) s
theorem rdF_snoc (base : Nat) (C : List (BitVec 64)) (s : List Sl × List Ev) (l : List Nat) (i : Nat) : rdF base C s (l ++ [i]) = rdP base C (rdF base C s l) i := by unfold rdF; rw [List.foldl_append]; rfl
theorem rdF_len (base : Nat) (C : List (BitVec 64)) (s : List Sl × List Ev) (l : List Nat) : (rdF base C s l).1.length = s.1.length ∧ (rdF base C s l).2.length = s.2.length + 3 * l.length := by
  induction l generalizing s with
  | nil => exact ⟨rfl, rfl⟩
  | cons i l ih =>
    obtain ⟨h1, h2⟩ := ih (rdP base C s i)
    refine ⟨h1.trans (by unfold rdP; simp), ?_⟩
    show (rdF base C (rdP base C s i) l).2.length = _
    rw [h2]; unfold rdP; simp; omega
theorem rdF_range (base : Nat) (C : List (BitVec 64)) (n k : Nat) (E : List Ev) (h : k ≤ n) : rdF base C (List.replicate n sl0, E) (List.range k) = (rdM base C n k, rdE base E k) := by
  induction k with
  | zero => rw [rdM_zero]; rfl
  | succ k ih =>
    rw [List.range_succ, rdF_snoc, ih (by omega)]
    unfold rdP
    rw [rdM_set _ _ _ _ (by omega)]
    rfl
/-- The error of a row. -/
def ckS (nC nE : Nat) (base n : Int) : Int := if n < 1 ∨ 288 < n then 7 else if hasE nC base (3 * n) = 0 then roomE nE (3 * n) else hasE nC base (3 * n)
theorem hasE_cases (n : Nat) (x k : Int) : (hasE n x k = 0 ∧ 0 ≤ x ∧ 0 ≤ k ∧ x + k ≤ n) ∨ (hasE n x k = 7 ∧ ¬ (0 ≤ x ∧ 0 ≤ k ∧ x + k ≤ n)) := by
  unfold hasE
  split
  · exact .inr ⟨rfl, by omega⟩
  · exact .inl ⟨rfl, by omega⟩
theorem roomE_zero {n : Nat} {s : Int} (h : roomE n s = 0) : 0 ≤ s ∧ n + s ≤ 8388608 := by
  unfold roomE at h
  split at h
  · cases h
  · split at h
    · cases h
    · omega
theorem ckS_zero {nC nE : Nat} {base n : Int} (h : ckS nC nE base n = 0) : 1 ≤ n ∧ n ≤ 288 ∧ 0 ≤ base ∧ base + 3 * n ≤ nC ∧ nE + 3 * n ≤ 8388608 := by
  unfold ckS at h
  split at h
  · cases h
  · rename_i h1
    rcases hasE_cases nC base (3 * n) with ⟨a, b⟩ | ⟨a, b⟩
    · rw [if_pos a] at h
      have := roomE_zero h
      omega
    · rw [if_neg (by rw [a]; decide), a] at h; cases h
theorem ckS_ok {nC nE : Nat} {base n : Int} (h : 1 ≤ n ∧ n ≤ 288 ∧ 0 ≤ base ∧ base + 3 * n ≤ nC ∧ nE + 3 * n ≤ 8388608) : ckS nC nE base n = 0 := by
  obtain ⟨h1, h2, h3, h4, h5⟩ := h
  unfold ckS
  rw [if_neg (by omega)]
  have e : hasE nC base (3 * n) = 0 := by unfold hasE; rw [if_neg (by omega)]
  rw [if_pos e]
  unfold roomE
  rw [if_neg (by omega), if_neg (by omega)]
/-- The error of Fill, whose mask is one or none. -/
def fiE (nC nE : Nat) (base hits p byte : Int) (im : Bool) : Int :=
  if p < 1 ∨ 16 < p ∨ byte < 0 ∨ 15 < byte ∨ base < 0 ∨ 65536 < base then 7 else if im = false then 2 else
  if hasE nC hits p = 0 then (if hasE nC (base + 3 * p * byte) (3 * p) = 0 then (if hits < base + 3 * p * byte + 3 * p ∧ base + 3 * p * byte < hits + p then 2 else roomE nE (4 * p)) else hasE nC (base + 3 * p * byte) (3 * p)) else hasE nC hits p
end Go.Proofs.Ytlefjlclhmapaaa
