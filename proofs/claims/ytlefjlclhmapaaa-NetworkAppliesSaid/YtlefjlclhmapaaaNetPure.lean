/-
  The moves of a network of n slots, as a list. Nothing of the program is named here.
-/
import Derived.Lib.BitFns
import Derived.WalkKit
namespace Go.Proofs.Ytlefjlclhmapaaa
open Go.RowKit
/-- How many rounds there are. -/
def rn (n : Nat) : Nat := Lib.bitLen (n - 1)
theorem rn_fin : ∀ x : Fin 288, Lib.bitLen x.val ≤ 9 ∧ x.val < 2 ^ Lib.bitLen x.val ∧ ∀ i, i < Lib.bitLen x.val → 2 ^ i ≤ x.val := by decide +kernel
theorem rn_ok {n : Nat} (h1 : 1 ≤ n) (h2 : n ≤ 288) : rn n ≤ 9 ∧ n ≤ 2 ^ rn n ∧ ∀ i, i < rn n → 2 ^ i < n := by
  obtain ⟨a, b, c⟩ := rn_fin ⟨n - 1, by omega⟩
  simp only at a b c
  refine ⟨a, ?_, fun i hi => ?_⟩
  · show n ≤ 2 ^ Lib.bitLen (n - 1); omega
  · have := c i hi; omega
/-- The number of rounds is the one with this. -/
theorem rn_of {n r : Nat} (h1 : 1 ≤ n) (h2 : n ≤ 288) (hr : n ≤ 2 ^ r) (hl : ∀ i, i < r → 2 ^ i < n) : rn n = r := by
  obtain ⟨_, a, b⟩ := rn_ok h1 h2
  rcases Nat.lt_trichotomy (rn n) r with h | h | h
  · have := hl _ h; omega
  · exact h
  · have := b _ h; omega
/-- A move: the round, from, to. -/
abbrev Mv := Nat × Nat × Nat
/-- The moves of a round from a slot on. -/
def rd (n j i : Nat) : List Mv := (List.range' i (n - i)).map fun x => (j, x, x - 2 ^ j)
theorem rd_cons {n j i : Nat} (h : i < n) : rd n j i = (j, i, i - 2 ^ j) :: rd n j (i + 1) := by
  unfold rd
  rw [show n - i = (n - (i + 1)) + 1 by omega, List.range'_succ, List.map_cons]
theorem rd_nil {n j i : Nat} (h : n ≤ i) : rd n j i = [] := by unfold rd; rw [show n - i = 0 by omega]; rfl
theorem rd_len (n j i : Nat) : (rd n j i).length = n - i := by simp [rd]
/-- The moves of r rounds from the round j on. -/
def mvs (n : Nat) : Nat → Nat → List Mv
  | _, 0 => []
  | j, r + 1 => rd n j (2 ^ j) ++ mvs n (j + 1) r
/-- All moves. -/
def moves (n : Nat) : List Mv := mvs n 0 (rn n)
theorem mvs_len (n j r : Nat) (h : ∀ i, i < j + r → 2 ^ i < n) : (mvs n j r).length + 2 ^ (j + r) = r * n + 2 ^ j := by
  induction r generalizing j with
  | zero => simp [mvs]
  | succ r ih =>
    have h1 := ih (j + 1) (fun i hi => h i (by omega))
    have h2 := h j (by omega)
    rw [show j + (r + 1) = j + 1 + r by omega]
    show (rd n j (2 ^ j) ++ mvs n (j + 1) r).length + _ = _
    rw [List.length_append, rd_len, Nat.add_mul, Nat.one_mul]
    rw [Nat.pow_succ 2 j] at h1
    omega
theorem moves_len {n : Nat} (h1 : 1 ≤ n) (h2 : n ≤ 288) : (moves n).length + 2 ^ rn n = rn n * n + 1 := by
  have := mvs_len n 0 (rn n) (fun i hi => (rn_ok h1 h2).2.2 i (by omega))
  rwa [Nat.zero_add] at this
theorem moves_le {n : Nat} (h1 : 1 ≤ n) (h2 : n ≤ 288) : (moves n).length ≤ n * rn n ∧ n - 1 ≤ (moves n).length ∧ (moves n).length ≤ 2592 := by
  have h3 := moves_len h1 h2
  obtain ⟨a, b, c⟩ := rn_ok h1 h2
  have h4 := Nat.one_le_two_pow (n := rn n)
  have h5 : rn n * n = n * rn n := Nat.mul_comm _ _
  have h6 : n * rn n ≤ 288 * 9 := Nat.mul_le_mul h2 a
  refine ⟨by omega, ?_, by omega⟩
  unfold moves
  cases hr : rn n with
  | zero => rw [hr] at b; simp at b; omega
  | succ r =>
    show _ ≤ (rd n 0 (2 ^ 0) ++ mvs n 1 r).length
    rw [List.length_append, rd_len]
    omega
theorem mvs_mem {n j r : Nat} {m : Mv} (h : m ∈ mvs n j r) : m.1 < j + r ∧ 2 ^ m.1 ≤ m.2.1 ∧ m.2.1 < n ∧ m.2.2 = m.2.1 - 2 ^ m.1 := by
  induction r generalizing j with
  | zero => cases h
  | succ r ih =>
    rcases List.mem_append.1 (show m ∈ rd n j (2 ^ j) ++ mvs n (j + 1) r from h) with h | h
    · obtain ⟨x, hx, rfl⟩ := List.mem_map.1 h
      rw [List.mem_range'_1] at hx
      exact ⟨by show j < _; omega, hx.1, by show x < n; omega, rfl⟩
    · have := ih h
      exact ⟨by omega, this.2⟩
theorem moves_mem {n : Nat} {m : Mv} (h : m ∈ moves n) : m.1 < rn n ∧ 2 ^ m.1 ≤ m.2.1 ∧ m.2.1 < n ∧ m.2.2 = m.2.1 - 2 ^ m.1 := by
  have := mvs_mem h
  rwa [Nat.zero_add] at this
/-- A move as a value, and as cells. -/
def mvV (m : Mv) : Value := .agg #[.int .i64 m.1, .int .i64 m.2.1, .int .i64 m.2.2]
def mvC (l : List Mv) : List Value := l.flatMap fun m => [.int .i64 m.1, .int .i64 m.2.1, .int .i64 m.2.2]
theorem mvC_len (l : List Mv) : (mvC l).length = l.length * 3 := by
  induction l with
  | nil => rfl
  | cons m l ih => simp [mvC] at ih ⊢; omega
theorem mvC_snoc (l : List Mv) (m : Mv) : mvC (l ++ [m]) = mvC l ++ [.int .i64 m.1, .int .i64 m.2.1, .int .i64 m.2.2] := by simp [mvC]
theorem mvC_at (l : List Mv) (k : Nat) (h : k < l.length) : (mvC l)[3 * k]? = some (.int .i64 (l[k].1 : Int)) ∧ (mvC l)[3 * k + 1]? = some (.int .i64 (l[k].2.1 : Int)) ∧ (mvC l)[3 * k + 2]? = some (.int .i64 (l[k].2.2 : Int)) := by
  induction l generalizing k with
  | nil => simp at h
  | cons m l ih =>
    cases k with
    | zero => exact ⟨rfl, rfl, rfl⟩
    | succ k =>
      have := ih k (by simpa using h)
      rw [show mvC (m :: l) = [.int .i64 m.1, .int .i64 m.2.1, .int .i64 m.2.2] ++ mvC l from rfl]
      rw [List.getElem?_append_right (by simp; omega), List.getElem?_append_right (by simp; omega), List.getElem?_append_right (by simp; omega)]
      simp only [List.length_cons, List.length_nil, List.getElem_cons_succ]
      rw [show 3 * (k + 1) - (0 + 1 + 1 + 1) = 3 * k by omega, show 3 * (k + 1) + 1 - (0 + 1 + 1 + 1) = 3 * k + 1 by omega, show 3 * (k + 1) + 2 - (0 + 1 + 1 + 1) = 3 * k + 2 by omega]
      exact this
end Go.Proofs.Ytlefjlclhmapaaa
