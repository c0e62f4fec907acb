/-
  Lists of slots: their cells; dragnetref22.Same of equal ones.
-/
import Derived.Test.YtlefjlclhmapaaaEvs
import Derived.Maps.AppendAt
namespace Go.Proofs.Ytlefjlclhmapaaa
open Go.RowKit
set_option linter.unusedVariables false
set_option maxRecDepth 100000
/-- A slot: Valid, End, Rule. -/
abbrev Sl := BitVec 64 × BitVec 64 × BitVec 64
def slC (l : List Sl) : List Value := l.flatMap fun s => [.int .u64 (n64 s.1), .int .u64 (n64 s.2.1), .int .u64 (n64 s.2.2)]
def slV (s : Sl) : Value := .agg #[.int .u64 (n64 s.1), .int .u64 (n64 s.2.1), .int .u64 (n64 s.2.2)]
/-- The slot at a place. -/
def sl (l : List Sl) (k : Nat) : Sl := l.getD k (0#64, 0#64, 0#64)
theorem slC_len (l : List Sl) : (slC l).length = l.length * 3 := by
  induction l with
  | nil => rfl
  | cons m l ih => simp [slC] at ih ⊢; omega
theorem slC_append (l m : List Sl) : slC (l ++ m) = slC l ++ slC m := by simp [slC]
theorem slC_snoc (l : List Sl) (s : Sl) : slC (l ++ [s]) = slC l ++ [.int .u64 (n64 s.1), .int .u64 (n64 s.2.1), .int .u64 (n64 s.2.2)] := by simp [slC]
theorem slC_at (l : List Sl) (k : Nat) (h : k < l.length) : (slC l)[k * 3]? = some (.int .u64 (n64 (sl l k).1)) ∧ (slC l)[k * 3 + 1]? = some (.int .u64 (n64 (sl l k).2.1)) ∧ (slC l)[k * 3 + 2]? = some (.int .u64 (n64 (sl l k).2.2)) := by
  induction l generalizing k with
  | nil => simp at h
  | cons m l ih =>
    cases k with
    | zero => exact ⟨rfl, rfl, rfl⟩
    | succ k =>
      have := ih k (by simpa using h)
      have e : sl (m :: l) (k + 1) = sl l k := by simp [sl]
      rw [show slC (m :: l) = [.int .u64 (n64 m.1), .int .u64 (n64 m.2.1), .int .u64 (n64 m.2.2)] ++ slC l from rfl, e]
      rw [List.getElem?_append_right (by simp; omega), List.getElem?_append_right (by simp; omega), List.getElem?_append_right (by simp; omega)]
      simp only [List.length_cons, List.length_nil]
      rw [show (k + 1) * 3 - (0 + 1 + 1 + 1) = k * 3 by omega, show (k + 1) * 3 + 1 - (0 + 1 + 1 + 1) = k * 3 + 1 by omega, show (k + 1) * 3 + 2 - (0 + 1 + 1 + 1) = k * 3 + 2 by omega]
      exact this
theorem slC_set (l : List Sl) (k : Nat) (s : Sl) : (((slC l).set (k * 3) (.int .u64 (n64 s.1))).set (k * 3 + 1) (.int .u64 (n64 s.2.1))).set (k * 3 + 2) (.int .u64 (n64 s.2.2)) = slC (l.set k s) := by
  induction l generalizing k with
  | nil => rfl
  | cons m l ih =>
    cases k with
    | zero => rfl
    | succ k =>
      have := ih k
      rw [show (k + 1) * 3 = k * 3 + 3 by omega, List.set_cons_succ, show slC (m :: l) = .int .u64 (n64 m.1) :: .int .u64 (n64 m.2.1) :: .int .u64 (n64 m.2.2) :: slC l from rfl]
      rw [show slC (m :: l.set k s) = .int .u64 (n64 m.1) :: .int .u64 (n64 m.2.1) :: .int .u64 (n64 m.2.2) :: slC (l.set k s) from rfl, ← this]
      rw [show k * 3 + 3 + 1 = k * 3 + 1 + 1 + 1 + 1 by omega, show k * 3 + 3 + 2 = k * 3 + 2 + 1 + 1 + 1 by omega, show k * 3 + 3 = k * 3 + 1 + 1 + 1 by omega]
      simp only [List.set_cons_succ]
theorem slC_one (l : List Sl) : ∀ u ∈ slC l, u.oneCell' = true := by
  intro u hu
  unfold slC at hu
  obtain ⟨s, _, hs⟩ := List.mem_flatMap.1 hu
  simp at hs
  rcases hs with rfl | rfl | rfl <;> rfl
theorem slC_replicate (n : Nat) : slC (List.replicate n (0#64, 0#64, 0#64)) = List.replicate (n * 3) (.int .u64 0) := by
  induction n with
  | zero => rfl
  | succ n ih =>
    rw [List.replicate_succ, show slC ((0#64, 0#64, 0#64) :: List.replicate n (0#64, 0#64, 0#64)) = [.int .u64 0, .int .u64 0, .int .u64 0] ++ slC (List.replicate n (0#64, 0#64, 0#64)) from rfl, ih, show (n + 1) * 3 = 3 + n * 3 by omega, ← List.replicate_append_replicate]
    rfl
theorem Try.infoSl : (Try.prog.info? 41).map (fun i => (i.zero, i.size, i.bytes)) = some (some (.agg #[.int .u64 0, .int .u64 0, .int .u64 0]), 3, 24) := by kernel_rfl
/-- The cells of a list that is read. -/
theorem Rd.slot {w : World} {F : Nat → Prop} {b o n c : Nat} {L : List Sl} (hc : ∀ j u, (slC L)[j]? = some u → w.cell? ⟨b, o + j, none⟩ = some u) (k : Nat) (hk : k < L.length) :
    w.cell? ⟨b, o + k * 3, none⟩ = some (.int .u64 (n64 (sl L k).1)) ∧ w.cell? ⟨b, o + k * 3 + 1, none⟩ = some (.int .u64 (n64 (sl L k).2.1)) ∧ w.cell? ⟨b, o + k * 3 + 2, none⟩ = some (.int .u64 (n64 (sl L k).2.2)) :=
  ⟨hc _ _ (slC_at L k hk).1, hc _ _ (slC_at L k hk).2.1, hc _ _ (slC_at L k hk).2.2⟩
set_option maxHeartbeats 400000 in
theorem sameSl_some (w : World) (b o c b2 o2 c2 n : Nat) (A : List Sl) (ha : A.length = n) (hn : n ≤ maxLen)
    (hca : ∀ j u, (slC A)[j]? = some u → w.cell? ⟨b, o + j, none⟩ = some u) (hcb : ∀ j u, (slC A)[j]? = some u → w.cell? ⟨b2, o2 + j, none⟩ = some u) :
    Calls Try.prog 19 #[.slice (some ⟨b, o, none⟩) n c, .slice (some ⟨b2, o2, none⟩) n c2] w (BoolNew true w) := by
  have HA := Lib.hid ha
  have HCA := Lib.hid hca
  have HCB := Lib.hid hcb
  clear ha hca hcb
  unfold maxLen at hn
  go_enter Try.func19, Try.ntmps19
  go_wp2
  go_loopw [5] (fun i wr => ∃ k : Nat, k ≤ n ∧ i = .int .i64 k ∧ Off Nob w wr ∧ (∀ ad, wr.cell? ad = w.cell? ad)) (fun i _ => n - (intOf i).toNat)
  case atStart => exact ⟨0, Nat.zero_le _, rfl, Off.refl _ _, fun _ => rfl⟩
  case round =>
    obtain ⟨k, hk, rfl, ho, hcl⟩ := hrel
    have HO := Lib.hid ho
    have HX := Lib.hid hcl
    by_cases hlt : k < n
    · obtain ⟨hc1, hc2, hc3⟩ := Rd.slot (F := Nob) (n := n) (c := c) HCA.out k (by have := HA.out; omega)
      obtain ⟨hd1, hd2, hd3⟩ := Rd.slot (F := Nob) (n := n) (c := c) HCB.out k (by have := HA.out; omega)
      rw [← hcl] at hc1 hc2 hc3 hd1 hd2 hd3
      clear ho hcl
      revert hc1 hc2 hc3 hd1 hd2 hd3
      generalize n64 (sl A k).1 = a1
      generalize n64 (sl A k).2.1 = a2
      generalize n64 (sl A k).2.2 = a3
      intro hc1 hc2 hc3 hd1 hd2 hd3
      go_wp2
      go_quiet (fail)
      go_wp2
      go_roundw
      case rel => exact ⟨k + 1, by omega, by go_num, HO.out.drewN _, fun ad => HX.out ad⟩
      case measure => simp [intOf]; omega
    · clear ho hcl
      go_wp2
      go_ret
      exact ⟨rfl, HO.out⟩
theorem sameSl_zero (w : World) (X Y : Option Addr) (c d : Nat) :
    Calls Try.prog 19 #[.slice X 0 c, .slice Y 0 d] w (BoolNew true w) := by
  go_enter Try.func19, Try.ntmps19
  go_wp2
  refine wp_loop_rounds 1 ?_
  rw [rounds_succ]
  go_wp2_with fail
  go_ret
  exact ⟨rfl, Off.refl _ _⟩
theorem sameSl_eq {w : World} {F G : Nat → Prop} {v u : Value} {n : Nat} {A : List Sl} (ha : Rd w F 3 v n (slC A)) (hb : Rd w G 3 u n (slC A)) :
    Calls Try.prog 19 #[v, u] w (BoolNew true w) := by
  obtain ⟨X, c, rfl, hm1, hl1, hc1⟩ := ha
  obtain ⟨Y, d, rfl, hm2, hl2, hc2⟩ := hb
  rw [slC_len] at hl1
  rcases Nat.eq_zero_or_pos n with h0 | h0
  · subst h0
    exact sameSl_zero w X Y c d
  · obtain ⟨b, o, rfl, _, hb, hx⟩ := hc1 h0
    obtain ⟨b2, o2, rfl, _, hb2, hx2⟩ := hc2 h0
    exact sameSl_some w b o c b2 o2 d n A (by omega) hm1 hx hx2
end Go.Proofs.Ytlefjlclhmapaaa
