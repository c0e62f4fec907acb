/-
  What network.Apply computes, in plain Lean; copies of lists of slots and of numbers.
-/
import Derived.Test.YtlefjlclhmapaaaNetPlan
import Derived.Test.YtlefjlclhmapaaaSlots
namespace Go.Proofs.Ytlefjlclhmapaaa
open Go.RowKit
set_option linter.unusedVariables false
set_option maxRecDepth 100000
/-- One move of slots by their distances. -/
def apM (s : List Sl × List Nat) (m : Mv) : List Sl × List Nat :=
  if (s.2.getD m.2.1 0) / 2 ^ m.1 % 2 = 1 then ((s.1.set m.2.2 (sl s.1 m.2.1)).set m.2.1 (0#64, 0#64, 0#64), (s.2.set m.2.2 (s.2.getD m.2.1 0)).set m.2.1 0) else s
/-- All moves. -/
def apL (l : List Sl) (far : List Nat) (ms : List Mv) : List Sl × List Nat := ms.foldl apM (l, far)
theorem apM_len (s : List Sl × List Nat) (m : Mv) : (apM s m).1.length = s.1.length ∧ (apM s m).2.length = s.2.length := by
  unfold apM
  split
  · simp
  · exact ⟨rfl, rfl⟩
theorem apL_snoc (l : List Sl) (far : List Nat) (ms : List Mv) (m : Mv) : apL l far (ms ++ [m]) = apM (apL l far ms) m := by unfold apL; rw [List.foldl_append]; rfl
theorem apL_len (l : List Sl) (far : List Nat) (ms : List Mv) : (apL l far ms).1.length = l.length ∧ (apL l far ms).2.length = far.length := by
  have : ∀ (s : List Sl × List Nat), (ms.foldl apM s).1.length = s.1.length ∧ (ms.foldl apM s).2.length = s.2.length := by
    induction ms with
    | nil => exact fun s => ⟨rfl, rfl⟩
    | cons m ms ih =>
      intro s
      obtain ⟨h1, h2⟩ := ih (apM s m)
      obtain ⟨h3, h4⟩ := apM_len s m
      exact ⟨h1.trans h3, h2.trans h4⟩
  exact this (l, far)
theorem getD_set (l : List Nat) (i j x : Nat) : (l.set i x).getD j 0 = if i = j ∧ i < l.length then x else l.getD j 0 := by
  simp only [List.getD, List.getElem?_set]
  by_cases h : i = j
  · subst h
    by_cases h2 : i < l.length
    · simp [h2]
    · simp [h2]
  · simp [h]
theorem apM_bd (s : List Sl × List Nat) (m : Mv) (b : Nat) (h : ∀ i, s.2.getD i 0 ≤ b) : ∀ i, (apM s m).2.getD i 0 ≤ b := by
  intro i
  unfold apM
  split
  · rw [getD_set]
    split
    · exact Nat.zero_le _
    · rw [getD_set]
      split
      · exact h _
      · exact h _
  · exact h i
theorem apL_bd (l : List Sl) (far : List Nat) (ms : List Mv) (b : Nat) (h : ∀ i, far.getD i 0 ≤ b) : ∀ i, (apL l far ms).2.getD i 0 ≤ b := by
  have : ∀ (s : List Sl × List Nat), (∀ i, s.2.getD i 0 ≤ b) → ∀ i, (ms.foldl apM s).2.getD i 0 ≤ b := by
    induction ms with
    | nil => exact fun s hs => hs
    | cons m ms ih => exact fun s hs => ih _ (apM_bd s m b hs)
  exact this (l, far) h
theorem bits_and1 (q : Nat) (h : q < 9223372036854775808) : bits .and .i64 (q : Int) 1 = ((q % 2 : Nat) : Int) := by
  show IntKind.i64.wrap ((BitVec.ofInt 64 (q : Int) &&& BitVec.ofInt 64 1).toNat : Int) = _
  have e1 : (BitVec.ofInt 64 (q : Int) &&& BitVec.ofInt 64 1).toNat = q % 2 := by
    rw [BitVec.ofInt_natCast, BitVec.toNat_and, BitVec.toNat_ofNat, Nat.mod_eq_of_lt (by omega)]
    exact Nat.and_one_is_mod q
  rw [e1]
  unfold IntKind.wrap
  simp [IntKind.bits]
  omega
/-- Numbers as values. -/
def inC (l : List Nat) : List Value := l.map fun d : Nat => .int .i64 (d : Int)
theorem inC_len (l : List Nat) : (inC l).length = l.length := by simp [inC]
theorem inC_at (l : List Nat) (k : Nat) (h : k < l.length) : (inC l)[k]? = some (.int .i64 (l.getD k 0 : Nat)) := by simp [inC, h]
theorem inC_set (l : List Nat) (k d : Nat) : (inC l).set k (.int .i64 (d : Int)) = inC (l.set k d) := by simp [inC, List.map_set]
/-- A new row. -/
def NewR (w : World) (e : TypeId) (size n : Nat) (xs : List Value) (en : Ending) (w' : World) : Prop := ∃ g cap, en = .returned (.slice (some ⟨g, 0, none⟩) n cap) ∧ n ≤ cap ∧ w'.ownsRow w.heap.size e size (.slice (some ⟨g, 0, none⟩) n cap) n xs ∧ Off Nob w w'
theorem NewR.of {w w' : World} {e : TypeId} {size n : Nat} {xs : List Value} {v : Value} (hn : 1 ≤ n) (h : w'.ownsRow w.heap.size e size v n xs) (o : Off Nob w w') : NewR w e size n xs (.returned v) w' := by
  rcases id h.2 with ⟨rfl, h0⟩ | ⟨g, cap, cur, rfl, h1, h2, h3, rest⟩
  · omega
  · exact ⟨g, cap, rfl, h3, h, o⟩
theorem Try.infoI : (Try.prog.info? 3).map (fun i => (i.zero, i.size, i.bytes)) = some (some (.int .i64 0), 1, 8) := by kernel_rfl
set_option maxHeartbeats 400000 in
theorem cloneSl_ok (w : World) (b o n c : Nat) (C : List Sl) (hn : C.length = n) (hn0 : 1 ≤ n) (hn1 : n ≤ 65536) (hb : b < w.heap.size)
    (hc : ∀ j u, (slC C)[j]? = some u → w.cell? ⟨b, o + j, none⟩ = some u) :
    Calls Try.prog 39 #[.slice (some ⟨b, o, none⟩) n c] w (NewR w 41 3 n (slC C)) := by
  obtain ⟨i0, hi, hz0, hz1, hz2⟩ := info_parts Try.infoSl
  have HC := Lib.hid hc
  have HL := Lib.hid hn
  clear hc hn
  have hq : ∀ w : World, (binOp .eql 33 (.slice (some ⟨b, o, none⟩) n c) (.slice none 0 0)).run Try.prog w = .ok (.bool false) w := fun _ => by kernel_rfl
  go_enter Try.func39, Try.ntmps39
  go_wp2_with (at_builtin; refine wpList_append_own_at _ rfl _ _ 33 rfl w.heap.size 41 i0 (.agg #[.int .u64 0, .int .u64 0, .int .u64 0]) 3 24 Try.underlying33 hi hz0 hz1 hz2 rfl (by decide) (.slice (some ⟨w.heap.size, 0, none⟩) 0 0) 0 [] rfl ?c0 ⟨b, o, none⟩ n c (slC C) rfl ?c6 ?c1 ?c2 ?c3 ?c4 ?c5 ?_)
  case c0 => exact World.ownsRow_made w #[] 0 (Nat.le_refl _) (Nat.zero_le _) rfl
  case c6 => rw [slC_len, HL.out]
  case c1 => intro j u hu; rw [add_addr, World.cell?_alloc_lt _ _ _ hb]; exact HC.out j u hu
  case c2 => exact slC_one C
  case c3 => unfold maxLen; omega
  case c4 => omega
  case c5 => simp
  intro v' w1 hown' hgrow hnil hat
  have HR : Hid (w1.ownsRow w.heap.size 41 3 v' n (slC C)) := Lib.hid hown'
  have HO : Hid (Off Nob w w1) := Off.grown (Off.alloc (Off.refl _ _) _) hgrow (fun k hk => by simp [Value.ownBlock] at hk; right; omega)
  clear hown' hgrow hnil hat
  go_wp2
  go_ret
  exact NewR.of hn0 HR.out HO.out
set_option maxHeartbeats 400000 in
theorem cloneI_ok (w : World) (b o n c : Nat) (C : List Nat) (hn : C.length = n) (hn0 : 1 ≤ n) (hn1 : n ≤ 65536) (hb : b < w.heap.size)
    (hc : ∀ j u, (inC C)[j]? = some u → w.cell? ⟨b, o + j, none⟩ = some u) :
    Calls Try.prog 40 #[.slice (some ⟨b, o, none⟩) n c] w (NewR w 3 1 n (inC C)) := by
  obtain ⟨i0, hi, hz0, hz1, hz2⟩ := info_parts Try.infoI
  have HC := Lib.hid hc
  have HL := Lib.hid hn
  clear hc hn
  have hq : ∀ w : World, (binOp .eql 34 (.slice (some ⟨b, o, none⟩) n c) (.slice none 0 0)).run Try.prog w = .ok (.bool false) w := fun _ => by kernel_rfl
  go_enter Try.func40, Try.ntmps40
  go_wp2_with (at_builtin; refine wpList_append_own_at _ rfl _ _ 34 rfl w.heap.size 3 i0 (.int .i64 0) 1 8 Try.underlying34 hi hz0 hz1 hz2 rfl (by decide) (.slice (some ⟨w.heap.size, 0, none⟩) 0 0) 0 [] rfl ?c0 ⟨b, o, none⟩ n c (inC C) rfl ?c6 ?c1 ?c2 ?c3 ?c4 ?c5 ?_)
  case c0 => exact World.ownsRow_made w #[] 0 (Nat.le_refl _) (Nat.zero_le _) rfl
  case c6 => rw [inC_len, HL.out, Nat.mul_one]
  case c1 => intro j u hu; rw [add_addr, World.cell?_alloc_lt _ _ _ hb]; exact HC.out j u hu
  case c2 => intro u hu; simp [inC] at hu; obtain ⟨x, _, rfl⟩ := hu; rfl
  case c3 => unfold maxLen; omega
  case c4 => omega
  case c5 => simp
  intro v' w1 hown' hgrow hnil hat
  have HR : Hid (w1.ownsRow w.heap.size 3 1 v' n (inC C)) := Lib.hid hown'
  have HO : Hid (Off Nob w w1) := Off.grown (Off.alloc (Off.refl _ _) _) hgrow (fun k hk => by simp [Value.ownBlock] at hk; right; omega)
  clear hown' hgrow hnil hat
  go_wp2
  go_ret
  exact NewR.of hn0 HR.out HO.out
end Go.Proofs.Ytlefjlclhmapaaa
