import Derived.Test.YtedbafgejladiaaNetPlan
import Derived.IntWalk
/-
  compact: Steps, part.meets, slices.IndexFunc and slices.ContainsFunc over parts.
-/
namespace Go.Proofs.Ytedbafgejladiaa
open Go.RowKit
set_option linter.unusedVariables false
set_option maxRecDepth 100000
/-- How many steps Compact makes. -/
def cpN (a : Nat) : Nat := 8 * a + 4 + 16 * (moves a).length
theorem cpN_le {a : Nat} (h1 : 1 ≤ a) (h2 : a ≤ 288) : cpN a ≤ 50000 := by
  have := (moves_le h1 h2).2.2
  unfold cpN
  omega
theorem csteps_bad (k n : Int) (h : k < 1 ∨ 32 < k ∨ n < 1 ∨ 256 < n) (w : World) : Calls Try.prog 13 #[.int .i64 k, .int .i64 n] w fun e w' => e = .returned (.tuple #[.int .i64 0, .int .i64 7]) ∧ w = w' := by
  have t : decide (k < 1) = true ∨ (decide (k < 1) = false ∧ decide (32 < k) = true) ∨ (decide (k < 1) = false ∧ decide (32 < k) = false ∧ decide (n < 1) = true) ∨ (decide (k < 1) = false ∧ decide (32 < k) = false ∧ decide (n < 1) = false ∧ decide (256 < n) = true) := by
    simp only [decide_eq_true_eq, decide_eq_false_iff_not]; omega
  clear h
  rcases t with t1 | ⟨t1, t2⟩ | ⟨t1, t2, t3⟩ | ⟨t1, t2, t3, t4⟩
  all_goals
    go_enter Try.func13, Try.ntmps13
    go_wp2_with fail
    go_ret2
    exact ⟨rfl, rfl⟩
theorem csteps_ok (k n : Nat) (h1 : 1 ≤ k) (h2 : k ≤ 32) (h3 : 1 ≤ n) (h4 : n ≤ 256) (w : World) : Calls Try.prog 13 #[.int .i64 k, .int .i64 n] w fun e w' => e = .returned (.tuple #[.int .i64 (cpN (k + n) : Nat), .int .i64 0]) ∧ w = w' := by
  have t1 : decide ((k : Int) < 1) = false := decide_eq_false (by omega)
  have t2 : decide (32 < (k : Int)) = false := decide_eq_false (by omega)
  have t3 : decide ((n : Int) < 1) = false := decide_eq_false (by omega)
  have t4 : decide (256 < (n : Int)) = false := decide_eq_false (by omega)
  have hm := (moves_le (n := k + n) (by omega) (by omega)).2.2
  obtain ⟨M, hM⟩ : ∃ M, 16 * (moves (k + n)).length = M := ⟨_, rfl⟩
  have HS : Hid (∀ w, Calls Try.prog 46 #[.int .i64 ((k : Int) + (n : Int))] w fun e w' => e = .returned (.tuple #[.int .i64 (M : Int), .int .i64 0]) ∧ w = w') := Lib.hid (fun w => by
    have := nsteps_ok (k + n) (by omega) (by omega) w
    rw [hM] at this
    rwa [show ((k + n : Nat) : Int) = (k : Int) + (n : Int) by push_cast; rfl] at this)
  have HC : Hid ((cpN (k + n) : Int) = 8 * ((k : Int) + (n : Int)) + 4 + (M : Int)) := Lib.hid (by unfold cpN; rw [hM]; push_cast; rfl)
  have hM2 : M ≤ 100000 := by omega
  clear hM hm
  go_enter Try.func13, Try.ntmps13
  go_wp2_with fail
  refine (HS.out _).mono ?_
  rintro e w' ⟨rfl, rfl⟩
  go_wp2_with fail
  go_ret2
  exact ⟨by rw [HC.out]; rfl, rfl⟩
/-- Have two parts a cell in common? -/
def meB (a m b n : Int) : Bool := decide (a < b + n) && decide (b < a + m)
theorem meets_ok (a m b n : Int) (h1 : 0 ≤ a) (h2 : 0 ≤ m) (h3 : a + m ≤ 65536) (h4 : 0 ≤ b) (h5 : 0 ≤ n) (h6 : b + n ≤ 65536) (w : World) : Calls Try.prog 63 #[.agg #[.int .i64 a, .int .i64 m], .agg #[.int .i64 b, .int .i64 n]] w fun e w' => e = .returned (.bool (meB a m b n)) ∧ Off Nob w w' := by
  go_enter Try.func63, Try.ntmps63
  go_wp2_with fail
  · rename_i h
    go_ret
    exact ⟨ret_bool (by unfold meB; rw [decide_eq_true h]; rfl), Off.alloc (Off.alloc (Off.refl _ _) _) _⟩
  · rename_i h
    go_ret
    exact ⟨ret_bool (by unfold meB; rw [decide_eq_false (by omega)]; rfl), Off.alloc (Off.alloc (Off.refl _ _) _) _⟩
/-- Parts: where they begin, how long they are. -/
abbrev Prt := Int × Int
def ptC (L : List Prt) : List Value := L.flatMap fun q => [.int .i64 q.1, .int .i64 q.2]
def pt (L : List Prt) (k : Nat) : Prt := L.getD k (0, 0)
def PtOk (p : Prt) : Prop := 0 ≤ p.1 ∧ 0 ≤ p.2 ∧ p.1 + p.2 ≤ 65536
theorem ptC_at (L : List Prt) (k : Nat) (h : k < L.length) : (ptC L)[k * 2]? = some (.int .i64 (pt L k).1) ∧ (ptC L)[k * 2 + 1]? = some (.int .i64 (pt L k).2) := by
  induction L generalizing k with
  | nil => simp at h
  | cons a l ih =>
    cases k with
    | zero => exact ⟨rfl, rfl⟩
    | succ k =>
      have := ih k (by simpa using h)
      rw [show (k + 1) * 2 = k * 2 + 2 by omega]
      exact this
/-- Does one of the first k parts meet? -/
def anyM (p : Prt) (L : List Prt) (k : Nat) : Bool := (L.take k).any fun q => meB p.1 p.2 q.1 q.2
theorem anyM_zero (p : Prt) (L : List Prt) : anyM p L 0 = false := rfl
theorem anyM_succ (p : Prt) (L : List Prt) (k : Nat) (h : k < L.length) : anyM p L (k + 1) = (anyM p L k || meB p.1 p.2 (pt L k).1 (pt L k).2) := by
  unfold anyM
  rw [List.take_succ_eq_append_getElem h, List.any_append]
  simp [pt, h]
theorem anyM_yes (p : Prt) (L : List Prt) (k n : Nat) (hk : k < n) (hn : n ≤ L.length) (h : meB p.1 p.2 (pt L k).1 (pt L k).2 = true) : anyM p L n = true := by
  unfold anyM
  rw [List.any_eq_true]
  have hk2 : k < (L.take n).length := by rw [List.length_take]; omega
  refine ⟨(L.take n)[k], List.getElem_mem hk2, ?_⟩
  rw [List.getElem_take]
  have : pt L k = L[k]'(by omega) := by simp [pt, show k < L.length by omega]
  rw [← this]
  exact h
/-- slices.IndexFunc over the first n parts of a row, with part.meets. -/
theorem index_meets (p : Prt) (hp : PtOk p) (L : List Prt) (hL : ∀ k, k < L.length → PtOk (pt L k)) (n : Nat) (hn : n ≤ L.length) (g c : Nat) (w : World) (hg : g < w.heap.size) (hc : ∀ j u, (ptC L)[j]? = some u → w.cell? ⟨g, j, none⟩ = some u) (hm : n ≤ 1000) :
    Calls Try.prog 87 #[.slice (some ⟨g, 0, none⟩) n c, .func (.func 63) #[.agg #[.int .i64 p.1, .int .i64 p.2]] #[]] w fun e w' => ∃ z : Int, e = .returned (.int .i64 z) ∧ decide (0 ≤ z) = anyM p L n ∧ Off Nob w w' := by
  have HC := Lib.hid hc
  have HL := Lib.hid hL
  obtain ⟨a, m⟩ := p
  have HP := Lib.hid hp
  clear hc hL hp
  go_enter Try.func87, Try.ntmps87
  go_wp2_with fail
  go_loopw [8] (fun i wr => ∃ j : Nat, j ≤ n ∧ i = .int .i64 (j : Int) ∧ anyM (a, m) L j = false ∧ Off Nob w wr) (fun i _ => n - (intOf i).toNat)
  case atStart => exact ⟨0, Nat.zero_le _, rfl, rfl, Off.refl _ _⟩
  case round =>
    obtain ⟨j, hj, rfl, hany, hoff⟩ := hrel
    have HO := Lib.hid hoff
    have HA := Lib.hid hany
    by_cases hlt : j < n
    · obtain ⟨e1, e2⟩ := ptC_at L j (by omega)
      have d1 := (hoff.cell_old hg _).trans (HC.out _ _ e1)
      have d2 := (hoff.cell_old hg _).trans (HC.out _ _ e2)
      have HJ := Lib.hid (HL.out j (by omega))
      have HS := Lib.hid (anyM_succ (a, m) L j (by omega))
      have HY := Lib.hid (anyM_yes (a, m) L j n hlt hn)
      obtain ⟨q, hq⟩ : ∃ q, pt L j = q := ⟨_, rfl⟩
      rw [hq] at d1 d2 HJ HS HY
      obtain ⟨b, k⟩ := q
      have HM := Lib.hid (fun w => meets_ok a m b k HP.out.1 HP.out.2.1 HP.out.2.2 HJ.out.1 HJ.out.2.1 HJ.out.2.2 w)
      clear hoff hany e1 e2 hq
      cases hb : meB a m b k
      · rw [hb] at HM
        go_wp2_with fail
        refine (HM.out _).mono ?_
        rintro e w1 ⟨rfl, o1⟩
        have O1 := Lib.hid (HO.out.also o1)
        clear o1
        go_wp2_with fail
        go_roundw
        case rel => exact ⟨j + 1, hlt, by go_num, by rw [HS.out, HA.out, hb]; rfl, O1.out⟩
        case measure => simp [intOf]; omega
      · rw [hb] at HM
        go_wp2_with fail
        refine (HM.out _).mono ?_
        rintro e w1 ⟨rfl, o1⟩
        have O1 := Lib.hid (HO.out.also o1)
        clear o1
        go_wp2_with fail
        go_ret
        exact ⟨(j : Int), rfl, by rw [HY.out hb, decide_eq_true (by omega)], O1.out⟩
    · obtain rfl : j = n := by omega
      clear hoff hany
      go_wp2_with fail
      go_ret
      exact ⟨-1, rfl, by rw [HA.out]; rfl, HO.out⟩
theorem contains_meets (p : Prt) (hp : PtOk p) (L : List Prt) (hL : ∀ k, k < L.length → PtOk (pt L k)) (n : Nat) (hn : n ≤ L.length) (g c : Nat) (w : World) (hg : g < w.heap.size) (hc : ∀ j u, (ptC L)[j]? = some u → w.cell? ⟨g, j, none⟩ = some u) (hm : n ≤ 1000) :
    Calls Try.prog 62 #[.slice (some ⟨g, 0, none⟩) n c, .func (.func 63) #[.agg #[.int .i64 p.1, .int .i64 p.2]] #[]] w fun e w' => e = .returned (.bool (anyM p L n)) ∧ Off Nob w w' := by
  have HI := Lib.hid (index_meets p hp L hL n hn g c w hg hc hm)
  clear hp hL hc
  go_enter Try.func62, Try.ntmps62
  go_wp2_with fail
  refine HI.out.mono ?_
  rintro e w1 ⟨z, rfl, hz, o1⟩
  have O1 := Lib.hid o1
  have HZ := Lib.hid hz
  clear o1 hz
  go_wp2_with fail
  go_ret
  exact ⟨by rw [← HZ.out]; rfl, O1.out⟩
end Go.Proofs.Ytedbafgejladiaa

