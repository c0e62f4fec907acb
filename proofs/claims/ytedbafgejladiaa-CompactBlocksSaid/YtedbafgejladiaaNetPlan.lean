import Derived.Test.YtedbafgejladiaaNetMoves
import Derived.Test.YtedbafgejladiaaBitsLen
import Derived.Test.YtedbafgejladiaaEff
import Derived.Maps.OwnIn
import Derived.Maps.AppendAt
import Derived.Deep.MidRow
/-
  network.Rounds, Steps, Plan.
-/
namespace Go.Proofs.Ytedbafgejladiaa
open Go.RowKit Go.Shelf
set_option linter.unusedVariables false
set_option maxRecDepth 100000
theorem ret_fst {a b : Int} {v : Value} (h : a = b) : Ending.returned (.tuple #[.int .i64 a, v]) = .returned (.tuple #[.int .i64 b, v]) := by rw [h]
theorem nrounds_ok (n : Nat) (h1 : 1 ≤ n) (h2 : n ≤ 288) (w : World) : Calls Try.prog 82 #[.int .i64 n] w fun e w' => e = .returned (.tuple #[.int .i64 (rn n), .int .i64 0]) ∧ w = w' := by
  have d1 : decide ((n : Int) < 1) = false := decide_eq_false (by omega)
  have d2 : decide ((288 : Int) < (n : Int)) = false := decide_eq_false (by omega)
  have HB := Lib.hid (bits_Len ((n : Int) - 1) w (by omega) (by omega))
  have hr : ((n : Int) - 1).toNat = n - 1 := by omega
  rw [hr] at HB
  clear hr
  go_enter Try.func82, Try.ntmps82
  go_wp2_with fail
  refine HB.out.mono ?_
  rintro e w' ⟨rfl, rfl⟩
  go_wp2_with fail
  go_ret2
  exact ⟨rfl, rfl⟩
theorem nrounds_bad (n : Int) (h : n < 1 ∨ 288 < n) (w : World) : Calls Try.prog 82 #[.int .i64 n] w fun e w' => e = .returned (.tuple #[.int .i64 0, .int .i64 7]) ∧ w = w' := by
  by_cases h1 : n < 1
  · have d1 : decide (n < 1) = true := decide_eq_true h1
    clear h
    go_enter Try.func82, Try.ntmps82
    go_wp2_with fail
    go_ret2
    exact ⟨rfl, rfl⟩
  · have d1 : decide (n < 1) = false := decide_eq_false h1
    have d2 : decide (288 < n) = true := decide_eq_true (by omega)
    clear h
    go_enter Try.func82, Try.ntmps82
    go_wp2_with fail
    go_ret2
    exact ⟨rfl, rfl⟩
theorem nsteps_bad (n : Int) (h : n < 1 ∨ 288 < n) (w : World) : Calls Try.prog 46 #[.int .i64 n] w fun e w' => e = .returned (.tuple #[.int .i64 0, .int .i64 7]) ∧ w = w' := by
  have HR := Lib.hid (nrounds_bad n h w)
  clear h
  go_enter Try.func46, Try.ntmps46
  go_wp2_with fail
  refine HR.out.mono ?_
  rintro e w' ⟨rfl, rfl⟩
  go_wp2_with fail
  go_ret2
  exact ⟨rfl, rfl⟩
set_option maxHeartbeats 2000000 in
theorem nsteps_ok (n : Nat) (h1 : 1 ≤ n) (h2 : n ≤ 288) (w : World) : Calls Try.prog 46 #[.int .i64 n] w fun e w' => e = .returned (.tuple #[.int .i64 ((16 * (moves n).length : Nat) : Int), .int .i64 0]) ∧ w = w' := by
  have HR := Lib.hid (nrounds_ok n h1 h2 w)
  have hl := moves_len h1 h2
  obtain ⟨L, hL⟩ : ∃ L, (moves n).length = L := ⟨_, rfl⟩
  have hr9 := (rn_ok h1 h2).1
  obtain ⟨r, hr⟩ : ∃ r, rn n = r := ⟨_, rfl⟩
  rw [hL, hr] at hl
  rw [hr] at HR hr9
  rw [hL]
  clear hL hr
  have hc : r = 0 ∨ r = 1 ∨ r = 2 ∨ r = 3 ∨ r = 4 ∨ r = 5 ∨ r = 6 ∨ r = 7 ∨ r = 8 ∨ r = 9 := by omega
  have HL := Lib.hid hl
  clear hl hr9
  rcases hc with rfl | rfl | rfl | rfl | rfl | rfl | rfl | rfl | rfl | rfl
  all_goals
    go_enter Try.func46, Try.ntmps46
    go_wp2_with fail
    refine HR.out.mono ?_
    rintro e w' ⟨rfl, rfl⟩
    go_wp2_with fail
    go_ret2
    exact ⟨ret_fst (by have := HL.out; omega), rfl⟩
/-- A new list of moves. -/
def NewM (w : World) (L : List Mv) (e : Ending) (w' : World) : Prop := ∃ v, e = .returned v ∧ w'.ownsRow w.heap.size 145 3 v L.length (mvC L) ∧ Off Nob w w'
theorem blk_own {β : Type} {B : Nat} (s : Nat) (t : TypeId) (cs : Array Value) (q : Prop) : OwnFrom B (fun (_ : β) W => q ∧ Blk W s t cs) := fun x W W' row h hg hr =>
  ⟨h.1, h.2.to (turn_same hg (fun r e => (hr r e).2) h.2 rfl)⟩
theorem Try.infoMv : (Try.prog.info? 145).map (fun i => (i.zero, i.size, i.bytes)) = some (some (.agg #[.int .i64 0, .int .i64 0, .int .i64 0]), 3, 24) := by kernel_rfl
theorem cell_three_new (w : World) (x y z : Value) (t : TypeId) : ∀ j u, [x, y, z][j]? = some u → (w.alloc (.cells #[x, y, z] t)).cell? ((⟨w.heap.size, 0, none⟩ : Addr).add j) = some u := by
  intro j u hu
  rw [add_addr, Nat.zero_add, World.cell?_alloc_new]
  simpa using hu
section
attribute [local go_sem] Oper.semAt_some
end
/-- What Plan does. -/
def NewM2 (w : World) (L : List Mv) (e : Ending) (w' : World) : Prop := ∃ v, e = .returned (.tuple #[v, .int .i64 0]) ∧ w'.ownsRow w.heap.size 145 3 v L.length (mvC L) ∧ Off Nob w w'
end Go.Proofs.Ytedbafgejladiaa

