/-
  [5]api.Errno: equal to itself.
-/
import Derived.Test.YtoplnkpjepejkaaMasks
import Derived.Test.YtoplnkpjepejkaaArena
import Derived.ChangeKeysEq
namespace Go.Proofs.Ytoplnkpjepejkaa
open Go.RowKit
set_option maxRecDepth 100000
theorem five_guard : Try.prog.eqGuardType Try.prog.depth 51 = false := by kernel_rfl
theorem five_cells : Try.prog.cellsOf 37 = 1 := by kernel_rfl
theorem Try.infoErrno : (Try.prog.info? 37).map (fun i => (i.zero, i.size, i.bytes)) = some (some (.int .i64 0), 1, 8) := by kernel_rfl
theorem five_eq (w : World) (e1 e2 e3 e4 e5 : Int) : (Op.equalIn 10000 51 (.agg #[.int .i64 e1, .int .i64 e2, .int .i64 e3, .int .i64 e4, .int .i64 e5]) (.agg #[.int .i64 e1, .int .i64 e2, .int .i64 e3, .int .i64 e4, .int .i64 e5])).run Try.prog w = .ok true w := by
  obtain ⟨i0, hi, hz0, hz1, hz2⟩ := info_parts Try.infoErrno
  rw [show (10000 : Nat) = 9999 + 1 from rfl, run_equalIn_array w 9999 _ _ Try.underlying51 hi, five_cells]
  have hr : List.range 5 = [0, 1, 2, 3, 4] := rfl
  rw [hr]
  have hp : ∀ (w : World) (j : Nat) (v : Value), #[Value.int .i64 e1, .int .i64 e2, .int .i64 e3, .int .i64 e4, .int .i64 e5][j]? = some v → (part 37 #[.int .i64 e1, .int .i64 e2, .int .i64 e3, .int .i64 e4, .int .i64 e5] j).run Try.prog w = .ok v w := by
    intro w j v hv
    exact run_part_plain w (by kernel_rfl) hv
  have he : ∀ (w : World) (a : Int), (Op.equalIn 9999 37 (.int .i64 a) (.int .i64 a)).run Try.prog w = .ok true w := by
    intro w a
    rw [show (9999 : Nat) = 9998 + 1 from rfl, run_equalIn_int w 9998 _ .i64 .i64 a a Try.underlying37]
    simp
  simp only [Op.eqItems, Sem.run_bind, Nat.mul_one]
  rw [hp w 0 (.int .i64 e1) rfl]
  simp only [Result.andThen_ok, he, hp _ 0 (.int .i64 e1) rfl, hp _ 1 (.int .i64 e2) rfl, hp _ 2 (.int .i64 e3) rfl, hp _ 3 (.int .i64 e4) rfl, hp _ 4 (.int .i64 e5) rfl, Bool.not_true, Bool.false_eq_true, if_false, Sem.run_pure, Sem.run_bind]
end Go.Proofs.Ytoplnkpjepejkaa
