/-
  Arguments that came in, opened.
-/
import Derived.Test.YtoobgfammippfaaArena
import Derived.ProofKit
import Derived.OpenShut
import Derived.ChangeOld
namespace Go.Proofs.Ytoobgfammippfaa
open Go.ChangeShapes Go.WideShapes Go.ChangeAt Go.RowKit
/-- All blocks that are there. -/
def Old (w : World) : Nat → Prop := fun k => k < w.heap.size
def boolsV (l : List Bool) : List Value := l.map Value.bool

section
variable {H : Type} {enc : TypeId × Value → H} {P : Program} {w : World} {b0 base : Nat} {spare : Nat → Bool} {held : Bool} {r : Reach} {t e : TypeId} {v : Value} {d : DataW H} {ps : List MemPlace}
theorem opened_u64 (ht : P.underlying t = some (.int .u64)) (hval : Value.okWide P w r b0 t v) (hd : DataW.Trod enc P w base spare held t v d ps) : ∃ x : BitVec 64, v = .int .u64 (n64 x) := by
  obtain ⟨a, rfl, _, _, wf⟩ := open_int ht hval hd
  have := bounds_u64 wf
  exact ⟨bv a, by rw [n64_bv ⟨by omega, by omega⟩]⟩
theorem opened_bool (ht : P.underlying t = some .bool) (hval : Value.okWide P w r b0 t v) (hd : DataW.Trod enc P w base spare held t v d ps) : ∃ x : Bool, v = .bool x := by
  obtain ⟨a, rfl, _, _⟩ := open_bool ht hval hd
  exact ⟨a, rfl⟩
theorem opened_int (ht : P.underlying t = some (.int .i64)) (hval : Value.okWide P w r b0 t v) (hd : DataW.Trod enc P w base spare held t v d ps) : ∃ x : Int, v = .int .i64 x ∧ (-9223372036854775808 ≤ x ∧ x ≤ 9223372036854775807) := by
  obtain ⟨a, rfl, _, _, wf⟩ := open_int ht hval hd
  have := bounds_i64 wf
  exact ⟨a, rfl, by omega, by omega⟩
end
end Go.Proofs.Ytoobgfammippfaa
