/-
  A number of a smaller kind that came in.
-/
import Derived.Test.YtdgehacbpjgmcaaOpen
namespace Go.Proofs.Ytdgehacbpjgmcaa
open Go.ChangeShapes Go.WideShapes Go.ChangeAt Go.RowKit Go.Deep
section
variable {H : Type} {enc : TypeId × Value → H} {P : Program} {w : World} {b0 base : Nat} {spare : Nat → Bool} {held : Bool} {r : Reach} {t : TypeId} {v : Value} {d : DataW H} {ps : List MemPlace}
theorem opened_u8 (ht : P.underlying t = some (.int .u8)) (hval : Value.okWide P w r b0 t v) (hd : DataW.Trod enc P w base spare held t v d ps) : ∃ x : Int, v = .int .u8 x ∧ (0 ≤ x ∧ x < 256) := by
  obtain ⟨a, rfl, _, _, wf⟩ := open_int ht hval hd
  have := bounds_u8 wf
  exact ⟨a, rfl, by omega, by omega⟩
theorem opened_u16 (ht : P.underlying t = some (.int .u16)) (hval : Value.okWide P w r b0 t v) (hd : DataW.Trod enc P w base spare held t v d ps) : ∃ x : Int, v = .int .u16 x ∧ (0 ≤ x ∧ x < 65536) := by
  obtain ⟨a, rfl, _, _, wf⟩ := open_int ht hval hd
  have := bounds_u16 wf
  exact ⟨a, rfl, by omega, by omega⟩
theorem opened_u32 (ht : P.underlying t = some (.int .u32)) (hval : Value.okWide P w r b0 t v) (hd : DataW.Trod enc P w base spare held t v d ps) : ∃ x : Int, v = .int .u32 x ∧ (0 ≤ x ∧ x < 4294967296) := by
  obtain ⟨a, rfl, _, _, wf⟩ := open_int ht hval hd
  have := bounds_u32 wf
  exact ⟨a, rfl, by omega, by omega⟩
end
end Go.Proofs.Ytdgehacbpjgmcaa
