/-
  No cell of these rows narrows 'for every input' (looked for: loops, veiled, ifaces, maps, wideKeys, modest, calm, conditions, laid).
  DERIVED. THE GIVEN ROWS OF THIS SEAT. 5 by the template 'for every input the law returns true; each argument reads behind the call as it read before'; 0 by the template 'total and deterministic' (their statements: YtgdklokoeeokbaaTotals.lean).
  GIVEN WITH THE SEED: the statements are not yours to turn. If you find one false, say at which input.
  Laid BY PROGRAM, IN A SANDBOX (cutbox-rows.mjs): the forced cells as the released guide's own fill.sh prints them over the translation aff053f330e28f39… (all of the seat's roots in one cut). By AI agents, Wed Nov 11 2026. No macro, syntax, notation, axiom, sorry.
-/
import Derived.Test.YtgdklokoeeokbaaChecked
import GoSem.Claim
import GoSem.ClaimJoined
import GoSem.ClaimMapViews
import Derived.JoinedTies
import Derived.KernelRfl
namespace Go.Proofs.Ytgdklokoeeokbaa
/- THE CELL 'sum', in the pinned program and in every row, IS THE sha256 OF THE DUMP (.gsa) THAT YtgdklokoeeokbaaProg.lean LOADS. Nothing in Lean hashes anything: it is a label: what it is worth is what the hold of that sum in a sandbox is worth. -/
noncomputable def Try.pinned : Pinned := { name := "ytgdklokoeeokbaa", sum := "aff053f330e28f395a901094cf361aa4ffe03c7a1d1b7a08b558b612f7065886", checked := Try.checked }
namespace Rows
def none {H : Type} : Left H := { results := [], args := [] }

/-- 'dragnetlaw09.LookupRows': WHATEVER THE INPUT: true; the input reads as it did. -/
def lookupRowsSpec : ChangeSpec := { name := "lookupRows", fn := fun _ => fun
  | [d1, d2] => { results := [.lit (.bool true)], args := [d1, d2] }
  | _ => none }
def lookupRowsRow : OpenClaim := { program := "ytgdklokoeeokbaa", sum := "aff053f330e28f395a901094cf361aa4ffe03c7a1d1b7a08b558b612f7065886", func := "dragnet/dragnetlaw09.LookupRows", spec := "lookupRows", unfollowed := true, recurses := true, apart := false }
def LookupRowsSaid : Prop := lookupRowsRow.holds Try.pinned (OpenSpec.ofChange lookupRowsSpec)

/-- ITS FALSE NEIGHBOUR: 'it returns false'. Refute it at one input. -/
def lookupRowsWrong : ChangeSpec := { name := "lookupRows", fn := fun _ => fun
  | [d1, d2] => { results := [.lit (.bool false)], args := [d1, d2] }
  | _ => none }
def LookupRowsWrongFalsely : Prop := lookupRowsRow.holds Try.pinned (OpenSpec.ofChange lookupRowsWrong)

/-- 'dragnetlaw09.LookupTable': WHATEVER THE INPUT: true; the input reads as it did. -/
def lookupTableSpec : ChangeSpec := { name := "lookupTable", fn := fun _ => fun
  | [d1, d2] => { results := [.lit (.bool true)], args := [d1, d2] }
  | _ => none }
def lookupTableRow : OpenClaim := { program := "ytgdklokoeeokbaa", sum := "aff053f330e28f395a901094cf361aa4ffe03c7a1d1b7a08b558b612f7065886", func := "dragnet/dragnetlaw09.LookupTable", spec := "lookupTable", unfollowed := true, recurses := true, apart := false }
def LookupTableSaid : Prop := lookupTableRow.holds Try.pinned (OpenSpec.ofChange lookupTableSpec)

/-- ITS FALSE NEIGHBOUR: 'it returns false'. Refute it at one input. -/
def lookupTableWrong : ChangeSpec := { name := "lookupTable", fn := fun _ => fun
  | [d1, d2] => { results := [.lit (.bool false)], args := [d1, d2] }
  | _ => none }
def LookupTableWrongFalsely : Prop := lookupTableRow.holds Try.pinned (OpenSpec.ofChange lookupTableWrong)

/-- 'dragnetlaw09.LookupBlind': WHATEVER THE INPUT: true; the input reads as it did. -/
def lookupBlindSpec : ChangeSpec := { name := "lookupBlind", fn := fun _ => fun
  | [d1, d2, d3] => { results := [.lit (.bool true)], args := [d1, d2, d3] }
  | _ => none }
def lookupBlindRow : OpenClaim := { program := "ytgdklokoeeokbaa", sum := "aff053f330e28f395a901094cf361aa4ffe03c7a1d1b7a08b558b612f7065886", func := "dragnet/dragnetlaw09.LookupBlind", spec := "lookupBlind", unfollowed := true, recurses := true, apart := false }
def LookupBlindSaid : Prop := lookupBlindRow.holds Try.pinned (OpenSpec.ofChange lookupBlindSpec)

/-- ITS FALSE NEIGHBOUR: 'it returns false'. Refute it at one input. -/
def lookupBlindWrong : ChangeSpec := { name := "lookupBlind", fn := fun _ => fun
  | [d1, d2, d3] => { results := [.lit (.bool false)], args := [d1, d2, d3] }
  | _ => none }
def LookupBlindWrongFalsely : Prop := lookupBlindRow.holds Try.pinned (OpenSpec.ofChange lookupBlindWrong)

/-- 'dragnetlaw09.LookupCalls': WHATEVER THE INPUT: true; the input reads as it did. -/
def lookupCallsSpec : ChangeSpec := { name := "lookupCalls", fn := fun _ => fun
  | [d1, d2, d3] => { results := [.lit (.bool true)], args := [d1, d2, d3] }
  | _ => none }
def lookupCallsRow : OpenClaim := { program := "ytgdklokoeeokbaa", sum := "aff053f330e28f395a901094cf361aa4ffe03c7a1d1b7a08b558b612f7065886", func := "dragnet/dragnetlaw09.LookupCalls", spec := "lookupCalls", unfollowed := true, recurses := true, apart := false }
def LookupCallsSaid : Prop := lookupCallsRow.holds Try.pinned (OpenSpec.ofChange lookupCallsSpec)

/-- ITS FALSE NEIGHBOUR: 'it returns false'. Refute it at one input. -/
def lookupCallsWrong : ChangeSpec := { name := "lookupCalls", fn := fun _ => fun
  | [d1, d2, d3] => { results := [.lit (.bool false)], args := [d1, d2, d3] }
  | _ => none }
def LookupCallsWrongFalsely : Prop := lookupCallsRow.holds Try.pinned (OpenSpec.ofChange lookupCallsWrong)

/-- 'dragnetlaw09.LookupLarge': WHATEVER THE INPUT: true; the input reads as it did. -/
def lookupLargeSpec : ChangeSpec := { name := "lookupLarge", fn := fun _ => fun
  | [d1, d2, d3] => { results := [.lit (.bool true)], args := [d1, d2, d3] }
  | _ => none }
def lookupLargeRow : OpenClaim := { program := "ytgdklokoeeokbaa", sum := "aff053f330e28f395a901094cf361aa4ffe03c7a1d1b7a08b558b612f7065886", func := "dragnet/dragnetlaw09.LookupLarge", spec := "lookupLarge", unfollowed := true, recurses := true, apart := false }
def LookupLargeSaid : Prop := lookupLargeRow.holds Try.pinned (OpenSpec.ofChange lookupLargeSpec)

/-- ITS FALSE NEIGHBOUR: 'it returns false'. Refute it at one input. -/
def lookupLargeWrong : ChangeSpec := { name := "lookupLarge", fn := fun _ => fun
  | [d1, d2, d3] => { results := [.lit (.bool false)], args := [d1, d2, d3] }
  | _ => none }
def LookupLargeWrongFalsely : Prop := lookupLargeRow.holds Try.pinned (OpenSpec.ofChange lookupLargeWrong)

/- THE SECOND FORM. 'bulk': how many values and letters a reading holds, each counted each time it is reached (what is shared counts as often as it is met; a slice's spare places count too). A statement '..UptoSaid' is the law's where the arguments, and the package variables that the reading takes, are together of bulk at most 1048576: NARROWER than '..Said'. Prove '..Said' where nothing that the law and all that it calls make is longer than what came in: it says more and counts as full. Else prove '..UptoSaid'. A law counts once. -/
mutual
def uptoBulk {H : Type} : DataW H → Nat
  | .lit (.string bytes) => bytes.length + 1
  | .lit _ => 1
  | .nil => 1
  | .ptr d => uptoBulk d + 1
  | .slice elems spare => uptoBulkAll elems + uptoBulkAll spare + 1
  | .agg parts => uptoBulkAll parts + 1
  | .iface _ d => uptoBulk d + 1
  | .map entries => uptoBulkEntries entries + 1
  | .held _ => 1
def uptoBulkAll {H : Type} : List (DataW H) → Nat
  | [] => 0
  | d :: r => uptoBulk d + uptoBulkAll r
def uptoBulkEntries {H : Type} : List (Lit × DataW H) → Nat
  | [] => 0
  | x :: r => uptoBulkEntry x + uptoBulkEntries r
def uptoBulkEntry {H : Type} : Lit × DataW H → Nat
  | (.string bytes, d) => bytes.length + uptoBulk d + 1
  | (_, d) => uptoBulk d + 1
 end
def uptoSmall : (H : Type) → List (DataW H) → Bool := fun _ ds => decide (uptoBulkAll ds ≤ 1048576)
def OpenSpec.upto (s : _root_.Go.ChangeSpec) : _root_.Go.OpenSpec := { _root_.Go.OpenSpec.ofChange s with cond := some uptoSmall }

/-- 'dragnetlaw09.LookupRows', WHERE WHAT IT READS IS OF BULK AT MOST 1048576: true; the input reads as it did. -/
def lookupRowsUptoRow : OpenClaim := { program := "ytgdklokoeeokbaa", sum := "aff053f330e28f395a901094cf361aa4ffe03c7a1d1b7a08b558b612f7065886", func := "dragnet/dragnetlaw09.LookupRows", spec := "lookupRows", unfollowed := true, recurses := true, apart := false, narrowed := true }
def LookupRowsUptoSaid : Prop := lookupRowsUptoRow.holds Try.pinned (OpenSpec.upto lookupRowsSpec)

/-- 'dragnetlaw09.LookupTable', WHERE WHAT IT READS IS OF BULK AT MOST 1048576: true; the input reads as it did. -/
def lookupTableUptoRow : OpenClaim := { program := "ytgdklokoeeokbaa", sum := "aff053f330e28f395a901094cf361aa4ffe03c7a1d1b7a08b558b612f7065886", func := "dragnet/dragnetlaw09.LookupTable", spec := "lookupTable", unfollowed := true, recurses := true, apart := false, narrowed := true }
def LookupTableUptoSaid : Prop := lookupTableUptoRow.holds Try.pinned (OpenSpec.upto lookupTableSpec)

/-- 'dragnetlaw09.LookupBlind', WHERE WHAT IT READS IS OF BULK AT MOST 1048576: true; the input reads as it did. -/
def lookupBlindUptoRow : OpenClaim := { program := "ytgdklokoeeokbaa", sum := "aff053f330e28f395a901094cf361aa4ffe03c7a1d1b7a08b558b612f7065886", func := "dragnet/dragnetlaw09.LookupBlind", spec := "lookupBlind", unfollowed := true, recurses := true, apart := false, narrowed := true }
def LookupBlindUptoSaid : Prop := lookupBlindUptoRow.holds Try.pinned (OpenSpec.upto lookupBlindSpec)

/-- 'dragnetlaw09.LookupCalls', WHERE WHAT IT READS IS OF BULK AT MOST 1048576: true; the input reads as it did. -/
def lookupCallsUptoRow : OpenClaim := { program := "ytgdklokoeeokbaa", sum := "aff053f330e28f395a901094cf361aa4ffe03c7a1d1b7a08b558b612f7065886", func := "dragnet/dragnetlaw09.LookupCalls", spec := "lookupCalls", unfollowed := true, recurses := true, apart := false, narrowed := true }
def LookupCallsUptoSaid : Prop := lookupCallsUptoRow.holds Try.pinned (OpenSpec.upto lookupCallsSpec)

/-- 'dragnetlaw09.LookupLarge', WHERE WHAT IT READS IS OF BULK AT MOST 1048576: true; the input reads as it did. -/
def lookupLargeUptoRow : OpenClaim := { program := "ytgdklokoeeokbaa", sum := "aff053f330e28f395a901094cf361aa4ffe03c7a1d1b7a08b558b612f7065886", func := "dragnet/dragnetlaw09.LookupLarge", spec := "lookupLarge", unfollowed := true, recurses := true, apart := false, narrowed := true }
def LookupLargeUptoSaid : Prop := lookupLargeUptoRow.holds Try.pinned (OpenSpec.upto lookupLargeSpec)

end Rows
end Go.Proofs.Ytgdklokoeeokbaa
