/-
  No cell of these rows narrows 'for every input' (looked for: loops, veiled, ifaces, maps, wideKeys, modest, calm, conditions, laid).
  DERIVED. THE GIVEN ROWS OF THIS SEAT. 6 by the template 'for every input the law returns true; each argument reads behind the call as it read before'; 0 by the template 'total and deterministic' (their statements: YtonkhgmfeakbcaaTotals.lean).
  GIVEN WITH THE SEED: the statements are not yours to turn. If you find one false, say at which input.
  Laid BY PROGRAM, IN A SANDBOX (cutbox-rows.mjs): the forced cells as the released guide's own fill.sh prints them over the translation 2a8246a32b9edf3d… (all of the seat's roots in one cut). By AI agents, Wed Nov 11 2026. No macro, syntax, notation, axiom, sorry.
-/
import Derived.Test.YtonkhgmfeakbcaaChecked
import GoSem.Claim
import GoSem.ClaimJoined
import GoSem.ClaimMapViews
import Derived.JoinedTies
import Derived.KernelRfl
namespace Go.Proofs.Ytonkhgmfeakbcaa
/- THE CELL 'sum', in the pinned program and in every row, IS THE sha256 OF THE DUMP (.gsa) THAT YtonkhgmfeakbcaaProg.lean LOADS. Nothing in Lean hashes anything: it is a label: what it is worth is what the hold of that sum in a sandbox is worth. -/
noncomputable def Try.pinned : Pinned := { name := "ytonkhgmfeakbcaa", sum := "2a8246a32b9edf3d25d5aa69d94aaf103ba3bd21f634ed916a024733932c5bd1", checked := Try.checked }
namespace Rows
def none {H : Type} : Left H := { results := [], args := [] }

/-- 'dragnetlaw22.SlotsLists': WHATEVER THE INPUT: true; the input reads as it did. -/
def slotsListsSpec : ChangeSpec := { name := "slotsLists", fn := fun _ => fun
  | [d1, d2, d3] => { results := [.lit (.bool true)], args := [d1, d2, d3] }
  | _ => none }
def slotsListsRow : OpenClaim := { program := "ytonkhgmfeakbcaa", sum := "2a8246a32b9edf3d25d5aa69d94aaf103ba3bd21f634ed916a024733932c5bd1", func := "dragnet/dragnetlaw22.SlotsLists", spec := "slotsLists", unfollowed := true, recurses := true, apart := false }
def SlotsListsSaid : Prop := slotsListsRow.holds Try.pinned (OpenSpec.ofChange slotsListsSpec)

/-- ITS FALSE NEIGHBOUR: 'it returns false'. Refute it at one input. -/
def slotsListsWrong : ChangeSpec := { name := "slotsLists", fn := fun _ => fun
  | [d1, d2, d3] => { results := [.lit (.bool false)], args := [d1, d2, d3] }
  | _ => none }
def SlotsListsWrongFalsely : Prop := slotsListsRow.holds Try.pinned (OpenSpec.ofChange slotsListsWrong)

/-- 'dragnetlaw22.SlotsBlocks': WHATEVER THE INPUT: true; the input reads as it did. -/
def slotsBlocksSpec : ChangeSpec := { name := "slotsBlocks", fn := fun _ => fun
  | [d1, d2] => { results := [.lit (.bool true)], args := [d1, d2] }
  | _ => none }
def slotsBlocksRow : OpenClaim := { program := "ytonkhgmfeakbcaa", sum := "2a8246a32b9edf3d25d5aa69d94aaf103ba3bd21f634ed916a024733932c5bd1", func := "dragnet/dragnetlaw22.SlotsBlocks", spec := "slotsBlocks", unfollowed := true, recurses := true, apart := false }
def SlotsBlocksSaid : Prop := slotsBlocksRow.holds Try.pinned (OpenSpec.ofChange slotsBlocksSpec)

/-- ITS FALSE NEIGHBOUR: 'it returns false'. Refute it at one input. -/
def slotsBlocksWrong : ChangeSpec := { name := "slotsBlocks", fn := fun _ => fun
  | [d1, d2] => { results := [.lit (.bool false)], args := [d1, d2] }
  | _ => none }
def SlotsBlocksWrongFalsely : Prop := slotsBlocksRow.holds Try.pinned (OpenSpec.ofChange slotsBlocksWrong)

/-- 'dragnetlaw22.SlotsBack': WHATEVER THE INPUT: true; the input reads as it did. -/
def slotsBackSpec : ChangeSpec := { name := "slotsBack", fn := fun _ => fun
  | [d1, d2, d3] => { results := [.lit (.bool true)], args := [d1, d2, d3] }
  | _ => none }
def slotsBackRow : OpenClaim := { program := "ytonkhgmfeakbcaa", sum := "2a8246a32b9edf3d25d5aa69d94aaf103ba3bd21f634ed916a024733932c5bd1", func := "dragnet/dragnetlaw22.SlotsBack", spec := "slotsBack", unfollowed := true, recurses := true, apart := false }
def SlotsBackSaid : Prop := slotsBackRow.holds Try.pinned (OpenSpec.ofChange slotsBackSpec)

/-- ITS FALSE NEIGHBOUR: 'it returns false'. Refute it at one input. -/
def slotsBackWrong : ChangeSpec := { name := "slotsBack", fn := fun _ => fun
  | [d1, d2, d3] => { results := [.lit (.bool false)], args := [d1, d2, d3] }
  | _ => none }
def SlotsBackWrongFalsely : Prop := slotsBackRow.holds Try.pinned (OpenSpec.ofChange slotsBackWrong)

/-- 'dragnetlaw22.SlotsBlind': WHATEVER THE INPUT: true; the input reads as it did. -/
def slotsBlindSpec : ChangeSpec := { name := "slotsBlind", fn := fun _ => fun
  | [d1, d2, d3] => { results := [.lit (.bool true)], args := [d1, d2, d3] }
  | _ => none }
def slotsBlindRow : OpenClaim := { program := "ytonkhgmfeakbcaa", sum := "2a8246a32b9edf3d25d5aa69d94aaf103ba3bd21f634ed916a024733932c5bd1", func := "dragnet/dragnetlaw22.SlotsBlind", spec := "slotsBlind", unfollowed := true, recurses := true, apart := false }
def SlotsBlindSaid : Prop := slotsBlindRow.holds Try.pinned (OpenSpec.ofChange slotsBlindSpec)

/-- ITS FALSE NEIGHBOUR: 'it returns false'. Refute it at one input. -/
def slotsBlindWrong : ChangeSpec := { name := "slotsBlind", fn := fun _ => fun
  | [d1, d2, d3] => { results := [.lit (.bool false)], args := [d1, d2, d3] }
  | _ => none }
def SlotsBlindWrongFalsely : Prop := slotsBlindRow.holds Try.pinned (OpenSpec.ofChange slotsBlindWrong)

/-- 'dragnetlaw22.SlotsLarge': WHATEVER THE INPUT: true; the input reads as it did. -/
def slotsLargeSpec : ChangeSpec := { name := "slotsLarge", fn := fun _ => fun
  | [d] => { results := [.lit (.bool true)], args := [d] }
  | _ => none }
def slotsLargeRow : OpenClaim := { program := "ytonkhgmfeakbcaa", sum := "2a8246a32b9edf3d25d5aa69d94aaf103ba3bd21f634ed916a024733932c5bd1", func := "dragnet/dragnetlaw22.SlotsLarge", spec := "slotsLarge", unfollowed := true, recurses := true, apart := false }
def SlotsLargeSaid : Prop := slotsLargeRow.holds Try.pinned (OpenSpec.ofChange slotsLargeSpec)

/-- ITS FALSE NEIGHBOUR: 'it returns false'. Refute it at one input. -/
def slotsLargeWrong : ChangeSpec := { name := "slotsLarge", fn := fun _ => fun
  | [d] => { results := [.lit (.bool false)], args := [d] }
  | _ => none }
def SlotsLargeWrongFalsely : Prop := slotsLargeRow.holds Try.pinned (OpenSpec.ofChange slotsLargeWrong)

/-- 'dragnetlaw22.SlotsCalls': WHATEVER THE INPUT: true; the input reads as it did. -/
def slotsCallsSpec : ChangeSpec := { name := "slotsCalls", fn := fun _ => fun
  | [d1, d2, d3] => { results := [.lit (.bool true)], args := [d1, d2, d3] }
  | _ => none }
def slotsCallsRow : OpenClaim := { program := "ytonkhgmfeakbcaa", sum := "2a8246a32b9edf3d25d5aa69d94aaf103ba3bd21f634ed916a024733932c5bd1", func := "dragnet/dragnetlaw22.SlotsCalls", spec := "slotsCalls", unfollowed := true, recurses := true, apart := false }
def SlotsCallsSaid : Prop := slotsCallsRow.holds Try.pinned (OpenSpec.ofChange slotsCallsSpec)

/-- ITS FALSE NEIGHBOUR: 'it returns false'. Refute it at one input. -/
def slotsCallsWrong : ChangeSpec := { name := "slotsCalls", fn := fun _ => fun
  | [d1, d2, d3] => { results := [.lit (.bool false)], args := [d1, d2, d3] }
  | _ => none }
def SlotsCallsWrongFalsely : Prop := slotsCallsRow.holds Try.pinned (OpenSpec.ofChange slotsCallsWrong)

/- THE SECOND FORM. 'bulk': how many values and letters a reading holds, each counted each time it is reached (what is shared counts as often as it is met; a slice's spare places count too). A statement '..UptoSaid' is the law's where the arguments, and the package variables that the reading takes, are together of bulk at most 1048576: NARROWER than '..Said'. Prove '..Said' where nothing that the law and all that it calls make is longer than what came in: it says more and counts as full. Else prove '..UptoSaid'. A law counts once. -/
mutual
def uptoBulk {H : Type} : DataW H → Nat
  | .lit (.string bytes) => bytes.length + 1
  | .lit _ => 1
  | .nil => 1
  | .ptr d => uptoBulk d + 1
  | .slice elems spare => uptoBulkAll elems + uptoBulkAll spare + 1
  | .agg parts => uptoBulkAll parts + 1
  | .iface _ d => uptoBulk d + 1
  | .map entries => uptoBulkEntries entries + 1
  | .held _ => 1
def uptoBulkAll {H : Type} : List (DataW H) → Nat
  | [] => 0
  | d :: r => uptoBulk d + uptoBulkAll r
def uptoBulkEntries {H : Type} : List (Lit × DataW H) → Nat
  | [] => 0
  | x :: r => uptoBulkEntry x + uptoBulkEntries r
def uptoBulkEntry {H : Type} : Lit × DataW H → Nat
  | (.string bytes, d) => bytes.length + uptoBulk d + 1
  | (_, d) => uptoBulk d + 1
 end
def uptoSmall : (H : Type) → List (DataW H) → Bool := fun _ ds => decide (uptoBulkAll ds ≤ 1048576)
def OpenSpec.upto (s : _root_.Go.ChangeSpec) : _root_.Go.OpenSpec := { _root_.Go.OpenSpec.ofChange s with cond := some uptoSmall }

/-- 'dragnetlaw22.SlotsLists', WHERE WHAT IT READS IS OF BULK AT MOST 1048576: true; the input reads as it did. -/
def slotsListsUptoRow : OpenClaim := { program := "ytonkhgmfeakbcaa", sum := "2a8246a32b9edf3d25d5aa69d94aaf103ba3bd21f634ed916a024733932c5bd1", func := "dragnet/dragnetlaw22.SlotsLists", spec := "slotsLists", unfollowed := true, recurses := true, apart := false, narrowed := true }
def SlotsListsUptoSaid : Prop := slotsListsUptoRow.holds Try.pinned (OpenSpec.upto slotsListsSpec)

/-- 'dragnetlaw22.SlotsBlocks', WHERE WHAT IT READS IS OF BULK AT MOST 1048576: true; the input reads as it did. -/
def slotsBlocksUptoRow : OpenClaim := { program := "ytonkhgmfeakbcaa", sum := "2a8246a32b9edf3d25d5aa69d94aaf103ba3bd21f634ed916a024733932c5bd1", func := "dragnet/dragnetlaw22.SlotsBlocks", spec := "slotsBlocks", unfollowed := true, recurses := true, apart := false, narrowed := true }
def SlotsBlocksUptoSaid : Prop := slotsBlocksUptoRow.holds Try.pinned (OpenSpec.upto slotsBlocksSpec)

/-- 'dragnetlaw22.SlotsBack', WHERE WHAT IT READS IS OF BULK AT MOST 1048576: true; the input reads as it did. -/
def slotsBackUptoRow : OpenClaim := { program := "ytonkhgmfeakbcaa", sum := "2a8246a32b9edf3d25d5aa69d94aaf103ba3bd21f634ed916a024733932c5bd1", func := "dragnet/dragnetlaw22.SlotsBack", spec := "slotsBack", unfollowed := true, recurses := true, apart := false, narrowed := true }
def SlotsBackUptoSaid : Prop := slotsBackUptoRow.holds Try.pinned (OpenSpec.upto slotsBackSpec)

/-- 'dragnetlaw22.SlotsBlind', WHERE WHAT IT READS IS OF BULK AT MOST 1048576: true; the input reads as it did. -/
def slotsBlindUptoRow : OpenClaim := { program := "ytonkhgmfeakbcaa", sum := "2a8246a32b9edf3d25d5aa69d94aaf103ba3bd21f634ed916a024733932c5bd1", func := "dragnet/dragnetlaw22.SlotsBlind", spec := "slotsBlind", unfollowed := true, recurses := true, apart := false, narrowed := true }
def SlotsBlindUptoSaid : Prop := slotsBlindUptoRow.holds Try.pinned (OpenSpec.upto slotsBlindSpec)

/-- 'dragnetlaw22.SlotsLarge', WHERE WHAT IT READS IS OF BULK AT MOST 1048576: true; the input reads as it did. -/
def slotsLargeUptoRow : OpenClaim := { program := "ytonkhgmfeakbcaa", sum := "2a8246a32b9edf3d25d5aa69d94aaf103ba3bd21f634ed916a024733932c5bd1", func := "dragnet/dragnetlaw22.SlotsLarge", spec := "slotsLarge", unfollowed := true, recurses := true, apart := false, narrowed := true }
def SlotsLargeUptoSaid : Prop := slotsLargeUptoRow.holds Try.pinned (OpenSpec.upto slotsLargeSpec)

/-- 'dragnetlaw22.SlotsCalls', WHERE WHAT IT READS IS OF BULK AT MOST 1048576: true; the input reads as it did. -/
def slotsCallsUptoRow : OpenClaim := { program := "ytonkhgmfeakbcaa", sum := "2a8246a32b9edf3d25d5aa69d94aaf103ba3bd21f634ed916a024733932c5bd1", func := "dragnet/dragnetlaw22.SlotsCalls", spec := "slotsCalls", unfollowed := true, recurses := true, apart := false, narrowed := true }
def SlotsCallsUptoSaid : Prop := slotsCallsUptoRow.holds Try.pinned (OpenSpec.upto slotsCallsSpec)

end Rows
end Go.Proofs.Ytonkhgmfeakbcaa
