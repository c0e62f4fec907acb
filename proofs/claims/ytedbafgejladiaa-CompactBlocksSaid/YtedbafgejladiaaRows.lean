/-
  No cell of these rows narrows 'for every input' (looked for: loops, veiled, ifaces, maps, wideKeys, modest, calm, conditions, laid).
  DERIVED. THE GIVEN ROWS OF THIS SEAT. 3 by the template 'for every input the law returns true; each argument reads behind the call as it read before'; 0 by the template 'total and deterministic' (their statements: YtedbafgejladiaaTotals.lean).
  GIVEN WITH THE SEED: the statements are not yours to turn. If you find one false, say at which input.
  Laid BY PROGRAM, IN A SANDBOX (cutbox-rows.mjs): the forced cells as the released guide's own fill.sh prints them over the translation 0bfcfd09d859b734… (all of the seat's roots in one cut). By AI agents, Wed Nov 11 2026. No macro, syntax, notation, axiom, sorry.
-/
import Derived.Test.YtedbafgejladiaaChecked
import GoSem.Claim
import GoSem.ClaimJoined
import GoSem.ClaimMapViews
import Derived.JoinedTies
import Derived.KernelRfl
namespace Go.Proofs.Ytedbafgejladiaa
/- THE CELL 'sum', in the pinned program and in every row, IS THE sha256 OF THE DUMP (.gsa) THAT YtedbafgejladiaaProg.lean LOADS. Nothing in Lean hashes anything: it is a label: what it is worth is what the hold of that sum in a sandbox is worth. -/
noncomputable def Try.pinned : Pinned := { name := "ytedbafgejladiaa", sum := "0bfcfd09d859b73424dac7414dd08c0c9b81b57d02865d147992a31efa7367a8", checked := Try.checked }
namespace Rows
def none {H : Type} : Left H := { results := [], args := [] }

/-- 'dragnetlaw25.CompactFirst': WHATEVER THE INPUT: true; the input reads as it did. -/
def compactFirstSpec : ChangeSpec := { name := "compactFirst", fn := fun _ => fun
  | [d1, d2, d3] => { results := [.lit (.bool true)], args := [d1, d2, d3] }
  | _ => none }
def compactFirstRow : OpenClaim := { program := "ytedbafgejladiaa", sum := "0bfcfd09d859b73424dac7414dd08c0c9b81b57d02865d147992a31efa7367a8", func := "dragnet/dragnetlaw25.CompactFirst", spec := "compactFirst", unfollowed := true, recurses := true, apart := false }
def CompactFirstSaid : Prop := compactFirstRow.holds Try.pinned (OpenSpec.ofChange compactFirstSpec)

/-- ITS FALSE NEIGHBOUR: 'it returns false'. Refute it at one input. -/
def compactFirstWrong : ChangeSpec := { name := "compactFirst", fn := fun _ => fun
  | [d1, d2, d3] => { results := [.lit (.bool false)], args := [d1, d2, d3] }
  | _ => none }
def CompactFirstWrongFalsely : Prop := compactFirstRow.holds Try.pinned (OpenSpec.ofChange compactFirstWrong)

/-- 'dragnetlaw25.CompactBlocks': WHATEVER THE INPUT: true; the input reads as it did. -/
def compactBlocksSpec : ChangeSpec := { name := "compactBlocks", fn := fun _ => fun
  | [d1, d2] => { results := [.lit (.bool true)], args := [d1, d2] }
  | _ => none }
def compactBlocksRow : OpenClaim := { program := "ytedbafgejladiaa", sum := "0bfcfd09d859b73424dac7414dd08c0c9b81b57d02865d147992a31efa7367a8", func := "dragnet/dragnetlaw25.CompactBlocks", spec := "compactBlocks", unfollowed := true, recurses := true, apart := false }
def CompactBlocksSaid : Prop := compactBlocksRow.holds Try.pinned (OpenSpec.ofChange compactBlocksSpec)

/-- ITS FALSE NEIGHBOUR: 'it returns false'. Refute it at one input. -/
def compactBlocksWrong : ChangeSpec := { name := "compactBlocks", fn := fun _ => fun
  | [d1, d2] => { results := [.lit (.bool false)], args := [d1, d2] }
  | _ => none }
def CompactBlocksWrongFalsely : Prop := compactBlocksRow.holds Try.pinned (OpenSpec.ofChange compactBlocksWrong)

/-- 'dragnetlaw25.CompactBlind': WHATEVER THE INPUT: true; the input reads as it did. -/
def compactBlindSpec : ChangeSpec := { name := "compactBlind", fn := fun _ => fun
  | [d1, d2, d3] => { results := [.lit (.bool true)], args := [d1, d2, d3] }
  | _ => none }
def compactBlindRow : OpenClaim := { program := "ytedbafgejladiaa", sum := "0bfcfd09d859b73424dac7414dd08c0c9b81b57d02865d147992a31efa7367a8", func := "dragnet/dragnetlaw25.CompactBlind", spec := "compactBlind", unfollowed := true, recurses := true, apart := false }
def CompactBlindSaid : Prop := compactBlindRow.holds Try.pinned (OpenSpec.ofChange compactBlindSpec)

/-- ITS FALSE NEIGHBOUR: 'it returns false'. Refute it at one input. -/
def compactBlindWrong : ChangeSpec := { name := "compactBlind", fn := fun _ => fun
  | [d1, d2, d3] => { results := [.lit (.bool false)], args := [d1, d2, d3] }
  | _ => none }
def CompactBlindWrongFalsely : Prop := compactBlindRow.holds Try.pinned (OpenSpec.ofChange compactBlindWrong)

/- THE SECOND FORM. 'bulk': how many values and letters a reading holds, each counted each time it is reached (what is shared counts as often as it is met; a slice's spare places count too). A statement '..UptoSaid' is the law's where the arguments, and the package variables that the reading takes, are together of bulk at most 1048576: NARROWER than '..Said'. Prove '..Said' where nothing that the law and all that it calls make is longer than what came in: it says more and counts as full. Else prove '..UptoSaid'. A law counts once. -/
mutual
def uptoBulk {H : Type} : DataW H → Nat
  | .lit (.string bytes) => bytes.length + 1
  | .lit _ => 1
  | .nil => 1
  | .ptr d => uptoBulk d + 1
  | .slice elems spare => uptoBulkAll elems + uptoBulkAll spare + 1
  | .agg parts => uptoBulkAll parts + 1
  | .iface _ d => uptoBulk d + 1
  | .map entries => uptoBulkEntries entries + 1
  | .held _ => 1
def uptoBulkAll {H : Type} : List (DataW H) → Nat
  | [] => 0
  | d :: r => uptoBulk d + uptoBulkAll r
def uptoBulkEntries {H : Type} : List (Lit × DataW H) → Nat
  | [] => 0
  | x :: r => uptoBulkEntry x + uptoBulkEntries r
def uptoBulkEntry {H : Type} : Lit × DataW H → Nat
  | (.string bytes, d) => bytes.length + uptoBulk d + 1
  | (_, d) => uptoBulk d + 1
 end
def uptoSmall : (H : Type) → List (DataW H) → Bool := fun _ ds => decide (uptoBulkAll ds ≤ 1048576)
def OpenSpec.upto (s : _root_.Go.ChangeSpec) : _root_.Go.OpenSpec := { _root_.Go.OpenSpec.ofChange s with cond := some uptoSmall }

/-- 'dragnetlaw25.CompactFirst', WHERE WHAT IT READS IS OF BULK AT MOST 1048576: true; the input reads as it did. -/
def compactFirstUptoRow : OpenClaim := { program := "ytedbafgejladiaa", sum := "0bfcfd09d859b73424dac7414dd08c0c9b81b57d02865d147992a31efa7367a8", func := "dragnet/dragnetlaw25.CompactFirst", spec := "compactFirst", unfollowed := true, recurses := true, apart := false, narrowed := true }
def CompactFirstUptoSaid : Prop := compactFirstUptoRow.holds Try.pinned (OpenSpec.upto compactFirstSpec)

/-- 'dragnetlaw25.CompactBlocks', WHERE WHAT IT READS IS OF BULK AT MOST 1048576: true; the input reads as it did. -/
def compactBlocksUptoRow : OpenClaim := { program := "ytedbafgejladiaa", sum := "0bfcfd09d859b73424dac7414dd08c0c9b81b57d02865d147992a31efa7367a8", func := "dragnet/dragnetlaw25.CompactBlocks", spec := "compactBlocks", unfollowed := true, recurses := true, apart := false, narrowed := true }
def CompactBlocksUptoSaid : Prop := compactBlocksUptoRow.holds Try.pinned (OpenSpec.upto compactBlocksSpec)

/-- 'dragnetlaw25.CompactBlind', WHERE WHAT IT READS IS OF BULK AT MOST 1048576: true; the input reads as it did. -/
def compactBlindUptoRow : OpenClaim := { program := "ytedbafgejladiaa", sum := "0bfcfd09d859b73424dac7414dd08c0c9b81b57d02865d147992a31efa7367a8", func := "dragnet/dragnetlaw25.CompactBlind", spec := "compactBlind", unfollowed := true, recurses := true, apart := false, narrowed := true }
def CompactBlindUptoSaid : Prop := compactBlindUptoRow.holds Try.pinned (OpenSpec.upto compactBlindSpec)

end Rows
end Go.Proofs.Ytedbafgejladiaa
