/-
  No cell of these rows narrows 'for every input' (looked for: loops, veiled, ifaces, maps, wideKeys, modest, calm, conditions, laid).
  DERIVED. THE GIVEN ROWS OF THIS SEAT. 7 by the template 'for every input the law returns true; each argument reads behind the call as it read before'; 0 by the template 'total and deterministic' (their statements: YtoobgfammippfaaTotals.lean).
  GIVEN WITH THE SEED: the statements are not yours to turn. If you find one false, say at which input.
  Laid BY PROGRAM, IN A SANDBOX (cutbox-rows.mjs): the forced cells as the released guide's own fill.sh prints them over the translation 0b248ec91bea32ad… (all of the seat's roots in one cut). By AI agents, Wed Nov 11 2026. No macro, syntax, notation, axiom, sorry.
-/
import Derived.Test.YtoobgfammippfaaChecked
import GoSem.Claim
import GoSem.ClaimJoined
import GoSem.ClaimMapViews
import Derived.JoinedTies
import Derived.KernelRfl
namespace Go.Proofs.Ytoobgfammippfaa
/- THE CELL 'sum', in the pinned program and in every row, IS THE sha256 OF THE DUMP (.gsa) THAT YtoobgfammippfaaProg.lean LOADS. Nothing in Lean hashes anything: it is a label: what it is worth is what the hold of that sum in a sandbox is worth. -/
noncomputable def Try.pinned : Pinned := { name := "ytoobgfammippfaa", sum := "0b248ec91bea32ad39108a1f2d226a21b464f2fd7effc109b3da5be46e6314dc", checked := Try.checked }
namespace Rows
def none {H : Type} : Left H := { results := [], args := [] }

/-- 'dragnetlaw10.CountersPure': WHATEVER THE INPUT: true; the input reads as it did. -/
def countersPureSpec : ChangeSpec := { name := "countersPure", fn := fun _ => fun
  | [d1, d2, d3] => { results := [.lit (.bool true)], args := [d1, d2, d3] }
  | _ => none }
def countersPureRow : OpenClaim := { program := "ytoobgfammippfaa", sum := "0b248ec91bea32ad39108a1f2d226a21b464f2fd7effc109b3da5be46e6314dc", func := "dragnet/dragnetlaw10.CountersPure", spec := "countersPure", unfollowed := true, recurses := true, apart := false }
def CountersPureSaid : Prop := countersPureRow.holds Try.pinned (OpenSpec.ofChange countersPureSpec)

/-- ITS FALSE NEIGHBOUR: 'it returns false'. Refute it at one input. -/
def countersPureWrong : ChangeSpec := { name := "countersPure", fn := fun _ => fun
  | [d1, d2, d3] => { results := [.lit (.bool false)], args := [d1, d2, d3] }
  | _ => none }
def CountersPureWrongFalsely : Prop := countersPureRow.holds Try.pinned (OpenSpec.ofChange countersPureWrong)

/-- 'dragnetlaw10.CountersFlags': WHATEVER THE INPUT: true; the input reads as it did. -/
def countersFlagsSpec : ChangeSpec := { name := "countersFlags", fn := fun _ => fun
  | [d1, d2] => { results := [.lit (.bool true)], args := [d1, d2] }
  | _ => none }
def countersFlagsRow : OpenClaim := { program := "ytoobgfammippfaa", sum := "0b248ec91bea32ad39108a1f2d226a21b464f2fd7effc109b3da5be46e6314dc", func := "dragnet/dragnetlaw10.CountersFlags", spec := "countersFlags", unfollowed := true, recurses := true, apart := false }
def CountersFlagsSaid : Prop := countersFlagsRow.holds Try.pinned (OpenSpec.ofChange countersFlagsSpec)

/-- ITS FALSE NEIGHBOUR: 'it returns false'. Refute it at one input. -/
def countersFlagsWrong : ChangeSpec := { name := "countersFlags", fn := fun _ => fun
  | [d1, d2] => { results := [.lit (.bool false)], args := [d1, d2] }
  | _ => none }
def CountersFlagsWrongFalsely : Prop := countersFlagsRow.holds Try.pinned (OpenSpec.ofChange countersFlagsWrong)

/-- 'dragnetlaw10.CountersSums': WHATEVER THE INPUT: true; the input reads as it did. -/
def countersSumsSpec : ChangeSpec := { name := "countersSums", fn := fun _ => fun
  | [d1, d2, d3] => { results := [.lit (.bool true)], args := [d1, d2, d3] }
  | _ => none }
def countersSumsRow : OpenClaim := { program := "ytoobgfammippfaa", sum := "0b248ec91bea32ad39108a1f2d226a21b464f2fd7effc109b3da5be46e6314dc", func := "dragnet/dragnetlaw10.CountersSums", spec := "countersSums", unfollowed := true, recurses := true, apart := false }
def CountersSumsSaid : Prop := countersSumsRow.holds Try.pinned (OpenSpec.ofChange countersSumsSpec)

/-- ITS FALSE NEIGHBOUR: 'it returns false'. Refute it at one input. -/
def countersSumsWrong : ChangeSpec := { name := "countersSums", fn := fun _ => fun
  | [d1, d2, d3] => { results := [.lit (.bool false)], args := [d1, d2, d3] }
  | _ => none }
def CountersSumsWrongFalsely : Prop := countersSumsRow.holds Try.pinned (OpenSpec.ofChange countersSumsWrong)

/-- 'dragnetlaw10.CountersMany': WHATEVER THE INPUT: true; the input reads as it did. -/
def countersManySpec : ChangeSpec := { name := "countersMany", fn := fun _ => fun
  | [d1, d2, d3] => { results := [.lit (.bool true)], args := [d1, d2, d3] }
  | _ => none }
def countersManyRow : OpenClaim := { program := "ytoobgfammippfaa", sum := "0b248ec91bea32ad39108a1f2d226a21b464f2fd7effc109b3da5be46e6314dc", func := "dragnet/dragnetlaw10.CountersMany", spec := "countersMany", unfollowed := true, recurses := true, apart := false }
def CountersManySaid : Prop := countersManyRow.holds Try.pinned (OpenSpec.ofChange countersManySpec)

/-- ITS FALSE NEIGHBOUR: 'it returns false'. Refute it at one input. -/
def countersManyWrong : ChangeSpec := { name := "countersMany", fn := fun _ => fun
  | [d1, d2, d3] => { results := [.lit (.bool false)], args := [d1, d2, d3] }
  | _ => none }
def CountersManyWrongFalsely : Prop := countersManyRow.holds Try.pinned (OpenSpec.ofChange countersManyWrong)

/-- 'dragnetlaw10.CountersBatches': WHATEVER THE INPUT: true; the input reads as it did. -/
def countersBatchesSpec : ChangeSpec := { name := "countersBatches", fn := fun _ => fun
  | [d1, d2, d3] => { results := [.lit (.bool true)], args := [d1, d2, d3] }
  | _ => none }
def countersBatchesRow : OpenClaim := { program := "ytoobgfammippfaa", sum := "0b248ec91bea32ad39108a1f2d226a21b464f2fd7effc109b3da5be46e6314dc", func := "dragnet/dragnetlaw10.CountersBatches", spec := "countersBatches", unfollowed := true, recurses := true, apart := false }
def CountersBatchesSaid : Prop := countersBatchesRow.holds Try.pinned (OpenSpec.ofChange countersBatchesSpec)

/-- ITS FALSE NEIGHBOUR: 'it returns false'. Refute it at one input. -/
def countersBatchesWrong : ChangeSpec := { name := "countersBatches", fn := fun _ => fun
  | [d1, d2, d3] => { results := [.lit (.bool false)], args := [d1, d2, d3] }
  | _ => none }
def CountersBatchesWrongFalsely : Prop := countersBatchesRow.holds Try.pinned (OpenSpec.ofChange countersBatchesWrong)

/-- 'dragnetlaw10.CountersCalls': WHATEVER THE INPUT: true; the input reads as it did. -/
def countersCallsSpec : ChangeSpec := { name := "countersCalls", fn := fun _ => fun
  | [d1, d2, d3] => { results := [.lit (.bool true)], args := [d1, d2, d3] }
  | _ => none }
def countersCallsRow : OpenClaim := { program := "ytoobgfammippfaa", sum := "0b248ec91bea32ad39108a1f2d226a21b464f2fd7effc109b3da5be46e6314dc", func := "dragnet/dragnetlaw10.CountersCalls", spec := "countersCalls", unfollowed := true, recurses := true, apart := false }
def CountersCallsSaid : Prop := countersCallsRow.holds Try.pinned (OpenSpec.ofChange countersCallsSpec)

/-- ITS FALSE NEIGHBOUR: 'it returns false'. Refute it at one input. -/
def countersCallsWrong : ChangeSpec := { name := "countersCalls", fn := fun _ => fun
  | [d1, d2, d3] => { results := [.lit (.bool false)], args := [d1, d2, d3] }
  | _ => none }
def CountersCallsWrongFalsely : Prop := countersCallsRow.holds Try.pinned (OpenSpec.ofChange countersCallsWrong)

/-- 'dragnetlaw10.CountersBlind': WHATEVER THE INPUT: true; the input reads as it did. -/
def countersBlindSpec : ChangeSpec := { name := "countersBlind", fn := fun _ => fun
  | [d1, d2, d3] => { results := [.lit (.bool true)], args := [d1, d2, d3] }
  | _ => none }
def countersBlindRow : OpenClaim := { program := "ytoobgfammippfaa", sum := "0b248ec91bea32ad39108a1f2d226a21b464f2fd7effc109b3da5be46e6314dc", func := "dragnet/dragnetlaw10.CountersBlind", spec := "countersBlind", unfollowed := true, recurses := true, apart := false }
def CountersBlindSaid : Prop := countersBlindRow.holds Try.pinned (OpenSpec.ofChange countersBlindSpec)

/-- ITS FALSE NEIGHBOUR: 'it returns false'. Refute it at one input. -/
def countersBlindWrong : ChangeSpec := { name := "countersBlind", fn := fun _ => fun
  | [d1, d2, d3] => { results := [.lit (.bool false)], args := [d1, d2, d3] }
  | _ => none }
def CountersBlindWrongFalsely : Prop := countersBlindRow.holds Try.pinned (OpenSpec.ofChange countersBlindWrong)

/- THE SECOND FORM. 'bulk': how many values and letters a reading holds, each counted each time it is reached (what is shared counts as often as it is met; a slice's spare places count too). A statement '..UptoSaid' is the law's where the arguments, and the package variables that the reading takes, are together of bulk at most 1048576: NARROWER than '..Said'. Prove '..Said' where nothing that the law and all that it calls make is longer than what came in: it says more and counts as full. Else prove '..UptoSaid'. A law counts once. -/
mutual
def uptoBulk {H : Type} : DataW H → Nat
  | .lit (.string bytes) => bytes.length + 1
  | .lit _ => 1
  | .nil => 1
  | .ptr d => uptoBulk d + 1
  | .slice elems spare => uptoBulkAll elems + uptoBulkAll spare + 1
  | .agg parts => uptoBulkAll parts + 1
  | .iface _ d => uptoBulk d + 1
  | .map entries => uptoBulkEntries entries + 1
  | .held _ => 1
def uptoBulkAll {H : Type} : List (DataW H) → Nat
  | [] => 0
  | d :: r => uptoBulk d + uptoBulkAll r
def uptoBulkEntries {H : Type} : List (Lit × DataW H) → Nat
  | [] => 0
  | x :: r => uptoBulkEntry x + uptoBulkEntries r
def uptoBulkEntry {H : Type} : Lit × DataW H → Nat
  | (.string bytes, d) => bytes.length + uptoBulk d + 1
  | (_, d) => uptoBulk d + 1
 end
def uptoSmall : (H : Type) → List (DataW H) → Bool := fun _ ds => decide (uptoBulkAll ds ≤ 1048576)
def OpenSpec.upto (s : _root_.Go.ChangeSpec) : _root_.Go.OpenSpec := { _root_.Go.OpenSpec.ofChange s with cond := some uptoSmall }

/-- 'dragnetlaw10.CountersPure', WHERE WHAT IT READS IS OF BULK AT MOST 1048576: true; the input reads as it did. -/
def countersPureUptoRow : OpenClaim := { program := "ytoobgfammippfaa", sum := "0b248ec91bea32ad39108a1f2d226a21b464f2fd7effc109b3da5be46e6314dc", func := "dragnet/dragnetlaw10.CountersPure", spec := "countersPure", unfollowed := true, recurses := true, apart := false, narrowed := true }
def CountersPureUptoSaid : Prop := countersPureUptoRow.holds Try.pinned (OpenSpec.upto countersPureSpec)

/-- 'dragnetlaw10.CountersFlags', WHERE WHAT IT READS IS OF BULK AT MOST 1048576: true; the input reads as it did. -/
def countersFlagsUptoRow : OpenClaim := { program := "ytoobgfammippfaa", sum := "0b248ec91bea32ad39108a1f2d226a21b464f2fd7effc109b3da5be46e6314dc", func := "dragnet/dragnetlaw10.CountersFlags", spec := "countersFlags", unfollowed := true, recurses := true, apart := false, narrowed := true }
def CountersFlagsUptoSaid : Prop := countersFlagsUptoRow.holds Try.pinned (OpenSpec.upto countersFlagsSpec)

/-- 'dragnetlaw10.CountersSums', WHERE WHAT IT READS IS OF BULK AT MOST 1048576: true; the input reads as it did. -/
def countersSumsUptoRow : OpenClaim := { program := "ytoobgfammippfaa", sum := "0b248ec91bea32ad39108a1f2d226a21b464f2fd7effc109b3da5be46e6314dc", func := "dragnet/dragnetlaw10.CountersSums", spec := "countersSums", unfollowed := true, recurses := true, apart := false, narrowed := true }
def CountersSumsUptoSaid : Prop := countersSumsUptoRow.holds Try.pinned (OpenSpec.upto countersSumsSpec)

/-- 'dragnetlaw10.CountersMany', WHERE WHAT IT READS IS OF BULK AT MOST 1048576: true; the input reads as it did. -/
def countersManyUptoRow : OpenClaim := { program := "ytoobgfammippfaa", sum := "0b248ec91bea32ad39108a1f2d226a21b464f2fd7effc109b3da5be46e6314dc", func := "dragnet/dragnetlaw10.CountersMany", spec := "countersMany", unfollowed := true, recurses := true, apart := false, narrowed := true }
def CountersManyUptoSaid : Prop := countersManyUptoRow.holds Try.pinned (OpenSpec.upto countersManySpec)

/-- 'dragnetlaw10.CountersBatches', WHERE WHAT IT READS IS OF BULK AT MOST 1048576: true; the input reads as it did. -/
def countersBatchesUptoRow : OpenClaim := { program := "ytoobgfammippfaa", sum := "0b248ec91bea32ad39108a1f2d226a21b464f2fd7effc109b3da5be46e6314dc", func := "dragnet/dragnetlaw10.CountersBatches", spec := "countersBatches", unfollowed := true, recurses := true, apart := false, narrowed := true }
def CountersBatchesUptoSaid : Prop := countersBatchesUptoRow.holds Try.pinned (OpenSpec.upto countersBatchesSpec)

/-- 'dragnetlaw10.CountersCalls', WHERE WHAT IT READS IS OF BULK AT MOST 1048576: true; the input reads as it did. -/
def countersCallsUptoRow : OpenClaim := { program := "ytoobgfammippfaa", sum := "0b248ec91bea32ad39108a1f2d226a21b464f2fd7effc109b3da5be46e6314dc", func := "dragnet/dragnetlaw10.CountersCalls", spec := "countersCalls", unfollowed := true, recurses := true, apart := false, narrowed := true }
def CountersCallsUptoSaid : Prop := countersCallsUptoRow.holds Try.pinned (OpenSpec.upto countersCallsSpec)

/-- 'dragnetlaw10.CountersBlind', WHERE WHAT IT READS IS OF BULK AT MOST 1048576: true; the input reads as it did. -/
def countersBlindUptoRow : OpenClaim := { program := "ytoobgfammippfaa", sum := "0b248ec91bea32ad39108a1f2d226a21b464f2fd7effc109b3da5be46e6314dc", func := "dragnet/dragnetlaw10.CountersBlind", spec := "countersBlind", unfollowed := true, recurses := true, apart := false, narrowed := true }
def CountersBlindUptoSaid : Prop := countersBlindUptoRow.holds Try.pinned (OpenSpec.upto countersBlindSpec)

end Rows
end Go.Proofs.Ytoobgfammippfaa
