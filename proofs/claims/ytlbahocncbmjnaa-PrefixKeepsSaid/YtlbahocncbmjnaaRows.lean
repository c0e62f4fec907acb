/-
  No cell of these rows narrows 'for every input' (looked for: loops, veiled, ifaces, maps, wideKeys, modest, calm, conditions, laid).
  DERIVED. THE GIVEN ROWS OF THIS SEAT. 5 by the template 'for every input the law returns true; each argument reads behind the call as it read before'; 0 by the template 'total and deterministic' (their statements: YtlbahocncbmjnaaTotals.lean).
  GIVEN WITH THE SEED: the statements are not yours to turn. If you find one false, say at which input.
  Laid BY PROGRAM, IN A SANDBOX (cutbox-rows.mjs): the forced cells as the released guide's own fill.sh prints them over the translation 8aad9e8c7ee217a3… (all of the seat's roots in one cut). By AI agents, Wed Nov 11 2026. No macro, syntax, notation, axiom, sorry.
-/
import Derived.Test.YtlbahocncbmjnaaChecked
import GoSem.Claim
import GoSem.ClaimJoined
import GoSem.ClaimMapViews
import Derived.JoinedTies
import Derived.KernelRfl
namespace Go.Proofs.Ytlbahocncbmjnaa
/- THE CELL 'sum', in the pinned program and in every row, IS THE sha256 OF THE DUMP (.gsa) THAT YtlbahocncbmjnaaProg.lean LOADS. Nothing in Lean hashes anything: it is a label: what it is worth is what the hold of that sum in a sandbox is worth. -/
noncomputable def Try.pinned : Pinned := { name := "ytlbahocncbmjnaa", sum := "8aad9e8c7ee217a31328fdc1018f2628328ae998fdc1bebec45044e0f0acefc8", checked := Try.checked }
namespace Rows
def none {H : Type} : Left H := { results := [], args := [] }

/-- 'dragnetlaw23.PrefixOf': WHATEVER THE INPUT: true; the input reads as it did. -/
def prefixOfSpec : ChangeSpec := { name := "prefixOf", fn := fun _ => fun
  | [d] => { results := [.lit (.bool true)], args := [d] }
  | _ => none }
def prefixOfRow : OpenClaim := { program := "ytlbahocncbmjnaa", sum := "8aad9e8c7ee217a31328fdc1018f2628328ae998fdc1bebec45044e0f0acefc8", func := "dragnet/dragnetlaw23.PrefixOf", spec := "prefixOf", unfollowed := true, recurses := true, apart := false }
def PrefixOfSaid : Prop := prefixOfRow.holds Try.pinned (OpenSpec.ofChange prefixOfSpec)

/-- ITS FALSE NEIGHBOUR: 'it returns false'. Refute it at one input. -/
def prefixOfWrong : ChangeSpec := { name := "prefixOf", fn := fun _ => fun
  | [d] => { results := [.lit (.bool false)], args := [d] }
  | _ => none }
def PrefixOfWrongFalsely : Prop := prefixOfRow.holds Try.pinned (OpenSpec.ofChange prefixOfWrong)

/-- 'dragnetlaw23.PrefixGrows': WHATEVER THE INPUT: true; the input reads as it did. -/
def prefixGrowsSpec : ChangeSpec := { name := "prefixGrows", fn := fun _ => fun
  | [d] => { results := [.lit (.bool true)], args := [d] }
  | _ => none }
def prefixGrowsRow : OpenClaim := { program := "ytlbahocncbmjnaa", sum := "8aad9e8c7ee217a31328fdc1018f2628328ae998fdc1bebec45044e0f0acefc8", func := "dragnet/dragnetlaw23.PrefixGrows", spec := "prefixGrows", unfollowed := true, recurses := true, apart := false }
def PrefixGrowsSaid : Prop := prefixGrowsRow.holds Try.pinned (OpenSpec.ofChange prefixGrowsSpec)

/-- ITS FALSE NEIGHBOUR: 'it returns false'. Refute it at one input. -/
def prefixGrowsWrong : ChangeSpec := { name := "prefixGrows", fn := fun _ => fun
  | [d] => { results := [.lit (.bool false)], args := [d] }
  | _ => none }
def PrefixGrowsWrongFalsely : Prop := prefixGrowsRow.holds Try.pinned (OpenSpec.ofChange prefixGrowsWrong)

/-- 'dragnetlaw23.PrefixKeeps': WHATEVER THE INPUT: true; the input reads as it did. -/
def prefixKeepsSpec : ChangeSpec := { name := "prefixKeeps", fn := fun _ => fun
  | [d1, d2] => { results := [.lit (.bool true)], args := [d1, d2] }
  | _ => none }
def prefixKeepsRow : OpenClaim := { program := "ytlbahocncbmjnaa", sum := "8aad9e8c7ee217a31328fdc1018f2628328ae998fdc1bebec45044e0f0acefc8", func := "dragnet/dragnetlaw23.PrefixKeeps", spec := "prefixKeeps", unfollowed := true, recurses := true, apart := false }
def PrefixKeepsSaid : Prop := prefixKeepsRow.holds Try.pinned (OpenSpec.ofChange prefixKeepsSpec)

/-- ITS FALSE NEIGHBOUR: 'it returns false'. Refute it at one input. -/
def prefixKeepsWrong : ChangeSpec := { name := "prefixKeeps", fn := fun _ => fun
  | [d1, d2] => { results := [.lit (.bool false)], args := [d1, d2] }
  | _ => none }
def PrefixKeepsWrongFalsely : Prop := prefixKeepsRow.holds Try.pinned (OpenSpec.ofChange prefixKeepsWrong)

/-- 'dragnetlaw23.PrefixCalls': WHATEVER THE INPUT: true; the input reads as it did. -/
def prefixCallsSpec : ChangeSpec := { name := "prefixCalls", fn := fun _ => fun
  | [d1, d2, d3] => { results := [.lit (.bool true)], args := [d1, d2, d3] }
  | _ => none }
def prefixCallsRow : OpenClaim := { program := "ytlbahocncbmjnaa", sum := "8aad9e8c7ee217a31328fdc1018f2628328ae998fdc1bebec45044e0f0acefc8", func := "dragnet/dragnetlaw23.PrefixCalls", spec := "prefixCalls", unfollowed := true, recurses := true, apart := false }
def PrefixCallsSaid : Prop := prefixCallsRow.holds Try.pinned (OpenSpec.ofChange prefixCallsSpec)

/-- ITS FALSE NEIGHBOUR: 'it returns false'. Refute it at one input. -/
def prefixCallsWrong : ChangeSpec := { name := "prefixCalls", fn := fun _ => fun
  | [d1, d2, d3] => { results := [.lit (.bool false)], args := [d1, d2, d3] }
  | _ => none }
def PrefixCallsWrongFalsely : Prop := prefixCallsRow.holds Try.pinned (OpenSpec.ofChange prefixCallsWrong)

/-- 'dragnetlaw23.PrefixBlind': WHATEVER THE INPUT: true; the input reads as it did. -/
def prefixBlindSpec : ChangeSpec := { name := "prefixBlind", fn := fun _ => fun
  | [d1, d2, d3] => { results := [.lit (.bool true)], args := [d1, d2, d3] }
  | _ => none }
def prefixBlindRow : OpenClaim := { program := "ytlbahocncbmjnaa", sum := "8aad9e8c7ee217a31328fdc1018f2628328ae998fdc1bebec45044e0f0acefc8", func := "dragnet/dragnetlaw23.PrefixBlind", spec := "prefixBlind", unfollowed := true, recurses := true, apart := false }
def PrefixBlindSaid : Prop := prefixBlindRow.holds Try.pinned (OpenSpec.ofChange prefixBlindSpec)

/-- ITS FALSE NEIGHBOUR: 'it returns false'. Refute it at one input. -/
def prefixBlindWrong : ChangeSpec := { name := "prefixBlind", fn := fun _ => fun
  | [d1, d2, d3] => { results := [.lit (.bool false)], args := [d1, d2, d3] }
  | _ => none }
def PrefixBlindWrongFalsely : Prop := prefixBlindRow.holds Try.pinned (OpenSpec.ofChange prefixBlindWrong)

/- THE SECOND FORM. 'bulk': how many values and letters a reading holds, each counted each time it is reached (what is shared counts as often as it is met; a slice's spare places count too). A statement '..UptoSaid' is the law's where the arguments, and the package variables that the reading takes, are together of bulk at most 1048576: NARROWER than '..Said'. Prove '..Said' where nothing that the law and all that it calls make is longer than what came in: it says more and counts as full. Else prove '..UptoSaid'. A law counts once. -/
mutual
def uptoBulk {H : Type} : DataW H → Nat
  | .lit (.string bytes) => bytes.length + 1
  | .lit _ => 1
  | .nil => 1
  | .ptr d => uptoBulk d + 1
  | .slice elems spare => uptoBulkAll elems + uptoBulkAll spare + 1
  | .agg parts => uptoBulkAll parts + 1
  | .iface _ d => uptoBulk d + 1
  | .map entries => uptoBulkEntries entries + 1
  | .held _ => 1
def uptoBulkAll {H : Type} : List (DataW H) → Nat
  | [] => 0
  | d :: r => uptoBulk d + uptoBulkAll r
def uptoBulkEntries {H : Type} : List (Lit × DataW H) → Nat
  | [] => 0
  | x :: r => uptoBulkEntry x + uptoBulkEntries r
def uptoBulkEntry {H : Type} : Lit × DataW H → Nat
  | (.string bytes, d) => bytes.length + uptoBulk d + 1
  | (_, d) => uptoBulk d + 1
 end
def uptoSmall : (H : Type) → List (DataW H) → Bool := fun _ ds => decide (uptoBulkAll ds ≤ 1048576)
def OpenSpec.upto (s : _root_.Go.ChangeSpec) : _root_.Go.OpenSpec := { _root_.Go.OpenSpec.ofChange s with cond := some uptoSmall }

/-- 'dragnetlaw23.PrefixOf', WHERE WHAT IT READS IS OF BULK AT MOST 1048576: true; the input reads as it did. -/
def prefixOfUptoRow : OpenClaim := { program := "ytlbahocncbmjnaa", sum := "8aad9e8c7ee217a31328fdc1018f2628328ae998fdc1bebec45044e0f0acefc8", func := "dragnet/dragnetlaw23.PrefixOf", spec := "prefixOf", unfollowed := true, recurses := true, apart := false, narrowed := true }
def PrefixOfUptoSaid : Prop := prefixOfUptoRow.holds Try.pinned (OpenSpec.upto prefixOfSpec)

/-- 'dragnetlaw23.PrefixGrows', WHERE WHAT IT READS IS OF BULK AT MOST 1048576: true; the input reads as it did. -/
def prefixGrowsUptoRow : OpenClaim := { program := "ytlbahocncbmjnaa", sum := "8aad9e8c7ee217a31328fdc1018f2628328ae998fdc1bebec45044e0f0acefc8", func := "dragnet/dragnetlaw23.PrefixGrows", spec := "prefixGrows", unfollowed := true, recurses := true, apart := false, narrowed := true }
def PrefixGrowsUptoSaid : Prop := prefixGrowsUptoRow.holds Try.pinned (OpenSpec.upto prefixGrowsSpec)

/-- 'dragnetlaw23.PrefixKeeps', WHERE WHAT IT READS IS OF BULK AT MOST 1048576: true; the input reads as it did. -/
def prefixKeepsUptoRow : OpenClaim := { program := "ytlbahocncbmjnaa", sum := "8aad9e8c7ee217a31328fdc1018f2628328ae998fdc1bebec45044e0f0acefc8", func := "dragnet/dragnetlaw23.PrefixKeeps", spec := "prefixKeeps", unfollowed := true, recurses := true, apart := false, narrowed := true }
def PrefixKeepsUptoSaid : Prop := prefixKeepsUptoRow.holds Try.pinned (OpenSpec.upto prefixKeepsSpec)

/-- 'dragnetlaw23.PrefixCalls', WHERE WHAT IT READS IS OF BULK AT MOST 1048576: true; the input reads as it did. -/
def prefixCallsUptoRow : OpenClaim := { program := "ytlbahocncbmjnaa", sum := "8aad9e8c7ee217a31328fdc1018f2628328ae998fdc1bebec45044e0f0acefc8", func := "dragnet/dragnetlaw23.PrefixCalls", spec := "prefixCalls", unfollowed := true, recurses := true, apart := false, narrowed := true }
def PrefixCallsUptoSaid : Prop := prefixCallsUptoRow.holds Try.pinned (OpenSpec.upto prefixCallsSpec)

/-- 'dragnetlaw23.PrefixBlind', WHERE WHAT IT READS IS OF BULK AT MOST 1048576: true; the input reads as it did. -/
def prefixBlindUptoRow : OpenClaim := { program := "ytlbahocncbmjnaa", sum := "8aad9e8c7ee217a31328fdc1018f2628328ae998fdc1bebec45044e0f0acefc8", func := "dragnet/dragnetlaw23.PrefixBlind", spec := "prefixBlind", unfollowed := true, recurses := true, apart := false, narrowed := true }
def PrefixBlindUptoSaid : Prop := prefixBlindUptoRow.holds Try.pinned (OpenSpec.upto prefixBlindSpec)

end Rows
end Go.Proofs.Ytlbahocncbmjnaa
