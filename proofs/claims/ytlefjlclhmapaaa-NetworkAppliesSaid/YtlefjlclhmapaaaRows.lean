/-
  No cell of these rows narrows 'for every input' (looked for: loops, veiled, ifaces, maps, wideKeys, modest, calm, conditions, laid).
  DERIVED. THE GIVEN ROWS OF THIS SEAT. 6 by the template 'for every input the law returns true; each argument reads behind the call as it read before'; 0 by the template 'total and deterministic' (their statements: YtlefjlclhmapaaaTotals.lean).
  GIVEN WITH THE SEED: the statements are not yours to turn. If you find one false, say at which input.
  Laid BY PROGRAM, IN A SANDBOX (cutbox-rows.mjs): the forced cells as the released guide's own fill.sh prints them over the translation 5e9116c4255d647d… (all of the seat's roots in one cut). By AI agents, Wed Nov 11 2026. No macro, syntax, notation, axiom, sorry.
-/
import Derived.Test.YtlefjlclhmapaaaChecked
import GoSem.Claim
import GoSem.ClaimJoined
import GoSem.ClaimMapViews
import Derived.JoinedTies
import Derived.KernelRfl
namespace Go.Proofs.Ytlefjlclhmapaaa
/- THE CELL 'sum', in the pinned program and in every row, IS THE sha256 OF THE DUMP (.gsa) THAT YtlefjlclhmapaaaProg.lean LOADS. Nothing in Lean hashes anything: it is a label: what it is worth is what the hold of that sum in a sandbox is worth. -/
noncomputable def Try.pinned : Pinned := { name := "ytlefjlclhmapaaa", sum := "5e9116c4255d647d605f5634dc66364ceb56b1a9a398c02fba1cbac5abbffa5b", checked := Try.checked }
namespace Rows
def none {H : Type} : Left H := { results := [], args := [] }

/-- 'dragnetlaw24.NetworkPlans': WHATEVER THE INPUT: true; the input reads as it did. -/
def networkPlansSpec : ChangeSpec := { name := "networkPlans", fn := fun _ => fun
  | [d] => { results := [.lit (.bool true)], args := [d] }
  | _ => none }
def networkPlansRow : OpenClaim := { program := "ytlefjlclhmapaaa", sum := "5e9116c4255d647d605f5634dc66364ceb56b1a9a398c02fba1cbac5abbffa5b", func := "dragnet/dragnetlaw24.NetworkPlans", spec := "networkPlans", unfollowed := true, recurses := true, apart := false }
def NetworkPlansSaid : Prop := networkPlansRow.holds Try.pinned (OpenSpec.ofChange networkPlansSpec)

/-- ITS FALSE NEIGHBOUR: 'it returns false'. Refute it at one input. -/
def networkPlansWrong : ChangeSpec := { name := "networkPlans", fn := fun _ => fun
  | [d] => { results := [.lit (.bool false)], args := [d] }
  | _ => none }
def NetworkPlansWrongFalsely : Prop := networkPlansRow.holds Try.pinned (OpenSpec.ofChange networkPlansWrong)

/-- 'dragnetlaw24.NetworkAgain': WHATEVER THE INPUT: true; the input reads as it did. -/
def networkAgainSpec : ChangeSpec := { name := "networkAgain", fn := fun _ => fun
  | [d1, d2] => { results := [.lit (.bool true)], args := [d1, d2] }
  | _ => none }
def networkAgainRow : OpenClaim := { program := "ytlefjlclhmapaaa", sum := "5e9116c4255d647d605f5634dc66364ceb56b1a9a398c02fba1cbac5abbffa5b", func := "dragnet/dragnetlaw24.NetworkAgain", spec := "networkAgain", unfollowed := true, recurses := true, apart := false }
def NetworkAgainSaid : Prop := networkAgainRow.holds Try.pinned (OpenSpec.ofChange networkAgainSpec)

/-- ITS FALSE NEIGHBOUR: 'it returns false'. Refute it at one input. -/
def networkAgainWrong : ChangeSpec := { name := "networkAgain", fn := fun _ => fun
  | [d1, d2] => { results := [.lit (.bool false)], args := [d1, d2] }
  | _ => none }
def NetworkAgainWrongFalsely : Prop := networkAgainRow.holds Try.pinned (OpenSpec.ofChange networkAgainWrong)

/-- 'dragnetlaw24.NetworkApplies': WHATEVER THE INPUT: true; the input reads as it did. -/
def networkAppliesSpec : ChangeSpec := { name := "networkApplies", fn := fun _ => fun
  | [d1, d2] => { results := [.lit (.bool true)], args := [d1, d2] }
  | _ => none }
def networkAppliesRow : OpenClaim := { program := "ytlefjlclhmapaaa", sum := "5e9116c4255d647d605f5634dc66364ceb56b1a9a398c02fba1cbac5abbffa5b", func := "dragnet/dragnetlaw24.NetworkApplies", spec := "networkApplies", unfollowed := true, recurses := true, apart := false }
def NetworkAppliesSaid : Prop := networkAppliesRow.holds Try.pinned (OpenSpec.ofChange networkAppliesSpec)

/-- ITS FALSE NEIGHBOUR: 'it returns false'. Refute it at one input. -/
def networkAppliesWrong : ChangeSpec := { name := "networkApplies", fn := fun _ => fun
  | [d1, d2] => { results := [.lit (.bool false)], args := [d1, d2] }
  | _ => none }
def NetworkAppliesWrongFalsely : Prop := networkAppliesRow.holds Try.pinned (OpenSpec.ofChange networkAppliesWrong)

/-- 'dragnetlaw24.NetworkPacks': WHATEVER THE INPUT: true; the input reads as it did. -/
def networkPacksSpec : ChangeSpec := { name := "networkPacks", fn := fun _ => fun
  | [d] => { results := [.lit (.bool true)], args := [d] }
  | _ => none }
def networkPacksRow : OpenClaim := { program := "ytlefjlclhmapaaa", sum := "5e9116c4255d647d605f5634dc66364ceb56b1a9a398c02fba1cbac5abbffa5b", func := "dragnet/dragnetlaw24.NetworkPacks", spec := "networkPacks", unfollowed := true, recurses := true, apart := false }
def NetworkPacksSaid : Prop := networkPacksRow.holds Try.pinned (OpenSpec.ofChange networkPacksSpec)

/-- ITS FALSE NEIGHBOUR: 'it returns false'. Refute it at one input. -/
def networkPacksWrong : ChangeSpec := { name := "networkPacks", fn := fun _ => fun
  | [d] => { results := [.lit (.bool false)], args := [d] }
  | _ => none }
def NetworkPacksWrongFalsely : Prop := networkPacksRow.holds Try.pinned (OpenSpec.ofChange networkPacksWrong)

/-- 'dragnetlaw24.NetworkRoutes': WHATEVER THE INPUT: true; the input reads as it did. -/
def networkRoutesSpec : ChangeSpec := { name := "networkRoutes", fn := fun _ => fun
  | [d1, d2] => { results := [.lit (.bool true)], args := [d1, d2] }
  | _ => none }
def networkRoutesRow : OpenClaim := { program := "ytlefjlclhmapaaa", sum := "5e9116c4255d647d605f5634dc66364ceb56b1a9a398c02fba1cbac5abbffa5b", func := "dragnet/dragnetlaw24.NetworkRoutes", spec := "networkRoutes", unfollowed := true, recurses := true, apart := false }
def NetworkRoutesSaid : Prop := networkRoutesRow.holds Try.pinned (OpenSpec.ofChange networkRoutesSpec)

/-- ITS FALSE NEIGHBOUR: 'it returns false'. Refute it at one input. -/
def networkRoutesWrong : ChangeSpec := { name := "networkRoutes", fn := fun _ => fun
  | [d1, d2] => { results := [.lit (.bool false)], args := [d1, d2] }
  | _ => none }
def NetworkRoutesWrongFalsely : Prop := networkRoutesRow.holds Try.pinned (OpenSpec.ofChange networkRoutesWrong)

/-- 'dragnetlaw24.NetworkBlind': WHATEVER THE INPUT: true; the input reads as it did. -/
def networkBlindSpec : ChangeSpec := { name := "networkBlind", fn := fun _ => fun
  | [d1, d2, d3] => { results := [.lit (.bool true)], args := [d1, d2, d3] }
  | _ => none }
def networkBlindRow : OpenClaim := { program := "ytlefjlclhmapaaa", sum := "5e9116c4255d647d605f5634dc66364ceb56b1a9a398c02fba1cbac5abbffa5b", func := "dragnet/dragnetlaw24.NetworkBlind", spec := "networkBlind", unfollowed := true, recurses := true, apart := false }
def NetworkBlindSaid : Prop := networkBlindRow.holds Try.pinned (OpenSpec.ofChange networkBlindSpec)

/-- ITS FALSE NEIGHBOUR: 'it returns false'. Refute it at one input. -/
def networkBlindWrong : ChangeSpec := { name := "networkBlind", fn := fun _ => fun
  | [d1, d2, d3] => { results := [.lit (.bool false)], args := [d1, d2, d3] }
  | _ => none }
def NetworkBlindWrongFalsely : Prop := networkBlindRow.holds Try.pinned (OpenSpec.ofChange networkBlindWrong)

/- THE SECOND FORM. 'bulk': how many values and letters a reading holds, each counted each time it is reached (what is shared counts as often as it is met; a slice's spare places count too). A statement '..UptoSaid' is the law's where the arguments, and the package variables that the reading takes, are together of bulk at most 1048576: NARROWER than '..Said'. Prove '..Said' where nothing that the law and all that it calls make is longer than what came in: it says more and counts as full. Else prove '..UptoSaid'. A law counts once. -/
mutual
def uptoBulk {H : Type} : DataW H → Nat
  | .lit (.string bytes) => bytes.length + 1
  | .lit _ => 1
  | .nil => 1
  | .ptr d => uptoBulk d + 1
  | .slice elems spare => uptoBulkAll elems + uptoBulkAll spare + 1
  | .agg parts => uptoBulkAll parts + 1
  | .iface _ d => uptoBulk d + 1
  | .map entries => uptoBulkEntries entries + 1
  | .held _ => 1
def uptoBulkAll {H : Type} : List (DataW H) → Nat
  | [] => 0
  | d :: r => uptoBulk d + uptoBulkAll r
def uptoBulkEntries {H : Type} : List (Lit × DataW H) → Nat
  | [] => 0
  | x :: r => uptoBulkEntry x + uptoBulkEntries r
def uptoBulkEntry {H : Type} : Lit × DataW H → Nat
  | (.string bytes, d) => bytes.length + uptoBulk d + 1
  | (_, d) => uptoBulk d + 1
 end
def uptoSmall : (H : Type) → List (DataW H) → Bool := fun _ ds => decide (uptoBulkAll ds ≤ 1048576)
def OpenSpec.upto (s : _root_.Go.ChangeSpec) : _root_.Go.OpenSpec := { _root_.Go.OpenSpec.ofChange s with cond := some uptoSmall }

/-- 'dragnetlaw24.NetworkPlans', WHERE WHAT IT READS IS OF BULK AT MOST 1048576: true; the input reads as it did. -/
def networkPlansUptoRow : OpenClaim := { program := "ytlefjlclhmapaaa", sum := "5e9116c4255d647d605f5634dc66364ceb56b1a9a398c02fba1cbac5abbffa5b", func := "dragnet/dragnetlaw24.NetworkPlans", spec := "networkPlans", unfollowed := true, recurses := true, apart := false, narrowed := true }
def NetworkPlansUptoSaid : Prop := networkPlansUptoRow.holds Try.pinned (OpenSpec.upto networkPlansSpec)

/-- 'dragnetlaw24.NetworkAgain', WHERE WHAT IT READS IS OF BULK AT MOST 1048576: true; the input reads as it did. -/
def networkAgainUptoRow : OpenClaim := { program := "ytlefjlclhmapaaa", sum := "5e9116c4255d647d605f5634dc66364ceb56b1a9a398c02fba1cbac5abbffa5b", func := "dragnet/dragnetlaw24.NetworkAgain", spec := "networkAgain", unfollowed := true, recurses := true, apart := false, narrowed := true }
def NetworkAgainUptoSaid : Prop := networkAgainUptoRow.holds Try.pinned (OpenSpec.upto networkAgainSpec)

/-- 'dragnetlaw24.NetworkApplies', WHERE WHAT IT READS IS OF BULK AT MOST 1048576: true; the input reads as it did. -/
def networkAppliesUptoRow : OpenClaim := { program := "ytlefjlclhmapaaa", sum := "5e9116c4255d647d605f5634dc66364ceb56b1a9a398c02fba1cbac5abbffa5b", func := "dragnet/dragnetlaw24.NetworkApplies", spec := "networkApplies", unfollowed := true, recurses := true, apart := false, narrowed := true }
def NetworkAppliesUptoSaid : Prop := networkAppliesUptoRow.holds Try.pinned (OpenSpec.upto networkAppliesSpec)

/-- 'dragnetlaw24.NetworkPacks', WHERE WHAT IT READS IS OF BULK AT MOST 1048576: true; the input reads as it did. -/
def networkPacksUptoRow : OpenClaim := { program := "ytlefjlclhmapaaa", sum := "5e9116c4255d647d605f5634dc66364ceb56b1a9a398c02fba1cbac5abbffa5b", func := "dragnet/dragnetlaw24.NetworkPacks", spec := "networkPacks", unfollowed := true, recurses := true, apart := false, narrowed := true }
def NetworkPacksUptoSaid : Prop := networkPacksUptoRow.holds Try.pinned (OpenSpec.upto networkPacksSpec)

/-- 'dragnetlaw24.NetworkRoutes', WHERE WHAT IT READS IS OF BULK AT MOST 1048576: true; the input reads as it did. -/
def networkRoutesUptoRow : OpenClaim := { program := "ytlefjlclhmapaaa", sum := "5e9116c4255d647d605f5634dc66364ceb56b1a9a398c02fba1cbac5abbffa5b", func := "dragnet/dragnetlaw24.NetworkRoutes", spec := "networkRoutes", unfollowed := true, recurses := true, apart := false, narrowed := true }
def NetworkRoutesUptoSaid : Prop := networkRoutesUptoRow.holds Try.pinned (OpenSpec.upto networkRoutesSpec)

/-- 'dragnetlaw24.NetworkBlind', WHERE WHAT IT READS IS OF BULK AT MOST 1048576: true; the input reads as it did. -/
def networkBlindUptoRow : OpenClaim := { program := "ytlefjlclhmapaaa", sum := "5e9116c4255d647d605f5634dc66364ceb56b1a9a398c02fba1cbac5abbffa5b", func := "dragnet/dragnetlaw24.NetworkBlind", spec := "networkBlind", unfollowed := true, recurses := true, apart := false, narrowed := true }
def NetworkBlindUptoSaid : Prop := networkBlindUptoRow.holds Try.pinned (OpenSpec.upto networkBlindSpec)

end Rows
end Go.Proofs.Ytlefjlclhmapaaa
