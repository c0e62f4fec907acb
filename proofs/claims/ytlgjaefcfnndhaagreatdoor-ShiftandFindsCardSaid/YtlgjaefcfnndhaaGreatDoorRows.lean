/-
  NARROWER THAN 'FOR EVERY INPUT', by the rows' own cells (each row's printed sentence says how): ShiftandSteps: laid · ShiftandFeeds: laid · ShiftandFinds: laid · ShiftandCuts: laid · ShiftandPositions: laid · ShiftandForgets: laid · ShiftandKnown: laid.
  DERIVED. THE GIVEN ROWS OF THIS SEAT. 7 by the template 'for every input the law returns true; each argument reads behind the call as it read before'; 0 by the template 'total and deterministic' (their statements: YtlgjaefcfnndhaaGreatDoorTotals.lean).
  GIVEN WITH THE SEED: the statements are not yours to turn. If you find one false, say at which input.
  Laid BY PROGRAM, IN A SANDBOX (cutbox-rows.mjs): the forced cells as the released guide's own fill.sh prints them over the translation 9a7e6fdeb10239fd… (all of the seat's roots in one cut). By AI agents, Wed Nov 11 2026. No macro, syntax, notation, axiom, sorry.
-/
import Derived.Test.YtlgjaefcfnndhaaGreatDoorChecked
import GoSem.Claim
import GoSem.ClaimJoined
import GoSem.ClaimMapViews
import Derived.JoinedTies
import Derived.KernelRfl
namespace Go.Proofs.YtlgjaefcfnndhaaGreatDoor
/- THE CELL 'sum', in the pinned program and in every row, IS THE sha256 OF THE DUMP (.gsa) THAT YtlgjaefcfnndhaaGreatDoorProg.lean LOADS. Nothing in Lean hashes anything: it is a label: what it is worth is what the hold of that sum in a sandbox is worth. -/
noncomputable def Tryz.pinned : Pinned := { name := "ytlgjaefcfnndhaagreatdoor", sum := "9a7e6fdeb10239fddd0be5654db165740bcc758c43540e47b249eb04e999b166", checked := Tryz.checked }
namespace Rows
def none {H : Type} : Left H := { results := [], args := [] }

/- WHAT THE LISTED PACKAGE-LEVEL VARIABLES READ AS WHEN THE CALL BEGINS. Each datum BY PROGRAM (the guide's laid-datum.mjs) off the statement by which the dump's own 'gosem.cut.vars' lays the variable. In a bare row this is a premise. The card (YtlgjaefcfnndhaaGreatDoorCards.lean) ties it to the program's text. -/
def laid_math_bits_deBruijn64tab {H : Type} : DataW H := .agg [.lit (.int .u8 0), .lit (.int .u8 1), .lit (.int .u8 56), .lit (.int .u8 2), .lit (.int .u8 57), .lit (.int .u8 49), .lit (.int .u8 28), .lit (.int .u8 3), .lit (.int .u8 61), .lit (.int .u8 58), .lit (.int .u8 42), .lit (.int .u8 50), .lit (.int .u8 38), .lit (.int .u8 29), .lit (.int .u8 17), .lit (.int .u8 4), .lit (.int .u8 62), .lit (.int .u8 47), .lit (.int .u8 59), .lit (.int .u8 36), .lit (.int .u8 45), .lit (.int .u8 43), .lit (.int .u8 51), .lit (.int .u8 22), .lit (.int .u8 53), .lit (.int .u8 39), .lit (.int .u8 33), .lit (.int .u8 30), .lit (.int .u8 24), .lit (.int .u8 18), .lit (.int .u8 12), .lit (.int .u8 5), .lit (.int .u8 63), .lit (.int .u8 55), .lit (.int .u8 48), .lit (.int .u8 27), .lit (.int .u8 60), .lit (.int .u8 41), .lit (.int .u8 37), .lit (.int .u8 16), .lit (.int .u8 46), .lit (.int .u8 35), .lit (.int .u8 44), .lit (.int .u8 21), .lit (.int .u8 52), .lit (.int .u8 32), .lit (.int .u8 23), .lit (.int .u8 11), .lit (.int .u8 54), .lit (.int .u8 26), .lit (.int .u8 40), .lit (.int .u8 15), .lit (.int .u8 34), .lit (.int .u8 20), .lit (.int .u8 31), .lit (.int .u8 10), .lit (.int .u8 25), .lit (.int .u8 14), .lit (.int .u8 19), .lit (.int .u8 9), .lit (.int .u8 13), .lit (.int .u8 8), .lit (.int .u8 7), .lit (.int .u8 6)]

/-- 'dragnetlaw20.ShiftandSteps': WHATEVER THE INPUT: true; the input reads as it did. -/
def shiftandStepsSpec : ChangeSpec := { name := "shiftandSteps", fn := fun _ => fun
  | [d1, d2, d3] => { results := [.lit (.bool true)], args := [d1, d2, d3] }
  | _ => none }
def shiftandStepsRow : OpenClaim := { program := "ytlgjaefcfnndhaagreatdoor", sum := "9a7e6fdeb10239fddd0be5654db165740bcc758c43540e47b249eb04e999b166", func := "dragnet/dragnetlaw20.ShiftandSteps", spec := "shiftandSteps", unfollowed := true, recurses := true, named := ["math/bits.deBruijn64tab"], plainKeys := false, leaving := true, apart := false, laid := [("math/bits.deBruijn64tab", laid_math_bits_deBruijn64tab)] }
def ShiftandStepsSaid : Prop := shiftandStepsRow.holds Tryz.pinned (OpenSpec.ofChange shiftandStepsSpec)

/-- ITS FALSE NEIGHBOUR: 'it returns false'. Refute it at one input. -/
def shiftandStepsWrong : ChangeSpec := { name := "shiftandSteps", fn := fun _ => fun
  | [d1, d2, d3] => { results := [.lit (.bool false)], args := [d1, d2, d3] }
  | _ => none }
def ShiftandStepsWrongFalsely : Prop := shiftandStepsRow.holds Tryz.pinned (OpenSpec.ofChange shiftandStepsWrong)

/-- 'dragnetlaw20.ShiftandFeeds': WHATEVER THE INPUT: true; the input reads as it did. -/
def shiftandFeedsSpec : ChangeSpec := { name := "shiftandFeeds", fn := fun _ => fun
  | [d1, d2, d3] => { results := [.lit (.bool true)], args := [d1, d2, d3] }
  | _ => none }
def shiftandFeedsRow : OpenClaim := { program := "ytlgjaefcfnndhaagreatdoor", sum := "9a7e6fdeb10239fddd0be5654db165740bcc758c43540e47b249eb04e999b166", func := "dragnet/dragnetlaw20.ShiftandFeeds", spec := "shiftandFeeds", unfollowed := true, recurses := true, named := ["math/bits.deBruijn64tab"], plainKeys := false, leaving := true, apart := false, laid := [("math/bits.deBruijn64tab", laid_math_bits_deBruijn64tab)] }
def ShiftandFeedsSaid : Prop := shiftandFeedsRow.holds Tryz.pinned (OpenSpec.ofChange shiftandFeedsSpec)

/-- ITS FALSE NEIGHBOUR: 'it returns false'. Refute it at one input. -/
def shiftandFeedsWrong : ChangeSpec := { name := "shiftandFeeds", fn := fun _ => fun
  | [d1, d2, d3] => { results := [.lit (.bool false)], args := [d1, d2, d3] }
  | _ => none }
def ShiftandFeedsWrongFalsely : Prop := shiftandFeedsRow.holds Tryz.pinned (OpenSpec.ofChange shiftandFeedsWrong)

/-- 'dragnetlaw20.ShiftandFinds': WHATEVER THE INPUT: true; the input reads as it did. -/
def shiftandFindsSpec : ChangeSpec := { name := "shiftandFinds", fn := fun _ => fun
  | [d1, d2, d3] => { results := [.lit (.bool true)], args := [d1, d2, d3] }
  | _ => none }
def shiftandFindsRow : OpenClaim := { program := "ytlgjaefcfnndhaagreatdoor", sum := "9a7e6fdeb10239fddd0be5654db165740bcc758c43540e47b249eb04e999b166", func := "dragnet/dragnetlaw20.ShiftandFinds", spec := "shiftandFinds", unfollowed := true, recurses := true, named := ["math/bits.deBruijn64tab"], plainKeys := false, leaving := true, apart := false, laid := [("math/bits.deBruijn64tab", laid_math_bits_deBruijn64tab)] }
def ShiftandFindsSaid : Prop := shiftandFindsRow.holds Tryz.pinned (OpenSpec.ofChange shiftandFindsSpec)

/-- ITS FALSE NEIGHBOUR: 'it returns false'. Refute it at one input. -/
def shiftandFindsWrong : ChangeSpec := { name := "shiftandFinds", fn := fun _ => fun
  | [d1, d2, d3] => { results := [.lit (.bool false)], args := [d1, d2, d3] }
  | _ => none }
def ShiftandFindsWrongFalsely : Prop := shiftandFindsRow.holds Tryz.pinned (OpenSpec.ofChange shiftandFindsWrong)

/-- 'dragnetlaw20.ShiftandCuts': WHATEVER THE INPUT: true; the input reads as it did. -/
def shiftandCutsSpec : ChangeSpec := { name := "shiftandCuts", fn := fun _ => fun
  | [d1, d2, d3] => { results := [.lit (.bool true)], args := [d1, d2, d3] }
  | _ => none }
def shiftandCutsRow : OpenClaim := { program := "ytlgjaefcfnndhaagreatdoor", sum := "9a7e6fdeb10239fddd0be5654db165740bcc758c43540e47b249eb04e999b166", func := "dragnet/dragnetlaw20.ShiftandCuts", spec := "shiftandCuts", unfollowed := true, recurses := true, named := ["math/bits.deBruijn64tab"], plainKeys := false, leaving := true, apart := false, laid := [("math/bits.deBruijn64tab", laid_math_bits_deBruijn64tab)] }
def ShiftandCutsSaid : Prop := shiftandCutsRow.holds Tryz.pinned (OpenSpec.ofChange shiftandCutsSpec)

/-- ITS FALSE NEIGHBOUR: 'it returns false'. Refute it at one input. -/
def shiftandCutsWrong : ChangeSpec := { name := "shiftandCuts", fn := fun _ => fun
  | [d1, d2, d3] => { results := [.lit (.bool false)], args := [d1, d2, d3] }
  | _ => none }
def ShiftandCutsWrongFalsely : Prop := shiftandCutsRow.holds Tryz.pinned (OpenSpec.ofChange shiftandCutsWrong)

/-- 'dragnetlaw20.ShiftandPositions': WHATEVER THE INPUT: true; the input reads as it did. -/
def shiftandPositionsSpec : ChangeSpec := { name := "shiftandPositions", fn := fun _ => fun
  | [d1, d2] => { results := [.lit (.bool true)], args := [d1, d2] }
  | _ => none }
def shiftandPositionsRow : OpenClaim := { program := "ytlgjaefcfnndhaagreatdoor", sum := "9a7e6fdeb10239fddd0be5654db165740bcc758c43540e47b249eb04e999b166", func := "dragnet/dragnetlaw20.ShiftandPositions", spec := "shiftandPositions", unfollowed := true, recurses := true, named := ["math/bits.deBruijn64tab"], plainKeys := false, leaving := true, apart := false, laid := [("math/bits.deBruijn64tab", laid_math_bits_deBruijn64tab)] }
def ShiftandPositionsSaid : Prop := shiftandPositionsRow.holds Tryz.pinned (OpenSpec.ofChange shiftandPositionsSpec)

/-- ITS FALSE NEIGHBOUR: 'it returns false'. Refute it at one input. -/
def shiftandPositionsWrong : ChangeSpec := { name := "shiftandPositions", fn := fun _ => fun
  | [d1, d2] => { results := [.lit (.bool false)], args := [d1, d2] }
  | _ => none }
def ShiftandPositionsWrongFalsely : Prop := shiftandPositionsRow.holds Tryz.pinned (OpenSpec.ofChange shiftandPositionsWrong)

/-- 'dragnetlaw20.ShiftandForgets': WHATEVER THE INPUT: true; the input reads as it did. -/
def shiftandForgetsSpec : ChangeSpec := { name := "shiftandForgets", fn := fun _ => fun
  | [d1, d2, d3] => { results := [.lit (.bool true)], args := [d1, d2, d3] }
  | _ => none }
def shiftandForgetsRow : OpenClaim := { program := "ytlgjaefcfnndhaagreatdoor", sum := "9a7e6fdeb10239fddd0be5654db165740bcc758c43540e47b249eb04e999b166", func := "dragnet/dragnetlaw20.ShiftandForgets", spec := "shiftandForgets", unfollowed := true, recurses := true, named := ["math/bits.deBruijn64tab"], plainKeys := false, leaving := true, apart := false, laid := [("math/bits.deBruijn64tab", laid_math_bits_deBruijn64tab)] }
def ShiftandForgetsSaid : Prop := shiftandForgetsRow.holds Tryz.pinned (OpenSpec.ofChange shiftandForgetsSpec)

/-- ITS FALSE NEIGHBOUR: 'it returns false'. Refute it at one input. -/
def shiftandForgetsWrong : ChangeSpec := { name := "shiftandForgets", fn := fun _ => fun
  | [d1, d2, d3] => { results := [.lit (.bool false)], args := [d1, d2, d3] }
  | _ => none }
def ShiftandForgetsWrongFalsely : Prop := shiftandForgetsRow.holds Tryz.pinned (OpenSpec.ofChange shiftandForgetsWrong)

/-- 'dragnetlaw20.ShiftandKnown': WHATEVER THE INPUT: true; the input reads as it did. -/
def shiftandKnownSpec : ChangeSpec := { name := "shiftandKnown", fn := fun _ => fun
  | [] => { results := [.lit (.bool true)], args := [] }
  | _ => none }
def shiftandKnownRow : OpenClaim := { program := "ytlgjaefcfnndhaagreatdoor", sum := "9a7e6fdeb10239fddd0be5654db165740bcc758c43540e47b249eb04e999b166", func := "dragnet/dragnetlaw20.ShiftandKnown", spec := "shiftandKnown", unfollowed := true, recurses := true, named := ["math/bits.deBruijn64tab"], plainKeys := false, leaving := true, apart := false, laid := [("math/bits.deBruijn64tab", laid_math_bits_deBruijn64tab)] }
def ShiftandKnownSaid : Prop := shiftandKnownRow.holds Tryz.pinned (OpenSpec.ofChange shiftandKnownSpec)

/-- ITS FALSE NEIGHBOUR: 'it returns false'. Refute it at one input. -/
def shiftandKnownWrong : ChangeSpec := { name := "shiftandKnown", fn := fun _ => fun
  | [] => { results := [.lit (.bool false)], args := [] }
  | _ => none }
def ShiftandKnownWrongFalsely : Prop := shiftandKnownRow.holds Tryz.pinned (OpenSpec.ofChange shiftandKnownWrong)

/- THE SECOND FORM. 'bulk': how many values and letters a reading holds, each counted each time it is reached (what is shared counts as often as it is met; a slice's spare places count too). A statement '..UptoSaid' is the law's where the arguments, and the package variables that the reading takes, are together of bulk at most 1048576: NARROWER than '..Said'. Prove '..Said' where nothing that the law and all that it calls make is longer than what came in: it says more and counts as full. Else prove '..UptoSaid'. A law counts once. -/
mutual
def uptoBulk {H : Type} : DataW H → Nat
  | .lit (.string bytes) => bytes.length + 1
  | .lit _ => 1
  | .nil => 1
  | .ptr d => uptoBulk d + 1
  | .slice elems spare => uptoBulkAll elems + uptoBulkAll spare + 1
  | .agg parts => uptoBulkAll parts + 1
  | .iface _ d => uptoBulk d + 1
  | .map entries => uptoBulkEntries entries + 1
  | .held _ => 1
def uptoBulkAll {H : Type} : List (DataW H) → Nat
  | [] => 0
  | d :: r => uptoBulk d + uptoBulkAll r
def uptoBulkEntries {H : Type} : List (Lit × DataW H) → Nat
  | [] => 0
  | x :: r => uptoBulkEntry x + uptoBulkEntries r
def uptoBulkEntry {H : Type} : Lit × DataW H → Nat
  | (.string bytes, d) => bytes.length + uptoBulk d + 1
  | (_, d) => uptoBulk d + 1
 end
def uptoSmall : (H : Type) → List (DataW H) → Bool := fun _ ds => decide (uptoBulkAll ds ≤ 1048576)
def OpenSpec.upto (s : _root_.Go.ChangeSpec) : _root_.Go.OpenSpec := { _root_.Go.OpenSpec.ofChange s with cond := some uptoSmall }

/-- 'dragnetlaw20.ShiftandSteps', WHERE WHAT IT READS IS OF BULK AT MOST 1048576: true; the input reads as it did. -/
def shiftandStepsUptoRow : OpenClaim := { program := "ytlgjaefcfnndhaagreatdoor", sum := "9a7e6fdeb10239fddd0be5654db165740bcc758c43540e47b249eb04e999b166", func := "dragnet/dragnetlaw20.ShiftandSteps", spec := "shiftandSteps", unfollowed := true, recurses := true, named := ["math/bits.deBruijn64tab"], plainKeys := false, leaving := true, apart := false, laid := [("math/bits.deBruijn64tab", laid_math_bits_deBruijn64tab)], narrowed := true }
def ShiftandStepsUptoSaid : Prop := shiftandStepsUptoRow.holds Tryz.pinned (OpenSpec.upto shiftandStepsSpec)

/-- 'dragnetlaw20.ShiftandFeeds', WHERE WHAT IT READS IS OF BULK AT MOST 1048576: true; the input reads as it did. -/
def shiftandFeedsUptoRow : OpenClaim := { program := "ytlgjaefcfnndhaagreatdoor", sum := "9a7e6fdeb10239fddd0be5654db165740bcc758c43540e47b249eb04e999b166", func := "dragnet/dragnetlaw20.ShiftandFeeds", spec := "shiftandFeeds", unfollowed := true, recurses := true, named := ["math/bits.deBruijn64tab"], plainKeys := false, leaving := true, apart := false, laid := [("math/bits.deBruijn64tab", laid_math_bits_deBruijn64tab)], narrowed := true }
def ShiftandFeedsUptoSaid : Prop := shiftandFeedsUptoRow.holds Tryz.pinned (OpenSpec.upto shiftandFeedsSpec)

/-- 'dragnetlaw20.ShiftandFinds', WHERE WHAT IT READS IS OF BULK AT MOST 1048576: true; the input reads as it did. -/
def shiftandFindsUptoRow : OpenClaim := { program := "ytlgjaefcfnndhaagreatdoor", sum := "9a7e6fdeb10239fddd0be5654db165740bcc758c43540e47b249eb04e999b166", func := "dragnet/dragnetlaw20.ShiftandFinds", spec := "shiftandFinds", unfollowed := true, recurses := true, named := ["math/bits.deBruijn64tab"], plainKeys := false, leaving := true, apart := false, laid := [("math/bits.deBruijn64tab", laid_math_bits_deBruijn64tab)], narrowed := true }
def ShiftandFindsUptoSaid : Prop := shiftandFindsUptoRow.holds Tryz.pinned (OpenSpec.upto shiftandFindsSpec)

/-- 'dragnetlaw20.ShiftandCuts', WHERE WHAT IT READS IS OF BULK AT MOST 1048576: true; the input reads as it did. -/
def shiftandCutsUptoRow : OpenClaim := { program := "ytlgjaefcfnndhaagreatdoor", sum := "9a7e6fdeb10239fddd0be5654db165740bcc758c43540e47b249eb04e999b166", func := "dragnet/dragnetlaw20.ShiftandCuts", spec := "shiftandCuts", unfollowed := true, recurses := true, named := ["math/bits.deBruijn64tab"], plainKeys := false, leaving := true, apart := false, laid := [("math/bits.deBruijn64tab", laid_math_bits_deBruijn64tab)], narrowed := true }
def ShiftandCutsUptoSaid : Prop := shiftandCutsUptoRow.holds Tryz.pinned (OpenSpec.upto shiftandCutsSpec)

/-- 'dragnetlaw20.ShiftandPositions', WHERE WHAT IT READS IS OF BULK AT MOST 1048576: true; the input reads as it did. -/
def shiftandPositionsUptoRow : OpenClaim := { program := "ytlgjaefcfnndhaagreatdoor", sum := "9a7e6fdeb10239fddd0be5654db165740bcc758c43540e47b249eb04e999b166", func := "dragnet/dragnetlaw20.ShiftandPositions", spec := "shiftandPositions", unfollowed := true, recurses := true, named := ["math/bits.deBruijn64tab"], plainKeys := false, leaving := true, apart := false, laid := [("math/bits.deBruijn64tab", laid_math_bits_deBruijn64tab)], narrowed := true }
def ShiftandPositionsUptoSaid : Prop := shiftandPositionsUptoRow.holds Tryz.pinned (OpenSpec.upto shiftandPositionsSpec)

/-- 'dragnetlaw20.ShiftandForgets', WHERE WHAT IT READS IS OF BULK AT MOST 1048576: true; the input reads as it did. -/
def shiftandForgetsUptoRow : OpenClaim := { program := "ytlgjaefcfnndhaagreatdoor", sum := "9a7e6fdeb10239fddd0be5654db165740bcc758c43540e47b249eb04e999b166", func := "dragnet/dragnetlaw20.ShiftandForgets", spec := "shiftandForgets", unfollowed := true, recurses := true, named := ["math/bits.deBruijn64tab"], plainKeys := false, leaving := true, apart := false, laid := [("math/bits.deBruijn64tab", laid_math_bits_deBruijn64tab)], narrowed := true }
def ShiftandForgetsUptoSaid : Prop := shiftandForgetsUptoRow.holds Tryz.pinned (OpenSpec.upto shiftandForgetsSpec)

/-- 'dragnetlaw20.ShiftandKnown', WHERE WHAT IT READS IS OF BULK AT MOST 1048576: true; the input reads as it did. -/
def shiftandKnownUptoRow : OpenClaim := { program := "ytlgjaefcfnndhaagreatdoor", sum := "9a7e6fdeb10239fddd0be5654db165740bcc758c43540e47b249eb04e999b166", func := "dragnet/dragnetlaw20.ShiftandKnown", spec := "shiftandKnown", unfollowed := true, recurses := true, named := ["math/bits.deBruijn64tab"], plainKeys := false, leaving := true, apart := false, laid := [("math/bits.deBruijn64tab", laid_math_bits_deBruijn64tab)], narrowed := true }
def ShiftandKnownUptoSaid : Prop := shiftandKnownUptoRow.holds Tryz.pinned (OpenSpec.upto shiftandKnownSpec)

end Rows
end Go.Proofs.YtlgjaefcfnndhaaGreatDoor
