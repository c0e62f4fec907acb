/-
  NARROWER THAN 'FOR EVERY INPUT', by the rows' own cells (each row's printed sentence says how): EngineClears: laid · EngineCalls: laid · EngineSteps: laid · EngineReads: laid · EngineBlind: laid · EngineKnown: laid · EngineNone: laid.
  DERIVED. THE GIVEN ROWS OF THIS SEAT. 7 by the template 'for every input the law returns true; each argument reads behind the call as it read before'; 0 by the template 'total and deterministic' (their statements: YtkflicifngohcaaGreatDoorTotals.lean).
  GIVEN WITH THE SEED: the statements are not yours to turn. If you find one false, say at which input.
  Laid BY PROGRAM, IN A SANDBOX (cutbox-rows.mjs): the forced cells as the released guide's own fill.sh prints them over the translation aec758f745e30f1a… (all of the seat's roots in one cut). By AI agents, Wed Nov 11 2026. No macro, syntax, notation, axiom, sorry.
-/
import Derived.Test.YtkflicifngohcaaGreatDoorChecked
import GoSem.Claim
import GoSem.ClaimJoined
import GoSem.ClaimMapViews
import Derived.JoinedTies
import Derived.KernelRfl
namespace Go.Proofs.YtkflicifngohcaaGreatDoor
/- THE CELL 'sum', in the pinned program and in every row, IS THE sha256 OF THE DUMP (.gsa) THAT YtkflicifngohcaaGreatDoorProg.lean LOADS. Nothing in Lean hashes anything: it is a label: what it is worth is what the hold of that sum in a sandbox is worth. -/
noncomputable def Tryz.pinned : Pinned := { name := "ytkflicifngohcaagreatdoor", sum := "aec758f745e30f1a41a177bf5237bcc9beba21af2543761eda456869ec474d6d", checked := Tryz.checked }
namespace Rows
def none {H : Type} : Left H := { results := [], args := [] }

/- WHAT THE LISTED PACKAGE-LEVEL VARIABLES READ AS WHEN THE CALL BEGINS. Each datum BY PROGRAM (the guide's laid-datum.mjs) off the statement by which the dump's own 'gosem.cut.vars' lays the variable. In a bare row this is a premise. The card (YtkflicifngohcaaGreatDoorCards.lean) ties it to the program's text. -/
def laid_math_bits_deBruijn64tab {H : Type} : DataW H := .agg [.lit (.int .u8 0), .lit (.int .u8 1), .lit (.int .u8 56), .lit (.int .u8 2), .lit (.int .u8 57), .lit (.int .u8 49), .lit (.int .u8 28), .lit (.int .u8 3), .lit (.int .u8 61), .lit (.int .u8 58), .lit (.int .u8 42), .lit (.int .u8 50), .lit (.int .u8 38), .lit (.int .u8 29), .lit (.int .u8 17), .lit (.int .u8 4), .lit (.int .u8 62), .lit (.int .u8 47), .lit (.int .u8 59), .lit (.int .u8 36), .lit (.int .u8 45), .lit (.int .u8 43), .lit (.int .u8 51), .lit (.int .u8 22), .lit (.int .u8 53), .lit (.int .u8 39), .lit (.int .u8 33), .lit (.int .u8 30), .lit (.int .u8 24), .lit (.int .u8 18), .lit (.int .u8 12), .lit (.int .u8 5), .lit (.int .u8 63), .lit (.int .u8 55), .lit (.int .u8 48), .lit (.int .u8 27), .lit (.int .u8 60), .lit (.int .u8 41), .lit (.int .u8 37), .lit (.int .u8 16), .lit (.int .u8 46), .lit (.int .u8 35), .lit (.int .u8 44), .lit (.int .u8 21), .lit (.int .u8 52), .lit (.int .u8 32), .lit (.int .u8 23), .lit (.int .u8 11), .lit (.int .u8 54), .lit (.int .u8 26), .lit (.int .u8 40), .lit (.int .u8 15), .lit (.int .u8 34), .lit (.int .u8 20), .lit (.int .u8 31), .lit (.int .u8 10), .lit (.int .u8 25), .lit (.int .u8 14), .lit (.int .u8 19), .lit (.int .u8 9), .lit (.int .u8 13), .lit (.int .u8 8), .lit (.int .u8 7), .lit (.int .u8 6)]

/-- 'dragnetlaw21.EngineClears': WHATEVER THE INPUT: true; the input reads as it did. -/
def engineClearsSpec : ChangeSpec := { name := "engineClears", fn := fun _ => fun
  | [d1, d2] => { results := [.lit (.bool true)], args := [d1, d2] }
  | _ => none }
def engineClearsRow : OpenClaim := { program := "ytkflicifngohcaagreatdoor", sum := "aec758f745e30f1a41a177bf5237bcc9beba21af2543761eda456869ec474d6d", func := "dragnet/dragnetlaw21.EngineClears", spec := "engineClears", unfollowed := true, recurses := true, named := ["math/bits.deBruijn64tab"], plainKeys := false, apart := false, laid := [("math/bits.deBruijn64tab", laid_math_bits_deBruijn64tab)] }
def EngineClearsSaid : Prop := engineClearsRow.holds Tryz.pinned (OpenSpec.ofChange engineClearsSpec)

/-- ITS FALSE NEIGHBOUR: 'it returns false'. Refute it at one input. -/
def engineClearsWrong : ChangeSpec := { name := "engineClears", fn := fun _ => fun
  | [d1, d2] => { results := [.lit (.bool false)], args := [d1, d2] }
  | _ => none }
def EngineClearsWrongFalsely : Prop := engineClearsRow.holds Tryz.pinned (OpenSpec.ofChange engineClearsWrong)

/-- 'dragnetlaw21.EngineCalls': WHATEVER THE INPUT: true; the input reads as it did. -/
def engineCallsSpec : ChangeSpec := { name := "engineCalls", fn := fun _ => fun
  | [d1, d2, d3] => { results := [.lit (.bool true)], args := [d1, d2, d3] }
  | _ => none }
def engineCallsRow : OpenClaim := { program := "ytkflicifngohcaagreatdoor", sum := "aec758f745e30f1a41a177bf5237bcc9beba21af2543761eda456869ec474d6d", func := "dragnet/dragnetlaw21.EngineCalls", spec := "engineCalls", unfollowed := true, recurses := true, named := ["math/bits.deBruijn64tab"], plainKeys := false, apart := false, laid := [("math/bits.deBruijn64tab", laid_math_bits_deBruijn64tab)] }
def EngineCallsSaid : Prop := engineCallsRow.holds Tryz.pinned (OpenSpec.ofChange engineCallsSpec)

/-- ITS FALSE NEIGHBOUR: 'it returns false'. Refute it at one input. -/
def engineCallsWrong : ChangeSpec := { name := "engineCalls", fn := fun _ => fun
  | [d1, d2, d3] => { results := [.lit (.bool false)], args := [d1, d2, d3] }
  | _ => none }
def EngineCallsWrongFalsely : Prop := engineCallsRow.holds Tryz.pinned (OpenSpec.ofChange engineCallsWrong)

/-- 'dragnetlaw21.EngineSteps': WHATEVER THE INPUT: true; the input reads as it did. -/
def engineStepsSpec : ChangeSpec := { name := "engineSteps", fn := fun _ => fun
  | [d1, d2] => { results := [.lit (.bool true)], args := [d1, d2] }
  | _ => none }
def engineStepsRow : OpenClaim := { program := "ytkflicifngohcaagreatdoor", sum := "aec758f745e30f1a41a177bf5237bcc9beba21af2543761eda456869ec474d6d", func := "dragnet/dragnetlaw21.EngineSteps", spec := "engineSteps", unfollowed := true, recurses := true, named := ["math/bits.deBruijn64tab"], plainKeys := false, apart := false, laid := [("math/bits.deBruijn64tab", laid_math_bits_deBruijn64tab)] }
def EngineStepsSaid : Prop := engineStepsRow.holds Tryz.pinned (OpenSpec.ofChange engineStepsSpec)

/-- ITS FALSE NEIGHBOUR: 'it returns false'. Refute it at one input. -/
def engineStepsWrong : ChangeSpec := { name := "engineSteps", fn := fun _ => fun
  | [d1, d2] => { results := [.lit (.bool false)], args := [d1, d2] }
  | _ => none }
def EngineStepsWrongFalsely : Prop := engineStepsRow.holds Tryz.pinned (OpenSpec.ofChange engineStepsWrong)

/-- 'dragnetlaw21.EngineReads': WHATEVER THE INPUT: true; the input reads as it did. -/
def engineReadsSpec : ChangeSpec := { name := "engineReads", fn := fun _ => fun
  | [d1, d2, d3] => { results := [.lit (.bool true)], args := [d1, d2, d3] }
  | _ => none }
def engineReadsRow : OpenClaim := { program := "ytkflicifngohcaagreatdoor", sum := "aec758f745e30f1a41a177bf5237bcc9beba21af2543761eda456869ec474d6d", func := "dragnet/dragnetlaw21.EngineReads", spec := "engineReads", unfollowed := true, recurses := true, named := ["math/bits.deBruijn64tab"], plainKeys := false, apart := false, laid := [("math/bits.deBruijn64tab", laid_math_bits_deBruijn64tab)] }
def EngineReadsSaid : Prop := engineReadsRow.holds Tryz.pinned (OpenSpec.ofChange engineReadsSpec)

/-- ITS FALSE NEIGHBOUR: 'it returns false'. Refute it at one input. -/
def engineReadsWrong : ChangeSpec := { name := "engineReads", fn := fun _ => fun
  | [d1, d2, d3] => { results := [.lit (.bool false)], args := [d1, d2, d3] }
  | _ => none }
def EngineReadsWrongFalsely : Prop := engineReadsRow.holds Tryz.pinned (OpenSpec.ofChange engineReadsWrong)

/-- 'dragnetlaw21.EngineBlind': WHATEVER THE INPUT: true; the input reads as it did. -/
def engineBlindSpec : ChangeSpec := { name := "engineBlind", fn := fun _ => fun
  | [d1, d2, d3] => { results := [.lit (.bool true)], args := [d1, d2, d3] }
  | _ => none }
def engineBlindRow : OpenClaim := { program := "ytkflicifngohcaagreatdoor", sum := "aec758f745e30f1a41a177bf5237bcc9beba21af2543761eda456869ec474d6d", func := "dragnet/dragnetlaw21.EngineBlind", spec := "engineBlind", unfollowed := true, recurses := true, named := ["math/bits.deBruijn64tab"], plainKeys := false, apart := false, laid := [("math/bits.deBruijn64tab", laid_math_bits_deBruijn64tab)] }
def EngineBlindSaid : Prop := engineBlindRow.holds Tryz.pinned (OpenSpec.ofChange engineBlindSpec)

/-- ITS FALSE NEIGHBOUR: 'it returns false'. Refute it at one input. -/
def engineBlindWrong : ChangeSpec := { name := "engineBlind", fn := fun _ => fun
  | [d1, d2, d3] => { results := [.lit (.bool false)], args := [d1, d2, d3] }
  | _ => none }
def EngineBlindWrongFalsely : Prop := engineBlindRow.holds Tryz.pinned (OpenSpec.ofChange engineBlindWrong)

/-- 'dragnetlaw21.EngineKnown': WHATEVER THE INPUT: true; the input reads as it did. -/
def engineKnownSpec : ChangeSpec := { name := "engineKnown", fn := fun _ => fun
  | [] => { results := [.lit (.bool true)], args := [] }
  | _ => none }
def engineKnownRow : OpenClaim := { program := "ytkflicifngohcaagreatdoor", sum := "aec758f745e30f1a41a177bf5237bcc9beba21af2543761eda456869ec474d6d", func := "dragnet/dragnetlaw21.EngineKnown", spec := "engineKnown", unfollowed := true, recurses := true, named := ["math/bits.deBruijn64tab"], plainKeys := false, apart := false, laid := [("math/bits.deBruijn64tab", laid_math_bits_deBruijn64tab)] }
def EngineKnownSaid : Prop := engineKnownRow.holds Tryz.pinned (OpenSpec.ofChange engineKnownSpec)

/-- ITS FALSE NEIGHBOUR: 'it returns false'. Refute it at one input. -/
def engineKnownWrong : ChangeSpec := { name := "engineKnown", fn := fun _ => fun
  | [] => { results := [.lit (.bool false)], args := [] }
  | _ => none }
def EngineKnownWrongFalsely : Prop := engineKnownRow.holds Tryz.pinned (OpenSpec.ofChange engineKnownWrong)

/-- 'dragnetlaw21.EngineNone': WHATEVER THE INPUT: true; the input reads as it did. -/
def engineNoneSpec : ChangeSpec := { name := "engineNone", fn := fun _ => fun
  | [d1, d2, d3] => { results := [.lit (.bool true)], args := [d1, d2, d3] }
  | _ => none }
def engineNoneRow : OpenClaim := { program := "ytkflicifngohcaagreatdoor", sum := "aec758f745e30f1a41a177bf5237bcc9beba21af2543761eda456869ec474d6d", func := "dragnet/dragnetlaw21.EngineNone", spec := "engineNone", unfollowed := true, recurses := true, named := ["math/bits.deBruijn64tab"], plainKeys := false, apart := false, laid := [("math/bits.deBruijn64tab", laid_math_bits_deBruijn64tab)] }
def EngineNoneSaid : Prop := engineNoneRow.holds Tryz.pinned (OpenSpec.ofChange engineNoneSpec)

/-- ITS FALSE NEIGHBOUR: 'it returns false'. Refute it at one input. -/
def engineNoneWrong : ChangeSpec := { name := "engineNone", fn := fun _ => fun
  | [d1, d2, d3] => { results := [.lit (.bool false)], args := [d1, d2, d3] }
  | _ => none }
def EngineNoneWrongFalsely : Prop := engineNoneRow.holds Tryz.pinned (OpenSpec.ofChange engineNoneWrong)

/- THE SECOND FORM. 'bulk': how many values and letters a reading holds, each counted each time it is reached (what is shared counts as often as it is met; a slice's spare places count too). A statement '..UptoSaid' is the law's where the arguments, and the package variables that the reading takes, are together of bulk at most 1048576: NARROWER than '..Said'. Prove '..Said' where nothing that the law and all that it calls make is longer than what came in: it says more and counts as full. Else prove '..UptoSaid'. A law counts once. -/
mutual
def uptoBulk {H : Type} : DataW H → Nat
  | .lit (.string bytes) => bytes.length + 1
  | .lit _ => 1
  | .nil => 1
  | .ptr d => uptoBulk d + 1
  | .slice elems spare => uptoBulkAll elems + uptoBulkAll spare + 1
  | .agg parts => uptoBulkAll parts + 1
  | .iface _ d => uptoBulk d + 1
  | .map entries => uptoBulkEntries entries + 1
  | .held _ => 1
def uptoBulkAll {H : Type} : List (DataW H) → Nat
  | [] => 0
  | d :: r => uptoBulk d + uptoBulkAll r
def uptoBulkEntries {H : Type} : List (Lit × DataW H) → Nat
  | [] => 0
  | x :: r => uptoBulkEntry x + uptoBulkEntries r
def uptoBulkEntry {H : Type} : Lit × DataW H → Nat
  | (.string bytes, d) => bytes.length + uptoBulk d + 1
  | (_, d) => uptoBulk d + 1
 end
def uptoSmall : (H : Type) → List (DataW H) → Bool := fun _ ds => decide (uptoBulkAll ds ≤ 1048576)
def OpenSpec.upto (s : _root_.Go.ChangeSpec) : _root_.Go.OpenSpec := { _root_.Go.OpenSpec.ofChange s with cond := some uptoSmall }

/-- 'dragnetlaw21.EngineClears', WHERE WHAT IT READS IS OF BULK AT MOST 1048576: true; the input reads as it did. -/
def engineClearsUptoRow : OpenClaim := { program := "ytkflicifngohcaagreatdoor", sum := "aec758f745e30f1a41a177bf5237bcc9beba21af2543761eda456869ec474d6d", func := "dragnet/dragnetlaw21.EngineClears", spec := "engineClears", unfollowed := true, recurses := true, named := ["math/bits.deBruijn64tab"], plainKeys := false, apart := false, laid := [("math/bits.deBruijn64tab", laid_math_bits_deBruijn64tab)], narrowed := true }
def EngineClearsUptoSaid : Prop := engineClearsUptoRow.holds Tryz.pinned (OpenSpec.upto engineClearsSpec)

/-- 'dragnetlaw21.EngineCalls', WHERE WHAT IT READS IS OF BULK AT MOST 1048576: true; the input reads as it did. -/
def engineCallsUptoRow : OpenClaim := { program := "ytkflicifngohcaagreatdoor", sum := "aec758f745e30f1a41a177bf5237bcc9beba21af2543761eda456869ec474d6d", func := "dragnet/dragnetlaw21.EngineCalls", spec := "engineCalls", unfollowed := true, recurses := true, named := ["math/bits.deBruijn64tab"], plainKeys := false, apart := false, laid := [("math/bits.deBruijn64tab", laid_math_bits_deBruijn64tab)], narrowed := true }
def EngineCallsUptoSaid : Prop := engineCallsUptoRow.holds Tryz.pinned (OpenSpec.upto engineCallsSpec)

/-- 'dragnetlaw21.EngineSteps', WHERE WHAT IT READS IS OF BULK AT MOST 1048576: true; the input reads as it did. -/
def engineStepsUptoRow : OpenClaim := { program := "ytkflicifngohcaagreatdoor", sum := "aec758f745e30f1a41a177bf5237bcc9beba21af2543761eda456869ec474d6d", func := "dragnet/dragnetlaw21.EngineSteps", spec := "engineSteps", unfollowed := true, recurses := true, named := ["math/bits.deBruijn64tab"], plainKeys := false, apart := false, laid := [("math/bits.deBruijn64tab", laid_math_bits_deBruijn64tab)], narrowed := true }
def EngineStepsUptoSaid : Prop := engineStepsUptoRow.holds Tryz.pinned (OpenSpec.upto engineStepsSpec)

/-- 'dragnetlaw21.EngineReads', WHERE WHAT IT READS IS OF BULK AT MOST 1048576: true; the input reads as it did. -/
def engineReadsUptoRow : OpenClaim := { program := "ytkflicifngohcaagreatdoor", sum := "aec758f745e30f1a41a177bf5237bcc9beba21af2543761eda456869ec474d6d", func := "dragnet/dragnetlaw21.EngineReads", spec := "engineReads", unfollowed := true, recurses := true, named := ["math/bits.deBruijn64tab"], plainKeys := false, apart := false, laid := [("math/bits.deBruijn64tab", laid_math_bits_deBruijn64tab)], narrowed := true }
def EngineReadsUptoSaid : Prop := engineReadsUptoRow.holds Tryz.pinned (OpenSpec.upto engineReadsSpec)

/-- 'dragnetlaw21.EngineBlind', WHERE WHAT IT READS IS OF BULK AT MOST 1048576: true; the input reads as it did. -/
def engineBlindUptoRow : OpenClaim := { program := "ytkflicifngohcaagreatdoor", sum := "aec758f745e30f1a41a177bf5237bcc9beba21af2543761eda456869ec474d6d", func := "dragnet/dragnetlaw21.EngineBlind", spec := "engineBlind", unfollowed := true, recurses := true, named := ["math/bits.deBruijn64tab"], plainKeys := false, apart := false, laid := [("math/bits.deBruijn64tab", laid_math_bits_deBruijn64tab)], narrowed := true }
def EngineBlindUptoSaid : Prop := engineBlindUptoRow.holds Tryz.pinned (OpenSpec.upto engineBlindSpec)

/-- 'dragnetlaw21.EngineKnown', WHERE WHAT IT READS IS OF BULK AT MOST 1048576: true; the input reads as it did. -/
def engineKnownUptoRow : OpenClaim := { program := "ytkflicifngohcaagreatdoor", sum := "aec758f745e30f1a41a177bf5237bcc9beba21af2543761eda456869ec474d6d", func := "dragnet/dragnetlaw21.EngineKnown", spec := "engineKnown", unfollowed := true, recurses := true, named := ["math/bits.deBruijn64tab"], plainKeys := false, apart := false, laid := [("math/bits.deBruijn64tab", laid_math_bits_deBruijn64tab)], narrowed := true }
def EngineKnownUptoSaid : Prop := engineKnownUptoRow.holds Tryz.pinned (OpenSpec.upto engineKnownSpec)

/-- 'dragnetlaw21.EngineNone', WHERE WHAT IT READS IS OF BULK AT MOST 1048576: true; the input reads as it did. -/
def engineNoneUptoRow : OpenClaim := { program := "ytkflicifngohcaagreatdoor", sum := "aec758f745e30f1a41a177bf5237bcc9beba21af2543761eda456869ec474d6d", func := "dragnet/dragnetlaw21.EngineNone", spec := "engineNone", unfollowed := true, recurses := true, named := ["math/bits.deBruijn64tab"], plainKeys := false, apart := false, laid := [("math/bits.deBruijn64tab", laid_math_bits_deBruijn64tab)], narrowed := true }
def EngineNoneUptoSaid : Prop := engineNoneUptoRow.holds Tryz.pinned (OpenSpec.upto engineNoneSpec)

end Rows
end Go.Proofs.YtkflicifngohcaaGreatDoor
