/-
  DERIVED. GIVEN WITH THE SEED: THE CARDS: each row of YtkflicifngohcaaGreatDoorRows.lean that lists a variable, with what it lists TIED to the program's text (the seventh form; the later family's looks); each row that meets fmt, with fmt's text TOLD by the authors' own Lean function (tested against real Go, not proved from fmt's source: count such statements apart). THE CARD IS WHAT COUNTS. Prove the row's statement (the work); the ties are given (YtkflicifngohcaaGreatDoorTie.lean); close each card by the builder's one call (the guide's Derived/Test/ToyasCard.lean, 'card_holds'). Laid BY PROGRAM, IN A SANDBOX (cutbox-door.mjs). By AI agents, Wed Nov 11 2026. No macro, syntax, notation, axiom, sorry.
-/
import Derived.Test.YtkflicifngohcaaGreatDoorRows
import GoSem.ClaimSeven
namespace Go.Proofs.YtkflicifngohcaaGreatDoor
namespace Rows

/-- THE TIED CARD OF 'dragnetlaw21.EngineClears'. -/
def engineClearsCard : Claim7 := { stood := { row := engineClearsRow, standIns := [], harness := (true, "5dbf3403d83f94498bdff4419b0d0fa8b09061e9dcc32c20ced90f67b7c62cf5"), looks := false }, kinds := [], alts := [], laidByText := true, laidKinds := [.data], laidTests := true, laidLooks := .later }
def EngineClearsCardSaid : Prop := Claim7.holds Tryz.pinned (.plain (OpenSpec.ofChange engineClearsSpec)) engineClearsCard

/-- THE TIED CARD OF 'dragnetlaw21.EngineCalls'. -/
def engineCallsCard : Claim7 := { stood := { row := engineCallsRow, standIns := [], harness := (true, "5dbf3403d83f94498bdff4419b0d0fa8b09061e9dcc32c20ced90f67b7c62cf5"), looks := false }, kinds := [], alts := [], laidByText := true, laidKinds := [.data], laidTests := true, laidLooks := .later }
def EngineCallsCardSaid : Prop := Claim7.holds Tryz.pinned (.plain (OpenSpec.ofChange engineCallsSpec)) engineCallsCard

/-- THE TIED CARD OF 'dragnetlaw21.EngineSteps'. -/
def engineStepsCard : Claim7 := { stood := { row := engineStepsRow, standIns := [], harness := (true, "5dbf3403d83f94498bdff4419b0d0fa8b09061e9dcc32c20ced90f67b7c62cf5"), looks := false }, kinds := [], alts := [], laidByText := true, laidKinds := [.data], laidTests := true, laidLooks := .later }
def EngineStepsCardSaid : Prop := Claim7.holds Tryz.pinned (.plain (OpenSpec.ofChange engineStepsSpec)) engineStepsCard

/-- THE TIED CARD OF 'dragnetlaw21.EngineReads'. -/
def engineReadsCard : Claim7 := { stood := { row := engineReadsRow, standIns := [], harness := (true, "5dbf3403d83f94498bdff4419b0d0fa8b09061e9dcc32c20ced90f67b7c62cf5"), looks := false }, kinds := [], alts := [], laidByText := true, laidKinds := [.data], laidTests := true, laidLooks := .later }
def EngineReadsCardSaid : Prop := Claim7.holds Tryz.pinned (.plain (OpenSpec.ofChange engineReadsSpec)) engineReadsCard

/-- THE TIED CARD OF 'dragnetlaw21.EngineBlind'. -/
def engineBlindCard : Claim7 := { stood := { row := engineBlindRow, standIns := [], harness := (true, "5dbf3403d83f94498bdff4419b0d0fa8b09061e9dcc32c20ced90f67b7c62cf5"), looks := false }, kinds := [], alts := [], laidByText := true, laidKinds := [.data], laidTests := true, laidLooks := .later }
def EngineBlindCardSaid : Prop := Claim7.holds Tryz.pinned (.plain (OpenSpec.ofChange engineBlindSpec)) engineBlindCard

/-- THE TIED CARD OF 'dragnetlaw21.EngineKnown'. -/
def engineKnownCard : Claim7 := { stood := { row := engineKnownRow, standIns := [], harness := (true, "5dbf3403d83f94498bdff4419b0d0fa8b09061e9dcc32c20ced90f67b7c62cf5"), looks := false }, kinds := [], alts := [], laidByText := true, laidKinds := [.data], laidTests := true, laidLooks := .later }
def EngineKnownCardSaid : Prop := Claim7.holds Tryz.pinned (.plain (OpenSpec.ofChange engineKnownSpec)) engineKnownCard

/-- THE TIED CARD OF 'dragnetlaw21.EngineNone'. -/
def engineNoneCard : Claim7 := { stood := { row := engineNoneRow, standIns := [], harness := (true, "5dbf3403d83f94498bdff4419b0d0fa8b09061e9dcc32c20ced90f67b7c62cf5"), looks := false }, kinds := [], alts := [], laidByText := true, laidKinds := [.data], laidTests := true, laidLooks := .later }
def EngineNoneCardSaid : Prop := Claim7.holds Tryz.pinned (.plain (OpenSpec.ofChange engineNoneSpec)) engineNoneCard

/-- THE SECOND FORM's CARD OF 'dragnetlaw21.EngineClears'. -/
def engineClearsUptoCard : Claim7 := { stood := { row := engineClearsUptoRow, standIns := [], harness := (true, "5dbf3403d83f94498bdff4419b0d0fa8b09061e9dcc32c20ced90f67b7c62cf5"), looks := false }, kinds := [], alts := [], laidByText := true, laidKinds := [.data], laidTests := true, laidLooks := .later }
def EngineClearsUptoCardSaid : Prop := Claim7.holds Tryz.pinned (.plain (OpenSpec.upto engineClearsSpec)) engineClearsUptoCard

/-- THE SECOND FORM's CARD OF 'dragnetlaw21.EngineCalls'. -/
def engineCallsUptoCard : Claim7 := { stood := { row := engineCallsUptoRow, standIns := [], harness := (true, "5dbf3403d83f94498bdff4419b0d0fa8b09061e9dcc32c20ced90f67b7c62cf5"), looks := false }, kinds := [], alts := [], laidByText := true, laidKinds := [.data], laidTests := true, laidLooks := .later }
def EngineCallsUptoCardSaid : Prop := Claim7.holds Tryz.pinned (.plain (OpenSpec.upto engineCallsSpec)) engineCallsUptoCard

/-- THE SECOND FORM's CARD OF 'dragnetlaw21.EngineSteps'. -/
def engineStepsUptoCard : Claim7 := { stood := { row := engineStepsUptoRow, standIns := [], harness := (true, "5dbf3403d83f94498bdff4419b0d0fa8b09061e9dcc32c20ced90f67b7c62cf5"), looks := false }, kinds := [], alts := [], laidByText := true, laidKinds := [.data], laidTests := true, laidLooks := .later }
def EngineStepsUptoCardSaid : Prop := Claim7.holds Tryz.pinned (.plain (OpenSpec.upto engineStepsSpec)) engineStepsUptoCard

/-- THE SECOND FORM's CARD OF 'dragnetlaw21.EngineReads'. -/
def engineReadsUptoCard : Claim7 := { stood := { row := engineReadsUptoRow, standIns := [], harness := (true, "5dbf3403d83f94498bdff4419b0d0fa8b09061e9dcc32c20ced90f67b7c62cf5"), looks := false }, kinds := [], alts := [], laidByText := true, laidKinds := [.data], laidTests := true, laidLooks := .later }
def EngineReadsUptoCardSaid : Prop := Claim7.holds Tryz.pinned (.plain (OpenSpec.upto engineReadsSpec)) engineReadsUptoCard

/-- THE SECOND FORM's CARD OF 'dragnetlaw21.EngineBlind'. -/
def engineBlindUptoCard : Claim7 := { stood := { row := engineBlindUptoRow, standIns := [], harness := (true, "5dbf3403d83f94498bdff4419b0d0fa8b09061e9dcc32c20ced90f67b7c62cf5"), looks := false }, kinds := [], alts := [], laidByText := true, laidKinds := [.data], laidTests := true, laidLooks := .later }
def EngineBlindUptoCardSaid : Prop := Claim7.holds Tryz.pinned (.plain (OpenSpec.upto engineBlindSpec)) engineBlindUptoCard

/-- THE SECOND FORM's CARD OF 'dragnetlaw21.EngineKnown'. -/
def engineKnownUptoCard : Claim7 := { stood := { row := engineKnownUptoRow, standIns := [], harness := (true, "5dbf3403d83f94498bdff4419b0d0fa8b09061e9dcc32c20ced90f67b7c62cf5"), looks := false }, kinds := [], alts := [], laidByText := true, laidKinds := [.data], laidTests := true, laidLooks := .later }
def EngineKnownUptoCardSaid : Prop := Claim7.holds Tryz.pinned (.plain (OpenSpec.upto engineKnownSpec)) engineKnownUptoCard

/-- THE SECOND FORM's CARD OF 'dragnetlaw21.EngineNone'. -/
def engineNoneUptoCard : Claim7 := { stood := { row := engineNoneUptoRow, standIns := [], harness := (true, "5dbf3403d83f94498bdff4419b0d0fa8b09061e9dcc32c20ced90f67b7c62cf5"), looks := false }, kinds := [], alts := [], laidByText := true, laidKinds := [.data], laidTests := true, laidLooks := .later }
def EngineNoneUptoCardSaid : Prop := Claim7.holds Tryz.pinned (.plain (OpenSpec.upto engineNoneSpec)) engineNoneUptoCard
end Rows
end Go.Proofs.YtkflicifngohcaaGreatDoor
