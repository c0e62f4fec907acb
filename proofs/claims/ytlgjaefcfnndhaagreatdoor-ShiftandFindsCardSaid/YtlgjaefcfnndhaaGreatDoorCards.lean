/-
  DERIVED. GIVEN WITH THE SEED: THE CARDS: each row of YtlgjaefcfnndhaaGreatDoorRows.lean that lists a variable, with what it lists TIED to the program's text (the seventh form; the later family's looks); each row that meets fmt, with fmt's text TOLD by the authors' own Lean function (tested against real Go, not proved from fmt's source: count such statements apart). THE CARD IS WHAT COUNTS. Prove the row's statement (the work); the ties are given (YtlgjaefcfnndhaaGreatDoorTie.lean); close each card by the builder's one call (the guide's Derived/Test/ToyasCard.lean, 'card_holds'). Laid BY PROGRAM, IN A SANDBOX (cutbox-door.mjs). By AI agents, Wed Nov 11 2026. No macro, syntax, notation, axiom, sorry.
-/
import Derived.Test.YtlgjaefcfnndhaaGreatDoorRows
import GoSem.ClaimSeven
namespace Go.Proofs.YtlgjaefcfnndhaaGreatDoor
namespace Rows

/-- THE TIED CARD OF 'dragnetlaw20.ShiftandSteps'. -/
def shiftandStepsCard : Claim7 := { stood := { row := shiftandStepsRow, standIns := [], harness := (true, "d7131a8387f1644c2d338b128761ad6af079cc5c22ccc5d6e3db0b880232634f"), looks := false }, kinds := [], alts := [], goes := true, laidByText := true, laidKinds := [.data], laidTests := true, laidLooks := .later }
def ShiftandStepsCardSaid : Prop := Claim7.holds Tryz.pinned (.plain (OpenSpec.ofChange shiftandStepsSpec)) shiftandStepsCard

/-- THE TIED CARD OF 'dragnetlaw20.ShiftandFeeds'. -/
def shiftandFeedsCard : Claim7 := { stood := { row := shiftandFeedsRow, standIns := [], harness := (true, "d7131a8387f1644c2d338b128761ad6af079cc5c22ccc5d6e3db0b880232634f"), looks := false }, kinds := [], alts := [], goes := true, laidByText := true, laidKinds := [.data], laidTests := true, laidLooks := .later }
def ShiftandFeedsCardSaid : Prop := Claim7.holds Tryz.pinned (.plain (OpenSpec.ofChange shiftandFeedsSpec)) shiftandFeedsCard

/-- THE TIED CARD OF 'dragnetlaw20.ShiftandFinds'. -/
def shiftandFindsCard : Claim7 := { stood := { row := shiftandFindsRow, standIns := [], harness := (true, "d7131a8387f1644c2d338b128761ad6af079cc5c22ccc5d6e3db0b880232634f"), looks := false }, kinds := [], alts := [], goes := true, laidByText := true, laidKinds := [.data], laidTests := true, laidLooks := .later }
def ShiftandFindsCardSaid : Prop := Claim7.holds Tryz.pinned (.plain (OpenSpec.ofChange shiftandFindsSpec)) shiftandFindsCard

/-- THE TIED CARD OF 'dragnetlaw20.ShiftandCuts'. -/
def shiftandCutsCard : Claim7 := { stood := { row := shiftandCutsRow, standIns := [], harness := (true, "d7131a8387f1644c2d338b128761ad6af079cc5c22ccc5d6e3db0b880232634f"), looks := false }, kinds := [], alts := [], goes := true, laidByText := true, laidKinds := [.data], laidTests := true, laidLooks := .later }
def ShiftandCutsCardSaid : Prop := Claim7.holds Tryz.pinned (.plain (OpenSpec.ofChange shiftandCutsSpec)) shiftandCutsCard

/-- THE TIED CARD OF 'dragnetlaw20.ShiftandPositions'. -/
def shiftandPositionsCard : Claim7 := { stood := { row := shiftandPositionsRow, standIns := [], harness := (true, "d7131a8387f1644c2d338b128761ad6af079cc5c22ccc5d6e3db0b880232634f"), looks := false }, kinds := [], alts := [], goes := true, laidByText := true, laidKinds := [.data], laidTests := true, laidLooks := .later }
def ShiftandPositionsCardSaid : Prop := Claim7.holds Tryz.pinned (.plain (OpenSpec.ofChange shiftandPositionsSpec)) shiftandPositionsCard

/-- THE TIED CARD OF 'dragnetlaw20.ShiftandForgets'. -/
def shiftandForgetsCard : Claim7 := { stood := { row := shiftandForgetsRow, standIns := [], harness := (true, "d7131a8387f1644c2d338b128761ad6af079cc5c22ccc5d6e3db0b880232634f"), looks := false }, kinds := [], alts := [], goes := true, laidByText := true, laidKinds := [.data], laidTests := true, laidLooks := .later }
def ShiftandForgetsCardSaid : Prop := Claim7.holds Tryz.pinned (.plain (OpenSpec.ofChange shiftandForgetsSpec)) shiftandForgetsCard

/-- THE TIED CARD OF 'dragnetlaw20.ShiftandKnown'. -/
def shiftandKnownCard : Claim7 := { stood := { row := shiftandKnownRow, standIns := [], harness := (true, "d7131a8387f1644c2d338b128761ad6af079cc5c22ccc5d6e3db0b880232634f"), looks := false }, kinds := [], alts := [], goes := true, laidByText := true, laidKinds := [.data], laidTests := true, laidLooks := .later }
def ShiftandKnownCardSaid : Prop := Claim7.holds Tryz.pinned (.plain (OpenSpec.ofChange shiftandKnownSpec)) shiftandKnownCard

/-- THE SECOND FORM's CARD OF 'dragnetlaw20.ShiftandSteps'. -/
def shiftandStepsUptoCard : Claim7 := { stood := { row := shiftandStepsUptoRow, standIns := [], harness := (true, "d7131a8387f1644c2d338b128761ad6af079cc5c22ccc5d6e3db0b880232634f"), looks := false }, kinds := [], alts := [], goes := true, laidByText := true, laidKinds := [.data], laidTests := true, laidLooks := .later }
def ShiftandStepsUptoCardSaid : Prop := Claim7.holds Tryz.pinned (.plain (OpenSpec.upto shiftandStepsSpec)) shiftandStepsUptoCard

/-- THE SECOND FORM's CARD OF 'dragnetlaw20.ShiftandFeeds'. -/
def shiftandFeedsUptoCard : Claim7 := { stood := { row := shiftandFeedsUptoRow, standIns := [], harness := (true, "d7131a8387f1644c2d338b128761ad6af079cc5c22ccc5d6e3db0b880232634f"), looks := false }, kinds := [], alts := [], goes := true, laidByText := true, laidKinds := [.data], laidTests := true, laidLooks := .later }
def ShiftandFeedsUptoCardSaid : Prop := Claim7.holds Tryz.pinned (.plain (OpenSpec.upto shiftandFeedsSpec)) shiftandFeedsUptoCard

/-- THE SECOND FORM's CARD OF 'dragnetlaw20.ShiftandFinds'. -/
def shiftandFindsUptoCard : Claim7 := { stood := { row := shiftandFindsUptoRow, standIns := [], harness := (true, "d7131a8387f1644c2d338b128761ad6af079cc5c22ccc5d6e3db0b880232634f"), looks := false }, kinds := [], alts := [], goes := true, laidByText := true, laidKinds := [.data], laidTests := true, laidLooks := .later }
def ShiftandFindsUptoCardSaid : Prop := Claim7.holds Tryz.pinned (.plain (OpenSpec.upto shiftandFindsSpec)) shiftandFindsUptoCard

/-- THE SECOND FORM's CARD OF 'dragnetlaw20.ShiftandCuts'. -/
def shiftandCutsUptoCard : Claim7 := { stood := { row := shiftandCutsUptoRow, standIns := [], harness := (true, "d7131a8387f1644c2d338b128761ad6af079cc5c22ccc5d6e3db0b880232634f"), looks := false }, kinds := [], alts := [], goes := true, laidByText := true, laidKinds := [.data], laidTests := true, laidLooks := .later }
def ShiftandCutsUptoCardSaid : Prop := Claim7.holds Tryz.pinned (.plain (OpenSpec.upto shiftandCutsSpec)) shiftandCutsUptoCard

/-- THE SECOND FORM's CARD OF 'dragnetlaw20.ShiftandPositions'. -/
def shiftandPositionsUptoCard : Claim7 := { stood := { row := shiftandPositionsUptoRow, standIns := [], harness := (true, "d7131a8387f1644c2d338b128761ad6af079cc5c22ccc5d6e3db0b880232634f"), looks := false }, kinds := [], alts := [], goes := true, laidByText := true, laidKinds := [.data], laidTests := true, laidLooks := .later }
def ShiftandPositionsUptoCardSaid : Prop := Claim7.holds Tryz.pinned (.plain (OpenSpec.upto shiftandPositionsSpec)) shiftandPositionsUptoCard

/-- THE SECOND FORM's CARD OF 'dragnetlaw20.ShiftandForgets'. -/
def shiftandForgetsUptoCard : Claim7 := { stood := { row := shiftandForgetsUptoRow, standIns := [], harness := (true, "d7131a8387f1644c2d338b128761ad6af079cc5c22ccc5d6e3db0b880232634f"), looks := false }, kinds := [], alts := [], goes := true, laidByText := true, laidKinds := [.data], laidTests := true, laidLooks := .later }
def ShiftandForgetsUptoCardSaid : Prop := Claim7.holds Tryz.pinned (.plain (OpenSpec.upto shiftandForgetsSpec)) shiftandForgetsUptoCard

/-- THE SECOND FORM's CARD OF 'dragnetlaw20.ShiftandKnown'. -/
def shiftandKnownUptoCard : Claim7 := { stood := { row := shiftandKnownUptoRow, standIns := [], harness := (true, "d7131a8387f1644c2d338b128761ad6af079cc5c22ccc5d6e3db0b880232634f"), looks := false }, kinds := [], alts := [], goes := true, laidByText := true, laidKinds := [.data], laidTests := true, laidLooks := .later }
def ShiftandKnownUptoCardSaid : Prop := Claim7.holds Tryz.pinned (.plain (OpenSpec.upto shiftandKnownSpec)) shiftandKnownUptoCard
end Rows
end Go.Proofs.YtlgjaefcfnndhaaGreatDoor
