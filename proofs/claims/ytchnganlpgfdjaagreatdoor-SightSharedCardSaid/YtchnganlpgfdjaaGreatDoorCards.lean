/-
  DERIVED. GIVEN WITH THE SEED: THE CARDS: each row of YtchnganlpgfdjaaGreatDoorRows.lean that lists a variable, with what it lists TIED to the program's text (the seventh form; the later family's looks); each row that meets fmt, with fmt's text TOLD by the authors' own Lean function (tested against real Go, not proved from fmt's source: count such statements apart). THE CARD IS WHAT COUNTS. Prove the row's statement (the work); the ties are given (YtchnganlpgfdjaaGreatDoorTie.lean); close each card by the builder's one call (the guide's Derived/Test/ToyasCard.lean, 'card_holds'). Laid BY PROGRAM, IN A SANDBOX (cutbox-door.mjs). By AI agents, Wed Nov 11 2026. No macro, syntax, notation, axiom, sorry.
-/
import Derived.Test.YtchnganlpgfdjaaGreatDoorRows
import GoSem.ClaimSeven
namespace Go.Proofs.YtchnganlpgfdjaaGreatDoor
namespace Rows

/-- THE TIED CARD OF 'mahlsticklaw02.SightHangs'. -/
def sightHangsCard : Claim7 := { stood := { row := sightHangsRow, standIns := [], harness := (true, "4e11b3a9e1b7f322c0875aff538975e56966d1b41feccace7074b138c2bd9333"), looks := true }, kinds := [], alts := [], laidByText := true, laidKinds := [.data, .data, .data, .data, .pinned], laidTests := true, laidLooks := .later }
def SightHangsCardSaid : Prop := Claim7.holds Tryz.pinned (.plain (OpenSpec.ofChange sightHangsSpec)) sightHangsCard

/-- THE TIED CARD OF 'mahlsticklaw02.SightElsewhere'. -/
def sightElsewhereCard : Claim7 := { stood := { row := sightElsewhereRow, standIns := [], harness := (true, "4e11b3a9e1b7f322c0875aff538975e56966d1b41feccace7074b138c2bd9333"), looks := true }, kinds := [], alts := [], laidByText := true, laidKinds := [.data, .data, .data, .data, .pinned], laidTests := true, laidLooks := .later }
def SightElsewhereCardSaid : Prop := Claim7.holds Tryz.pinned (.plain (OpenSpec.ofChange sightElsewhereSpec)) sightElsewhereCard

/-- THE TIED CARD OF 'mahlsticklaw02.SightMore'. -/
def sightMoreCard : Claim7 := { stood := { row := sightMoreRow, standIns := [], harness := (true, "4e11b3a9e1b7f322c0875aff538975e56966d1b41feccace7074b138c2bd9333"), looks := true }, kinds := [], alts := [], laidByText := true, laidKinds := [.data, .data, .data, .data, .pinned], laidTests := true, laidLooks := .later }
def SightMoreCardSaid : Prop := Claim7.holds Tryz.pinned (.plain (OpenSpec.ofChange sightMoreSpec)) sightMoreCard

/-- THE TIED CARD OF 'mahlsticklaw02.SightTurned'. -/
def sightTurnedCard : Claim7 := { stood := { row := sightTurnedRow, standIns := [], harness := (true, "4e11b3a9e1b7f322c0875aff538975e56966d1b41feccace7074b138c2bd9333"), looks := true }, kinds := [], alts := [], laidByText := true, laidKinds := [.data, .data, .data, .data, .pinned], laidTests := true, laidLooks := .later }
def SightTurnedCardSaid : Prop := Claim7.holds Tryz.pinned (.plain (OpenSpec.ofChange sightTurnedSpec)) sightTurnedCard

/-- THE TIED CARD OF 'mahlsticklaw02.SightSeens'. -/
def sightSeensCard : Claim7 := { stood := { row := sightSeensRow, standIns := [], harness := (true, "4e11b3a9e1b7f322c0875aff538975e56966d1b41feccace7074b138c2bd9333"), looks := true }, kinds := [], alts := [], laidByText := true, laidKinds := [.data, .data, .data, .data, .pinned], laidTests := true, laidLooks := .later }
def SightSeensCardSaid : Prop := Claim7.holds Tryz.pinned (.plain (OpenSpec.ofChange sightSeensSpec)) sightSeensCard

/-- THE TIED CARD OF 'mahlsticklaw02.SightPrints'. -/
def sightPrintsCard : Claim7 := { stood := { row := sightPrintsRow, standIns := [], harness := (true, "4e11b3a9e1b7f322c0875aff538975e56966d1b41feccace7074b138c2bd9333"), looks := true }, kinds := [], alts := [], laidByText := true, laidKinds := [.data, .data, .data, .data, .pinned], laidTests := true, laidLooks := .later }
def SightPrintsCardSaid : Prop := Claim7.holds Tryz.pinned (.plain (OpenSpec.ofChange sightPrintsSpec)) sightPrintsCard

/-- THE TIED CARD OF 'mahlsticklaw02.SightReads'. -/
def sightReadsCard : Claim7 := { stood := { row := sightReadsRow, standIns := [], harness := (true, "4e11b3a9e1b7f322c0875aff538975e56966d1b41feccace7074b138c2bd9333"), looks := true }, kinds := [], alts := [], laidByText := true, laidKinds := [.data, .data, .data, .data, .pinned], laidTests := true, laidLooks := .later }
def SightReadsCardSaid : Prop := Claim7.holds Tryz.pinned (.plain (OpenSpec.ofChange sightReadsSpec)) sightReadsCard

/-- THE TIED CARD OF 'mahlsticklaw02.SightSpoilt'. -/
def sightSpoiltCard : Claim7 := { stood := { row := sightSpoiltRow, standIns := [], harness := (true, "4e11b3a9e1b7f322c0875aff538975e56966d1b41feccace7074b138c2bd9333"), looks := true }, kinds := [], alts := [], laidByText := true, laidKinds := [.data, .data, .data, .data, .pinned], laidTests := true, laidLooks := .later }
def SightSpoiltCardSaid : Prop := Claim7.holds Tryz.pinned (.plain (OpenSpec.ofChange sightSpoiltSpec)) sightSpoiltCard

/-- THE TIED CARD OF 'mahlsticklaw02.SightBoths'. -/
def sightBothsCard : Claim7 := { stood := { row := sightBothsRow, standIns := [], harness := (true, "4e11b3a9e1b7f322c0875aff538975e56966d1b41feccace7074b138c2bd9333"), looks := true }, kinds := [], alts := [], laidByText := true, laidKinds := [.data, .data, .data, .data, .pinned], laidTests := true, laidLooks := .later }
def SightBothsCardSaid : Prop := Claim7.holds Tryz.pinned (.plain (OpenSpec.ofChange sightBothsSpec)) sightBothsCard

/-- THE TIED CARD OF 'mahlsticklaw02.SightShared'. -/
def sightSharedCard : Claim7 := { stood := { row := sightSharedRow, standIns := [], harness := (true, "4e11b3a9e1b7f322c0875aff538975e56966d1b41feccace7074b138c2bd9333"), looks := true }, kinds := [], alts := [], laidByText := true, laidKinds := [.data, .data, .data, .data, .pinned], laidTests := true, laidLooks := .later }
def SightSharedCardSaid : Prop := Claim7.holds Tryz.pinned (.plain (OpenSpec.ofChange sightSharedSpec)) sightSharedCard

/-- THE SECOND FORM's CARD OF 'mahlsticklaw02.SightHangs'. -/
def sightHangsUptoCard : Claim7 := { stood := { row := sightHangsUptoRow, standIns := [], harness := (true, "4e11b3a9e1b7f322c0875aff538975e56966d1b41feccace7074b138c2bd9333"), looks := true }, kinds := [], alts := [], laidByText := true, laidKinds := [.data, .data, .data, .data, .pinned], laidTests := true, laidLooks := .later }
def SightHangsUptoCardSaid : Prop := Claim7.holds Tryz.pinned (.plain (OpenSpec.upto sightHangsSpec)) sightHangsUptoCard

/-- THE SECOND FORM's CARD OF 'mahlsticklaw02.SightElsewhere'. -/
def sightElsewhereUptoCard : Claim7 := { stood := { row := sightElsewhereUptoRow, standIns := [], harness := (true, "4e11b3a9e1b7f322c0875aff538975e56966d1b41feccace7074b138c2bd9333"), looks := true }, kinds := [], alts := [], laidByText := true, laidKinds := [.data, .data, .data, .data, .pinned], laidTests := true, laidLooks := .later }
def SightElsewhereUptoCardSaid : Prop := Claim7.holds Tryz.pinned (.plain (OpenSpec.upto sightElsewhereSpec)) sightElsewhereUptoCard

/-- THE SECOND FORM's CARD OF 'mahlsticklaw02.SightMore'. -/
def sightMoreUptoCard : Claim7 := { stood := { row := sightMoreUptoRow, standIns := [], harness := (true, "4e11b3a9e1b7f322c0875aff538975e56966d1b41feccace7074b138c2bd9333"), looks := true }, kinds := [], alts := [], laidByText := true, laidKinds := [.data, .data, .data, .data, .pinned], laidTests := true, laidLooks := .later }
def SightMoreUptoCardSaid : Prop := Claim7.holds Tryz.pinned (.plain (OpenSpec.upto sightMoreSpec)) sightMoreUptoCard

/-- THE SECOND FORM's CARD OF 'mahlsticklaw02.SightTurned'. -/
def sightTurnedUptoCard : Claim7 := { stood := { row := sightTurnedUptoRow, standIns := [], harness := (true, "4e11b3a9e1b7f322c0875aff538975e56966d1b41feccace7074b138c2bd9333"), looks := true }, kinds := [], alts := [], laidByText := true, laidKinds := [.data, .data, .data, .data, .pinned], laidTests := true, laidLooks := .later }
def SightTurnedUptoCardSaid : Prop := Claim7.holds Tryz.pinned (.plain (OpenSpec.upto sightTurnedSpec)) sightTurnedUptoCard

/-- THE SECOND FORM's CARD OF 'mahlsticklaw02.SightSeens'. -/
def sightSeensUptoCard : Claim7 := { stood := { row := sightSeensUptoRow, standIns := [], harness := (true, "4e11b3a9e1b7f322c0875aff538975e56966d1b41feccace7074b138c2bd9333"), looks := true }, kinds := [], alts := [], laidByText := true, laidKinds := [.data, .data, .data, .data, .pinned], laidTests := true, laidLooks := .later }
def SightSeensUptoCardSaid : Prop := Claim7.holds Tryz.pinned (.plain (OpenSpec.upto sightSeensSpec)) sightSeensUptoCard

/-- THE SECOND FORM's CARD OF 'mahlsticklaw02.SightPrints'. -/
def sightPrintsUptoCard : Claim7 := { stood := { row := sightPrintsUptoRow, standIns := [], harness := (true, "4e11b3a9e1b7f322c0875aff538975e56966d1b41feccace7074b138c2bd9333"), looks := true }, kinds := [], alts := [], laidByText := true, laidKinds := [.data, .data, .data, .data, .pinned], laidTests := true, laidLooks := .later }
def SightPrintsUptoCardSaid : Prop := Claim7.holds Tryz.pinned (.plain (OpenSpec.upto sightPrintsSpec)) sightPrintsUptoCard

/-- THE SECOND FORM's CARD OF 'mahlsticklaw02.SightReads'. -/
def sightReadsUptoCard : Claim7 := { stood := { row := sightReadsUptoRow, standIns := [], harness := (true, "4e11b3a9e1b7f322c0875aff538975e56966d1b41feccace7074b138c2bd9333"), looks := true }, kinds := [], alts := [], laidByText := true, laidKinds := [.data, .data, .data, .data, .pinned], laidTests := true, laidLooks := .later }
def SightReadsUptoCardSaid : Prop := Claim7.holds Tryz.pinned (.plain (OpenSpec.upto sightReadsSpec)) sightReadsUptoCard

/-- THE SECOND FORM's CARD OF 'mahlsticklaw02.SightSpoilt'. -/
def sightSpoiltUptoCard : Claim7 := { stood := { row := sightSpoiltUptoRow, standIns := [], harness := (true, "4e11b3a9e1b7f322c0875aff538975e56966d1b41feccace7074b138c2bd9333"), looks := true }, kinds := [], alts := [], laidByText := true, laidKinds := [.data, .data, .data, .data, .pinned], laidTests := true, laidLooks := .later }
def SightSpoiltUptoCardSaid : Prop := Claim7.holds Tryz.pinned (.plain (OpenSpec.upto sightSpoiltSpec)) sightSpoiltUptoCard

/-- THE SECOND FORM's CARD OF 'mahlsticklaw02.SightBoths'. -/
def sightBothsUptoCard : Claim7 := { stood := { row := sightBothsUptoRow, standIns := [], harness := (true, "4e11b3a9e1b7f322c0875aff538975e56966d1b41feccace7074b138c2bd9333"), looks := true }, kinds := [], alts := [], laidByText := true, laidKinds := [.data, .data, .data, .data, .pinned], laidTests := true, laidLooks := .later }
def SightBothsUptoCardSaid : Prop := Claim7.holds Tryz.pinned (.plain (OpenSpec.upto sightBothsSpec)) sightBothsUptoCard

/-- THE SECOND FORM's CARD OF 'mahlsticklaw02.SightShared'. -/
def sightSharedUptoCard : Claim7 := { stood := { row := sightSharedUptoRow, standIns := [], harness := (true, "4e11b3a9e1b7f322c0875aff538975e56966d1b41feccace7074b138c2bd9333"), looks := true }, kinds := [], alts := [], laidByText := true, laidKinds := [.data, .data, .data, .data, .pinned], laidTests := true, laidLooks := .later }
def SightSharedUptoCardSaid : Prop := Claim7.holds Tryz.pinned (.plain (OpenSpec.upto sightSharedSpec)) sightSharedUptoCard
end Rows
end Go.Proofs.YtchnganlpgfdjaaGreatDoor
