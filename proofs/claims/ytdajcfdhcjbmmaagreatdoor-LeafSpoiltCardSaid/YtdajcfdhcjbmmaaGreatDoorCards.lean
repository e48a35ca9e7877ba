/-
  DERIVED. GIVEN WITH THE SEED: THE CARDS: each row of YtdajcfdhcjbmmaaGreatDoorRows.lean that lists a variable, with what it lists TIED to the program's text (the seventh form; the later family's looks); each row that meets fmt, with fmt's text TOLD by the authors' own Lean function (tested against real Go, not proved from fmt's source: count such statements apart). THE CARD IS WHAT COUNTS. Prove the row's statement (the work); the ties are given (YtdajcfdhcjbmmaaGreatDoorTie.lean); close each card by the builder's one call (the guide's Derived/Test/ToyasCard.lean, 'card_holds'). Laid BY PROGRAM, IN A SANDBOX (cutbox-door.mjs). By AI agents, Wed Nov 11 2026. No macro, syntax, notation, axiom, sorry.
-/
import Derived.Test.YtdajcfdhcjbmmaaGreatDoorRows
import GoSem.ClaimSeven
namespace Go.Proofs.YtdajcfdhcjbmmaaGreatDoor
namespace Rows

/-- THE TIED CARD OF 'mahlsticklaw04.LeafHours'. -/
def leafHoursCard : Claim7 := { stood := { row := leafHoursRow, standIns := [], harness := (true, "9e87e616c4e1775f9d0f73ad686290748eaae9f5c03add0b1bcc61ba8396e555"), looks := true }, kinds := [], alts := [], laidByText := true, laidKinds := [.data, .data, .data, .data, .pinned], laidTests := true, laidLooks := .later }
def LeafHoursCardSaid : Prop := Claim7.holds Tryz.pinned (.plain (OpenSpec.ofChange leafHoursSpec)) leafHoursCard

/-- THE TIED CARD OF 'mahlsticklaw04.LeafProofs'. -/
def leafProofsCard : Claim7 := { stood := { row := leafProofsRow, standIns := [], harness := (true, "9e87e616c4e1775f9d0f73ad686290748eaae9f5c03add0b1bcc61ba8396e555"), looks := true }, kinds := [], alts := [], laidByText := true, laidKinds := [.data, .data, .data, .data, .pinned], laidTests := true, laidLooks := .later }
def LeafProofsCardSaid : Prop := Claim7.holds Tryz.pinned (.plain (OpenSpec.ofChange leafProofsSpec)) leafProofsCard

/-- THE TIED CARD OF 'mahlsticklaw04.LeafShort'. -/
def leafShortCard : Claim7 := { stood := { row := leafShortRow, standIns := [], harness := (true, "9e87e616c4e1775f9d0f73ad686290748eaae9f5c03add0b1bcc61ba8396e555"), looks := true }, kinds := [], alts := [], laidByText := true, laidKinds := [.data, .data, .data, .data, .pinned], laidTests := true, laidLooks := .later }
def LeafShortCardSaid : Prop := Claim7.holds Tryz.pinned (.plain (OpenSpec.ofChange leafShortSpec)) leafShortCard

/-- THE TIED CARD OF 'mahlsticklaw04.LeafGone'. -/
def leafGoneCard : Claim7 := { stood := { row := leafGoneRow, standIns := [], harness := (true, "9e87e616c4e1775f9d0f73ad686290748eaae9f5c03add0b1bcc61ba8396e555"), looks := true }, kinds := [], alts := [], laidByText := true, laidKinds := [.data, .data, .data, .data, .pinned], laidTests := true, laidLooks := .later }
def LeafGoneCardSaid : Prop := Claim7.holds Tryz.pinned (.plain (OpenSpec.ofChange leafGoneSpec)) leafGoneCard

/-- THE TIED CARD OF 'mahlsticklaw04.LeafMore'. -/
def leafMoreCard : Claim7 := { stood := { row := leafMoreRow, standIns := [], harness := (true, "9e87e616c4e1775f9d0f73ad686290748eaae9f5c03add0b1bcc61ba8396e555"), looks := true }, kinds := [], alts := [], laidByText := true, laidKinds := [.data, .data, .data, .data, .pinned], laidTests := true, laidLooks := .later }
def LeafMoreCardSaid : Prop := Claim7.holds Tryz.pinned (.plain (OpenSpec.ofChange leafMoreSpec)) leafMoreCard

/-- THE TIED CARD OF 'mahlsticklaw04.LeafTurned'. -/
def leafTurnedCard : Claim7 := { stood := { row := leafTurnedRow, standIns := [], harness := (true, "9e87e616c4e1775f9d0f73ad686290748eaae9f5c03add0b1bcc61ba8396e555"), looks := true }, kinds := [], alts := [], laidByText := true, laidKinds := [.data, .data, .data, .data, .pinned], laidTests := true, laidLooks := .later }
def LeafTurnedCardSaid : Prop := Claim7.holds Tryz.pinned (.plain (OpenSpec.ofChange leafTurnedSpec)) leafTurnedCard

/-- THE TIED CARD OF 'mahlsticklaw04.LeafFits'. -/
def leafFitsCard : Claim7 := { stood := { row := leafFitsRow, standIns := [], harness := (true, "9e87e616c4e1775f9d0f73ad686290748eaae9f5c03add0b1bcc61ba8396e555"), looks := true }, kinds := [], alts := [], laidByText := true, laidKinds := [.data, .data, .data, .data, .pinned], laidTests := true, laidLooks := .later }
def LeafFitsCardSaid : Prop := Claim7.holds Tryz.pinned (.plain (OpenSpec.ofChange leafFitsSpec)) leafFitsCard

/-- THE TIED CARD OF 'mahlsticklaw04.LeafPrints'. -/
def leafPrintsCard : Claim7 := { stood := { row := leafPrintsRow, standIns := [], harness := (true, "9e87e616c4e1775f9d0f73ad686290748eaae9f5c03add0b1bcc61ba8396e555"), looks := true }, kinds := [], alts := [], laidByText := true, laidKinds := [.data, .data, .data, .data, .pinned], laidTests := true, laidLooks := .later }
def LeafPrintsCardSaid : Prop := Claim7.holds Tryz.pinned (.plain (OpenSpec.ofChange leafPrintsSpec)) leafPrintsCard

/-- THE TIED CARD OF 'mahlsticklaw04.LeafReads'. -/
def leafReadsCard : Claim7 := { stood := { row := leafReadsRow, standIns := [], harness := (true, "9e87e616c4e1775f9d0f73ad686290748eaae9f5c03add0b1bcc61ba8396e555"), looks := true }, kinds := [], alts := [], laidByText := true, laidKinds := [.data, .data, .data, .data, .pinned], laidTests := true, laidLooks := .later }
def LeafReadsCardSaid : Prop := Claim7.holds Tryz.pinned (.plain (OpenSpec.ofChange leafReadsSpec)) leafReadsCard

/-- THE TIED CARD OF 'mahlsticklaw04.LeafSpoilt'. -/
def leafSpoiltCard : Claim7 := { stood := { row := leafSpoiltRow, standIns := [], harness := (true, "9e87e616c4e1775f9d0f73ad686290748eaae9f5c03add0b1bcc61ba8396e555"), looks := true }, kinds := [], alts := [], laidByText := true, laidKinds := [.data, .data, .data, .data, .pinned], laidTests := true, laidLooks := .later }
def LeafSpoiltCardSaid : Prop := Claim7.holds Tryz.pinned (.plain (OpenSpec.ofChange leafSpoiltSpec)) leafSpoiltCard

/-- THE SECOND FORM's CARD OF 'mahlsticklaw04.LeafHours'. -/
def leafHoursUptoCard : Claim7 := { stood := { row := leafHoursUptoRow, standIns := [], harness := (true, "9e87e616c4e1775f9d0f73ad686290748eaae9f5c03add0b1bcc61ba8396e555"), looks := true }, kinds := [], alts := [], laidByText := true, laidKinds := [.data, .data, .data, .data, .pinned], laidTests := true, laidLooks := .later }
def LeafHoursUptoCardSaid : Prop := Claim7.holds Tryz.pinned (.plain (OpenSpec.upto leafHoursSpec)) leafHoursUptoCard

/-- THE SECOND FORM's CARD OF 'mahlsticklaw04.LeafProofs'. -/
def leafProofsUptoCard : Claim7 := { stood := { row := leafProofsUptoRow, standIns := [], harness := (true, "9e87e616c4e1775f9d0f73ad686290748eaae9f5c03add0b1bcc61ba8396e555"), looks := true }, kinds := [], alts := [], laidByText := true, laidKinds := [.data, .data, .data, .data, .pinned], laidTests := true, laidLooks := .later }
def LeafProofsUptoCardSaid : Prop := Claim7.holds Tryz.pinned (.plain (OpenSpec.upto leafProofsSpec)) leafProofsUptoCard

/-- THE SECOND FORM's CARD OF 'mahlsticklaw04.LeafShort'. -/
def leafShortUptoCard : Claim7 := { stood := { row := leafShortUptoRow, standIns := [], harness := (true, "9e87e616c4e1775f9d0f73ad686290748eaae9f5c03add0b1bcc61ba8396e555"), looks := true }, kinds := [], alts := [], laidByText := true, laidKinds := [.data, .data, .data, .data, .pinned], laidTests := true, laidLooks := .later }
def LeafShortUptoCardSaid : Prop := Claim7.holds Tryz.pinned (.plain (OpenSpec.upto leafShortSpec)) leafShortUptoCard

/-- THE SECOND FORM's CARD OF 'mahlsticklaw04.LeafGone'. -/
def leafGoneUptoCard : Claim7 := { stood := { row := leafGoneUptoRow, standIns := [], harness := (true, "9e87e616c4e1775f9d0f73ad686290748eaae9f5c03add0b1bcc61ba8396e555"), looks := true }, kinds := [], alts := [], laidByText := true, laidKinds := [.data, .data, .data, .data, .pinned], laidTests := true, laidLooks := .later }
def LeafGoneUptoCardSaid : Prop := Claim7.holds Tryz.pinned (.plain (OpenSpec.upto leafGoneSpec)) leafGoneUptoCard

/-- THE SECOND FORM's CARD OF 'mahlsticklaw04.LeafMore'. -/
def leafMoreUptoCard : Claim7 := { stood := { row := leafMoreUptoRow, standIns := [], harness := (true, "9e87e616c4e1775f9d0f73ad686290748eaae9f5c03add0b1bcc61ba8396e555"), looks := true }, kinds := [], alts := [], laidByText := true, laidKinds := [.data, .data, .data, .data, .pinned], laidTests := true, laidLooks := .later }
def LeafMoreUptoCardSaid : Prop := Claim7.holds Tryz.pinned (.plain (OpenSpec.upto leafMoreSpec)) leafMoreUptoCard

/-- THE SECOND FORM's CARD OF 'mahlsticklaw04.LeafTurned'. -/
def leafTurnedUptoCard : Claim7 := { stood := { row := leafTurnedUptoRow, standIns := [], harness := (true, "9e87e616c4e1775f9d0f73ad686290748eaae9f5c03add0b1bcc61ba8396e555"), looks := true }, kinds := [], alts := [], laidByText := true, laidKinds := [.data, .data, .data, .data, .pinned], laidTests := true, laidLooks := .later }
def LeafTurnedUptoCardSaid : Prop := Claim7.holds Tryz.pinned (.plain (OpenSpec.upto leafTurnedSpec)) leafTurnedUptoCard

/-- THE SECOND FORM's CARD OF 'mahlsticklaw04.LeafFits'. -/
def leafFitsUptoCard : Claim7 := { stood := { row := leafFitsUptoRow, standIns := [], harness := (true, "9e87e616c4e1775f9d0f73ad686290748eaae9f5c03add0b1bcc61ba8396e555"), looks := true }, kinds := [], alts := [], laidByText := true, laidKinds := [.data, .data, .data, .data, .pinned], laidTests := true, laidLooks := .later }
def LeafFitsUptoCardSaid : Prop := Claim7.holds Tryz.pinned (.plain (OpenSpec.upto leafFitsSpec)) leafFitsUptoCard

/-- THE SECOND FORM's CARD OF 'mahlsticklaw04.LeafPrints'. -/
def leafPrintsUptoCard : Claim7 := { stood := { row := leafPrintsUptoRow, standIns := [], harness := (true, "9e87e616c4e1775f9d0f73ad686290748eaae9f5c03add0b1bcc61ba8396e555"), looks := true }, kinds := [], alts := [], laidByText := true, laidKinds := [.data, .data, .data, .data, .pinned], laidTests := true, laidLooks := .later }
def LeafPrintsUptoCardSaid : Prop := Claim7.holds Tryz.pinned (.plain (OpenSpec.upto leafPrintsSpec)) leafPrintsUptoCard

/-- THE SECOND FORM's CARD OF 'mahlsticklaw04.LeafReads'. -/
def leafReadsUptoCard : Claim7 := { stood := { row := leafReadsUptoRow, standIns := [], harness := (true, "9e87e616c4e1775f9d0f73ad686290748eaae9f5c03add0b1bcc61ba8396e555"), looks := true }, kinds := [], alts := [], laidByText := true, laidKinds := [.data, .data, .data, .data, .pinned], laidTests := true, laidLooks := .later }
def LeafReadsUptoCardSaid : Prop := Claim7.holds Tryz.pinned (.plain (OpenSpec.upto leafReadsSpec)) leafReadsUptoCard

/-- THE SECOND FORM's CARD OF 'mahlsticklaw04.LeafSpoilt'. -/
def leafSpoiltUptoCard : Claim7 := { stood := { row := leafSpoiltUptoRow, standIns := [], harness := (true, "9e87e616c4e1775f9d0f73ad686290748eaae9f5c03add0b1bcc61ba8396e555"), looks := true }, kinds := [], alts := [], laidByText := true, laidKinds := [.data, .data, .data, .data, .pinned], laidTests := true, laidLooks := .later }
def LeafSpoiltUptoCardSaid : Prop := Claim7.holds Tryz.pinned (.plain (OpenSpec.upto leafSpoiltSpec)) leafSpoiltUptoCard
end Rows
end Go.Proofs.YtdajcfdhcjbmmaaGreatDoor
