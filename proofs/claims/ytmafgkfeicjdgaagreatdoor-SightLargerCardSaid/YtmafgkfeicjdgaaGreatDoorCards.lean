/-
  DERIVED. GIVEN WITH THE SEED: THE CARDS: each row of YtmafgkfeicjdgaaGreatDoorRows.lean that lists a variable, with what it lists TIED to the program's text (the seventh form; the later family's looks); each row that meets fmt, with fmt's text TOLD by the authors' own Lean function (tested against real Go, not proved from fmt's source: count such statements apart). THE CARD IS WHAT COUNTS. Prove the row's statement (the work); the ties are given (YtmafgkfeicjdgaaGreatDoorTie.lean); close each card by the builder's one call (the guide's Derived/Test/ToyasCard.lean, 'card_holds'). Laid BY PROGRAM, IN A SANDBOX (cutbox-door.mjs). By AI agents, Wed Nov 11 2026. No macro, syntax, notation, axiom, sorry.
-/
import Derived.Test.YtmafgkfeicjdgaaGreatDoorRows
import GoSem.ClaimSeven
namespace Go.Proofs.YtmafgkfeicjdgaaGreatDoor
namespace Rows

/-- THE TIED CARD OF 'mahlsticklaw02.SightEyes'. -/
def sightEyesCard : Claim7 := { stood := { row := sightEyesRow, standIns := [], harness := (true, "c089f4a6c7dee226a511cebe5626e4f890a9efbc5be6c538b82d4ec1adb53a90"), looks := true }, kinds := [], alts := [], laidByText := true, laidKinds := [.data, .data, .data, .data, .pinned], laidTests := true, laidLooks := .later }
def SightEyesCardSaid : Prop := Claim7.holds Tryz.pinned (.plain (OpenSpec.ofChange sightEyesSpec)) sightEyesCard

/-- THE TIED CARD OF 'mahlsticklaw02.SightWhys'. -/
def sightWhysCard : Claim7 := { stood := { row := sightWhysRow, standIns := [], harness := (true, "c089f4a6c7dee226a511cebe5626e4f890a9efbc5be6c538b82d4ec1adb53a90"), looks := true }, kinds := [], alts := [], laidByText := true, laidKinds := [.data, .data, .data, .data, .pinned], laidTests := true, laidLooks := .later }
def SightWhysCardSaid : Prop := Claim7.holds Tryz.pinned (.plain (OpenSpec.ofChange sightWhysSpec)) sightWhysCard

/-- THE TIED CARD OF 'mahlsticklaw02.SightFaulty'. -/
def sightFaultyCard : Claim7 := { stood := { row := sightFaultyRow, standIns := [], harness := (true, "c089f4a6c7dee226a511cebe5626e4f890a9efbc5be6c538b82d4ec1adb53a90"), looks := true }, kinds := [], alts := [], laidByText := true, laidKinds := [.data, .data, .data, .data, .pinned], laidTests := true, laidLooks := .later }
def SightFaultyCardSaid : Prop := Claim7.holds Tryz.pinned (.plain (OpenSpec.ofChange sightFaultySpec)) sightFaultyCard

/-- THE TIED CARD OF 'mahlsticklaw02.SightLetterings'. -/
def sightLetteringsCard : Claim7 := { stood := { row := sightLetteringsRow, standIns := [], harness := (true, "c089f4a6c7dee226a511cebe5626e4f890a9efbc5be6c538b82d4ec1adb53a90"), looks := true }, kinds := [], alts := [], laidByText := true, laidKinds := [.data, .data, .data, .data, .pinned], laidTests := true, laidLooks := .later }
def SightLetteringsCardSaid : Prop := Claim7.holds Tryz.pinned (.plain (OpenSpec.ofChange sightLetteringsSpec)) sightLetteringsCard

/-- THE TIED CARD OF 'mahlsticklaw02.SightParts'. -/
def sightPartsCard : Claim7 := { stood := { row := sightPartsRow, standIns := [], harness := (true, "c089f4a6c7dee226a511cebe5626e4f890a9efbc5be6c538b82d4ec1adb53a90"), looks := true }, kinds := [], alts := [], laidByText := true, laidKinds := [.data, .data, .data, .data, .pinned], laidTests := true, laidLooks := .later }
def SightPartsCardSaid : Prop := Claim7.holds Tryz.pinned (.plain (OpenSpec.ofChange sightPartsSpec)) sightPartsCard

/-- THE TIED CARD OF 'mahlsticklaw02.SightManys'. -/
def sightManysCard : Claim7 := { stood := { row := sightManysRow, standIns := [], harness := (true, "c089f4a6c7dee226a511cebe5626e4f890a9efbc5be6c538b82d4ec1adb53a90"), looks := true }, kinds := [], alts := [], laidByText := true, laidKinds := [.data, .data, .data, .data, .pinned], laidTests := true, laidLooks := .later }
def SightManysCardSaid : Prop := Claim7.holds Tryz.pinned (.plain (OpenSpec.ofChange sightManysSpec)) sightManysCard

/-- THE TIED CARD OF 'mahlsticklaw02.SightAway'. -/
def sightAwayCard : Claim7 := { stood := { row := sightAwayRow, standIns := [], harness := (true, "c089f4a6c7dee226a511cebe5626e4f890a9efbc5be6c538b82d4ec1adb53a90"), looks := true }, kinds := [], alts := [], laidByText := true, laidKinds := [.data, .data, .data, .data, .pinned], laidTests := true, laidLooks := .later }
def SightAwayCardSaid : Prop := Claim7.holds Tryz.pinned (.plain (OpenSpec.ofChange sightAwaySpec)) sightAwayCard

/-- THE TIED CARD OF 'mahlsticklaw02.SightLeasts'. -/
def sightLeastsCard : Claim7 := { stood := { row := sightLeastsRow, standIns := [], harness := (true, "c089f4a6c7dee226a511cebe5626e4f890a9efbc5be6c538b82d4ec1adb53a90"), looks := true }, kinds := [], alts := [], laidByText := true, laidKinds := [.data, .data, .data, .data, .pinned], laidTests := true, laidLooks := .later }
def SightLeastsCardSaid : Prop := Claim7.holds Tryz.pinned (.plain (OpenSpec.ofChange sightLeastsSpec)) sightLeastsCard

/-- THE TIED CARD OF 'mahlsticklaw02.SightLarger'. -/
def sightLargerCard : Claim7 := { stood := { row := sightLargerRow, standIns := [], harness := (true, "c089f4a6c7dee226a511cebe5626e4f890a9efbc5be6c538b82d4ec1adb53a90"), looks := true }, kinds := [], alts := [], laidByText := true, laidKinds := [.data, .data, .data, .data, .pinned], laidTests := true, laidLooks := .later }
def SightLargerCardSaid : Prop := Claim7.holds Tryz.pinned (.plain (OpenSpec.ofChange sightLargerSpec)) sightLargerCard

/-- THE TIED CARD OF 'mahlsticklaw02.SightLit'. -/
def sightLitCard : Claim7 := { stood := { row := sightLitRow, standIns := [], harness := (true, "c089f4a6c7dee226a511cebe5626e4f890a9efbc5be6c538b82d4ec1adb53a90"), looks := true }, kinds := [], alts := [], laidByText := true, laidKinds := [.data, .data, .data, .data, .pinned], laidTests := true, laidLooks := .later }
def SightLitCardSaid : Prop := Claim7.holds Tryz.pinned (.plain (OpenSpec.ofChange sightLitSpec)) sightLitCard

/-- THE SECOND FORM's CARD OF 'mahlsticklaw02.SightEyes'. -/
def sightEyesUptoCard : Claim7 := { stood := { row := sightEyesUptoRow, standIns := [], harness := (true, "c089f4a6c7dee226a511cebe5626e4f890a9efbc5be6c538b82d4ec1adb53a90"), looks := true }, kinds := [], alts := [], laidByText := true, laidKinds := [.data, .data, .data, .data, .pinned], laidTests := true, laidLooks := .later }
def SightEyesUptoCardSaid : Prop := Claim7.holds Tryz.pinned (.plain (OpenSpec.upto sightEyesSpec)) sightEyesUptoCard

/-- THE SECOND FORM's CARD OF 'mahlsticklaw02.SightWhys'. -/
def sightWhysUptoCard : Claim7 := { stood := { row := sightWhysUptoRow, standIns := [], harness := (true, "c089f4a6c7dee226a511cebe5626e4f890a9efbc5be6c538b82d4ec1adb53a90"), looks := true }, kinds := [], alts := [], laidByText := true, laidKinds := [.data, .data, .data, .data, .pinned], laidTests := true, laidLooks := .later }
def SightWhysUptoCardSaid : Prop := Claim7.holds Tryz.pinned (.plain (OpenSpec.upto sightWhysSpec)) sightWhysUptoCard

/-- THE SECOND FORM's CARD OF 'mahlsticklaw02.SightFaulty'. -/
def sightFaultyUptoCard : Claim7 := { stood := { row := sightFaultyUptoRow, standIns := [], harness := (true, "c089f4a6c7dee226a511cebe5626e4f890a9efbc5be6c538b82d4ec1adb53a90"), looks := true }, kinds := [], alts := [], laidByText := true, laidKinds := [.data, .data, .data, .data, .pinned], laidTests := true, laidLooks := .later }
def SightFaultyUptoCardSaid : Prop := Claim7.holds Tryz.pinned (.plain (OpenSpec.upto sightFaultySpec)) sightFaultyUptoCard

/-- THE SECOND FORM's CARD OF 'mahlsticklaw02.SightLetterings'. -/
def sightLetteringsUptoCard : Claim7 := { stood := { row := sightLetteringsUptoRow, standIns := [], harness := (true, "c089f4a6c7dee226a511cebe5626e4f890a9efbc5be6c538b82d4ec1adb53a90"), looks := true }, kinds := [], alts := [], laidByText := true, laidKinds := [.data, .data, .data, .data, .pinned], laidTests := true, laidLooks := .later }
def SightLetteringsUptoCardSaid : Prop := Claim7.holds Tryz.pinned (.plain (OpenSpec.upto sightLetteringsSpec)) sightLetteringsUptoCard

/-- THE SECOND FORM's CARD OF 'mahlsticklaw02.SightParts'. -/
def sightPartsUptoCard : Claim7 := { stood := { row := sightPartsUptoRow, standIns := [], harness := (true, "c089f4a6c7dee226a511cebe5626e4f890a9efbc5be6c538b82d4ec1adb53a90"), looks := true }, kinds := [], alts := [], laidByText := true, laidKinds := [.data, .data, .data, .data, .pinned], laidTests := true, laidLooks := .later }
def SightPartsUptoCardSaid : Prop := Claim7.holds Tryz.pinned (.plain (OpenSpec.upto sightPartsSpec)) sightPartsUptoCard

/-- THE SECOND FORM's CARD OF 'mahlsticklaw02.SightManys'. -/
def sightManysUptoCard : Claim7 := { stood := { row := sightManysUptoRow, standIns := [], harness := (true, "c089f4a6c7dee226a511cebe5626e4f890a9efbc5be6c538b82d4ec1adb53a90"), looks := true }, kinds := [], alts := [], laidByText := true, laidKinds := [.data, .data, .data, .data, .pinned], laidTests := true, laidLooks := .later }
def SightManysUptoCardSaid : Prop := Claim7.holds Tryz.pinned (.plain (OpenSpec.upto sightManysSpec)) sightManysUptoCard

/-- THE SECOND FORM's CARD OF 'mahlsticklaw02.SightAway'. -/
def sightAwayUptoCard : Claim7 := { stood := { row := sightAwayUptoRow, standIns := [], harness := (true, "c089f4a6c7dee226a511cebe5626e4f890a9efbc5be6c538b82d4ec1adb53a90"), looks := true }, kinds := [], alts := [], laidByText := true, laidKinds := [.data, .data, .data, .data, .pinned], laidTests := true, laidLooks := .later }
def SightAwayUptoCardSaid : Prop := Claim7.holds Tryz.pinned (.plain (OpenSpec.upto sightAwaySpec)) sightAwayUptoCard

/-- THE SECOND FORM's CARD OF 'mahlsticklaw02.SightLeasts'. -/
def sightLeastsUptoCard : Claim7 := { stood := { row := sightLeastsUptoRow, standIns := [], harness := (true, "c089f4a6c7dee226a511cebe5626e4f890a9efbc5be6c538b82d4ec1adb53a90"), looks := true }, kinds := [], alts := [], laidByText := true, laidKinds := [.data, .data, .data, .data, .pinned], laidTests := true, laidLooks := .later }
def SightLeastsUptoCardSaid : Prop := Claim7.holds Tryz.pinned (.plain (OpenSpec.upto sightLeastsSpec)) sightLeastsUptoCard

/-- THE SECOND FORM's CARD OF 'mahlsticklaw02.SightLarger'. -/
def sightLargerUptoCard : Claim7 := { stood := { row := sightLargerUptoRow, standIns := [], harness := (true, "c089f4a6c7dee226a511cebe5626e4f890a9efbc5be6c538b82d4ec1adb53a90"), looks := true }, kinds := [], alts := [], laidByText := true, laidKinds := [.data, .data, .data, .data, .pinned], laidTests := true, laidLooks := .later }
def SightLargerUptoCardSaid : Prop := Claim7.holds Tryz.pinned (.plain (OpenSpec.upto sightLargerSpec)) sightLargerUptoCard

/-- THE SECOND FORM's CARD OF 'mahlsticklaw02.SightLit'. -/
def sightLitUptoCard : Claim7 := { stood := { row := sightLitUptoRow, standIns := [], harness := (true, "c089f4a6c7dee226a511cebe5626e4f890a9efbc5be6c538b82d4ec1adb53a90"), looks := true }, kinds := [], alts := [], laidByText := true, laidKinds := [.data, .data, .data, .data, .pinned], laidTests := true, laidLooks := .later }
def SightLitUptoCardSaid : Prop := Claim7.holds Tryz.pinned (.plain (OpenSpec.upto sightLitSpec)) sightLitUptoCard
end Rows
end Go.Proofs.YtmafgkfeicjdgaaGreatDoor
