/-
  DERIVED. GIVEN WITH THE SEED: THE CARDS: each row of YtojfpogcfpmblaaGreatDoorRows.lean that lists a variable, with what it lists TIED to the program's text (the seventh form; the later family's looks); each row that meets fmt, with fmt's text TOLD by the authors' own Lean function (tested against real Go, not proved from fmt's source: count such statements apart). THE CARD IS WHAT COUNTS. Prove the row's statement (the work); the ties are given (YtojfpogcfpmblaaGreatDoorTie.lean); close each card by the builder's one call (the guide's Derived/Test/ToyasCard.lean, 'card_holds'). Laid BY PROGRAM, IN A SANDBOX (cutbox-door.mjs). By AI agents, Wed Nov 11 2026. No macro, syntax, notation, axiom, sorry.
-/
import Derived.Test.YtojfpogcfpmblaaGreatDoorRows
import GoSem.ClaimSeven
namespace Go.Proofs.YtojfpogcfpmblaaGreatDoor
namespace Rows

/-- THE TIED CARD OF 'mahlsticklaw04.LeafFewer'. -/
def leafFewerCard : Claim7 := { stood := { row := leafFewerRow, standIns := [], harness := (true, "b9e665a4b67ae011e5ed22b8eb226cc6d74f55357845231d1045bbc61717fa8c"), looks := true }, kinds := [], alts := [], laidByText := true, laidKinds := [.data, .data, .data, .data, .pinned], laidTests := true, laidLooks := .later }
def LeafFewerCardSaid : Prop := Claim7.holds Tryz.pinned (.plain (OpenSpec.ofChange leafFewerSpec)) leafFewerCard

/-- THE TIED CARD OF 'mahlsticklaw04.LeafHalves'. -/
def leafHalvesCard : Claim7 := { stood := { row := leafHalvesRow, standIns := [], harness := (true, "b9e665a4b67ae011e5ed22b8eb226cc6d74f55357845231d1045bbc61717fa8c"), looks := true }, kinds := [], alts := [], laidByText := true, laidKinds := [.data, .data, .data, .data, .pinned], laidTests := true, laidLooks := .later }
def LeafHalvesCardSaid : Prop := Claim7.holds Tryz.pinned (.plain (OpenSpec.ofChange leafHalvesSpec)) leafHalvesCard

/-- THE TIED CARD OF 'mahlsticklaw04.LeafCuts'. -/
def leafCutsCard : Claim7 := { stood := { row := leafCutsRow, standIns := [], harness := (true, "b9e665a4b67ae011e5ed22b8eb226cc6d74f55357845231d1045bbc61717fa8c"), looks := true }, kinds := [], alts := [], laidByText := true, laidKinds := [.data, .data, .data, .data, .pinned], laidTests := true, laidLooks := .later }
def LeafCutsCardSaid : Prop := Claim7.holds Tryz.pinned (.plain (OpenSpec.ofChange leafCutsSpec)) leafCutsCard

/-- THE TIED CARD OF 'mahlsticklaw04.LeafCutting'. -/
def leafCuttingCard : Claim7 := { stood := { row := leafCuttingRow, standIns := [], harness := (true, "b9e665a4b67ae011e5ed22b8eb226cc6d74f55357845231d1045bbc61717fa8c"), looks := true }, kinds := [], alts := [], laidByText := true, laidKinds := [.data, .data, .data, .data, .pinned], laidTests := true, laidLooks := .later }
def LeafCuttingCardSaid : Prop := Claim7.holds Tryz.pinned (.plain (OpenSpec.ofChange leafCuttingSpec)) leafCuttingCard

/-- THE TIED CARD OF 'mahlsticklaw04.LeafSames'. -/
def leafSamesCard : Claim7 := { stood := { row := leafSamesRow, standIns := [], harness := (true, "b9e665a4b67ae011e5ed22b8eb226cc6d74f55357845231d1045bbc61717fa8c"), looks := true }, kinds := [], alts := [], laidByText := true, laidKinds := [.data, .data, .data, .data, .pinned], laidTests := true, laidLooks := .later }
def LeafSamesCardSaid : Prop := Claim7.holds Tryz.pinned (.plain (OpenSpec.ofChange leafSamesSpec)) leafSamesCard

/-- THE TIED CARD OF 'mahlsticklaw04.LeafApart'. -/
def leafApartCard : Claim7 := { stood := { row := leafApartRow, standIns := [], harness := (true, "b9e665a4b67ae011e5ed22b8eb226cc6d74f55357845231d1045bbc61717fa8c"), looks := true }, kinds := [], alts := [], laidByText := true, laidKinds := [.data, .data, .data, .data, .pinned], laidTests := true, laidLooks := .later }
def LeafApartCardSaid : Prop := Claim7.holds Tryz.pinned (.plain (OpenSpec.ofChange leafApartSpec)) leafApartCard

/-- THE TIED CARD OF 'mahlsticklaw04.LeafRests'. -/
def leafRestsCard : Claim7 := { stood := { row := leafRestsRow, standIns := [], harness := (true, "b9e665a4b67ae011e5ed22b8eb226cc6d74f55357845231d1045bbc61717fa8c"), looks := true }, kinds := [], alts := [], laidByText := true, laidKinds := [.data, .data, .data, .data, .pinned], laidTests := true, laidLooks := .later }
def LeafRestsCardSaid : Prop := Claim7.holds Tryz.pinned (.plain (OpenSpec.ofChange leafRestsSpec)) leafRestsCard

/-- THE TIED CARD OF 'mahlsticklaw04.LeafLeft'. -/
def leafLeftCard : Claim7 := { stood := { row := leafLeftRow, standIns := [], harness := (true, "b9e665a4b67ae011e5ed22b8eb226cc6d74f55357845231d1045bbc61717fa8c"), looks := true }, kinds := [], alts := [], laidByText := true, laidKinds := [.data, .data, .data, .data, .pinned], laidTests := true, laidLooks := .later }
def LeafLeftCardSaid : Prop := Claim7.holds Tryz.pinned (.plain (OpenSpec.ofChange leafLeftSpec)) leafLeftCard

/-- THE TIED CARD OF 'mahlsticklaw04.LeafLays'. -/
def leafLaysCard : Claim7 := { stood := { row := leafLaysRow, standIns := [], harness := (true, "b9e665a4b67ae011e5ed22b8eb226cc6d74f55357845231d1045bbc61717fa8c"), looks := true }, kinds := [], alts := [], laidByText := true, laidKinds := [.data, .data, .data, .data, .pinned], laidTests := true, laidLooks := .later }
def LeafLaysCardSaid : Prop := Claim7.holds Tryz.pinned (.plain (OpenSpec.ofChange leafLaysSpec)) leafLaysCard

/-- THE TIED CARD OF 'mahlsticklaw04.LeafEarly'. -/
def leafEarlyCard : Claim7 := { stood := { row := leafEarlyRow, standIns := [], harness := (true, "b9e665a4b67ae011e5ed22b8eb226cc6d74f55357845231d1045bbc61717fa8c"), looks := true }, kinds := [], alts := [], laidByText := true, laidKinds := [.data, .data, .data, .data, .pinned], laidTests := true, laidLooks := .later }
def LeafEarlyCardSaid : Prop := Claim7.holds Tryz.pinned (.plain (OpenSpec.ofChange leafEarlySpec)) leafEarlyCard

/-- THE TIED CARD OF 'mahlsticklaw04.LeafWhens'. -/
def leafWhensCard : Claim7 := { stood := { row := leafWhensRow, standIns := [], harness := (true, "b9e665a4b67ae011e5ed22b8eb226cc6d74f55357845231d1045bbc61717fa8c"), looks := true }, kinds := [], alts := [], laidByText := true, laidKinds := [.data, .data, .data, .data, .pinned], laidTests := true, laidLooks := .later }
def LeafWhensCardSaid : Prop := Claim7.holds Tryz.pinned (.plain (OpenSpec.ofChange leafWhensSpec)) leafWhensCard

/-- THE SECOND FORM's CARD OF 'mahlsticklaw04.LeafFewer'. -/
def leafFewerUptoCard : Claim7 := { stood := { row := leafFewerUptoRow, standIns := [], harness := (true, "b9e665a4b67ae011e5ed22b8eb226cc6d74f55357845231d1045bbc61717fa8c"), looks := true }, kinds := [], alts := [], laidByText := true, laidKinds := [.data, .data, .data, .data, .pinned], laidTests := true, laidLooks := .later }
def LeafFewerUptoCardSaid : Prop := Claim7.holds Tryz.pinned (.plain (OpenSpec.upto leafFewerSpec)) leafFewerUptoCard

/-- THE SECOND FORM's CARD OF 'mahlsticklaw04.LeafHalves'. -/
def leafHalvesUptoCard : Claim7 := { stood := { row := leafHalvesUptoRow, standIns := [], harness := (true, "b9e665a4b67ae011e5ed22b8eb226cc6d74f55357845231d1045bbc61717fa8c"), looks := true }, kinds := [], alts := [], laidByText := true, laidKinds := [.data, .data, .data, .data, .pinned], laidTests := true, laidLooks := .later }
def LeafHalvesUptoCardSaid : Prop := Claim7.holds Tryz.pinned (.plain (OpenSpec.upto leafHalvesSpec)) leafHalvesUptoCard

/-- THE SECOND FORM's CARD OF 'mahlsticklaw04.LeafCuts'. -/
def leafCutsUptoCard : Claim7 := { stood := { row := leafCutsUptoRow, standIns := [], harness := (true, "b9e665a4b67ae011e5ed22b8eb226cc6d74f55357845231d1045bbc61717fa8c"), looks := true }, kinds := [], alts := [], laidByText := true, laidKinds := [.data, .data, .data, .data, .pinned], laidTests := true, laidLooks := .later }
def LeafCutsUptoCardSaid : Prop := Claim7.holds Tryz.pinned (.plain (OpenSpec.upto leafCutsSpec)) leafCutsUptoCard

/-- THE SECOND FORM's CARD OF 'mahlsticklaw04.LeafCutting'. -/
def leafCuttingUptoCard : Claim7 := { stood := { row := leafCuttingUptoRow, standIns := [], harness := (true, "b9e665a4b67ae011e5ed22b8eb226cc6d74f55357845231d1045bbc61717fa8c"), looks := true }, kinds := [], alts := [], laidByText := true, laidKinds := [.data, .data, .data, .data, .pinned], laidTests := true, laidLooks := .later }
def LeafCuttingUptoCardSaid : Prop := Claim7.holds Tryz.pinned (.plain (OpenSpec.upto leafCuttingSpec)) leafCuttingUptoCard

/-- THE SECOND FORM's CARD OF 'mahlsticklaw04.LeafSames'. -/
def leafSamesUptoCard : Claim7 := { stood := { row := leafSamesUptoRow, standIns := [], harness := (true, "b9e665a4b67ae011e5ed22b8eb226cc6d74f55357845231d1045bbc61717fa8c"), looks := true }, kinds := [], alts := [], laidByText := true, laidKinds := [.data, .data, .data, .data, .pinned], laidTests := true, laidLooks := .later }
def LeafSamesUptoCardSaid : Prop := Claim7.holds Tryz.pinned (.plain (OpenSpec.upto leafSamesSpec)) leafSamesUptoCard

/-- THE SECOND FORM's CARD OF 'mahlsticklaw04.LeafApart'. -/
def leafApartUptoCard : Claim7 := { stood := { row := leafApartUptoRow, standIns := [], harness := (true, "b9e665a4b67ae011e5ed22b8eb226cc6d74f55357845231d1045bbc61717fa8c"), looks := true }, kinds := [], alts := [], laidByText := true, laidKinds := [.data, .data, .data, .data, .pinned], laidTests := true, laidLooks := .later }
def LeafApartUptoCardSaid : Prop := Claim7.holds Tryz.pinned (.plain (OpenSpec.upto leafApartSpec)) leafApartUptoCard

/-- THE SECOND FORM's CARD OF 'mahlsticklaw04.LeafRests'. -/
def leafRestsUptoCard : Claim7 := { stood := { row := leafRestsUptoRow, standIns := [], harness := (true, "b9e665a4b67ae011e5ed22b8eb226cc6d74f55357845231d1045bbc61717fa8c"), looks := true }, kinds := [], alts := [], laidByText := true, laidKinds := [.data, .data, .data, .data, .pinned], laidTests := true, laidLooks := .later }
def LeafRestsUptoCardSaid : Prop := Claim7.holds Tryz.pinned (.plain (OpenSpec.upto leafRestsSpec)) leafRestsUptoCard

/-- THE SECOND FORM's CARD OF 'mahlsticklaw04.LeafLeft'. -/
def leafLeftUptoCard : Claim7 := { stood := { row := leafLeftUptoRow, standIns := [], harness := (true, "b9e665a4b67ae011e5ed22b8eb226cc6d74f55357845231d1045bbc61717fa8c"), looks := true }, kinds := [], alts := [], laidByText := true, laidKinds := [.data, .data, .data, .data, .pinned], laidTests := true, laidLooks := .later }
def LeafLeftUptoCardSaid : Prop := Claim7.holds Tryz.pinned (.plain (OpenSpec.upto leafLeftSpec)) leafLeftUptoCard

/-- THE SECOND FORM's CARD OF 'mahlsticklaw04.LeafLays'. -/
def leafLaysUptoCard : Claim7 := { stood := { row := leafLaysUptoRow, standIns := [], harness := (true, "b9e665a4b67ae011e5ed22b8eb226cc6d74f55357845231d1045bbc61717fa8c"), looks := true }, kinds := [], alts := [], laidByText := true, laidKinds := [.data, .data, .data, .data, .pinned], laidTests := true, laidLooks := .later }
def LeafLaysUptoCardSaid : Prop := Claim7.holds Tryz.pinned (.plain (OpenSpec.upto leafLaysSpec)) leafLaysUptoCard

/-- THE SECOND FORM's CARD OF 'mahlsticklaw04.LeafEarly'. -/
def leafEarlyUptoCard : Claim7 := { stood := { row := leafEarlyUptoRow, standIns := [], harness := (true, "b9e665a4b67ae011e5ed22b8eb226cc6d74f55357845231d1045bbc61717fa8c"), looks := true }, kinds := [], alts := [], laidByText := true, laidKinds := [.data, .data, .data, .data, .pinned], laidTests := true, laidLooks := .later }
def LeafEarlyUptoCardSaid : Prop := Claim7.holds Tryz.pinned (.plain (OpenSpec.upto leafEarlySpec)) leafEarlyUptoCard

/-- THE SECOND FORM's CARD OF 'mahlsticklaw04.LeafWhens'. -/
def leafWhensUptoCard : Claim7 := { stood := { row := leafWhensUptoRow, standIns := [], harness := (true, "b9e665a4b67ae011e5ed22b8eb226cc6d74f55357845231d1045bbc61717fa8c"), looks := true }, kinds := [], alts := [], laidByText := true, laidKinds := [.data, .data, .data, .data, .pinned], laidTests := true, laidLooks := .later }
def LeafWhensUptoCardSaid : Prop := Claim7.holds Tryz.pinned (.plain (OpenSpec.upto leafWhensSpec)) leafWhensUptoCard
end Rows
end Go.Proofs.YtojfpogcfpmblaaGreatDoor
