/-
  DERIVED. GIVEN WITH THE SEED: THE CARDS: each row of YtihiaopilnjonaaGreatDoorRows.lean that lists a variable, with what it lists TIED to the program's text (the seventh form; the later family's looks); each row that meets fmt, with fmt's text TOLD by the authors' own Lean function (tested against real Go, not proved from fmt's source: count such statements apart). THE CARD IS WHAT COUNTS. Prove the row's statement (the work); the ties are given (YtihiaopilnjonaaGreatDoorTie.lean); close each card by the builder's one call (the guide's Derived/Test/ToyasCard.lean, 'card_holds'). Laid BY PROGRAM, IN A SANDBOX (cutbox-door.mjs). By AI agents, Wed Nov 11 2026. No macro, syntax, notation, axiom, sorry.
-/
import Derived.Test.YtihiaopilnjonaaGreatDoorRows
import GoSem.ClaimSeven
namespace Go.Proofs.YtihiaopilnjonaaGreatDoor
namespace Rows

/-- THE TIED CARD OF 'sextantlaw21.CertShows'. -/
def certShowsCard : Claim7 := { stood := { row := certShowsRow, standIns := [], harness := (true, "aac9e435b05b7b0ec056f190b111ff39a243d367ef0e3ece8111baab4b4ace0b"), looks := true }, kinds := [], alts := [], laidByText := true, laidKinds := [.data, .widerDeep, .widerDeep, .widerDeep, .widerDeep, .widerDeep], laidTests := true, laidLooks := .later }
def CertShowsCardSaid : Prop := Claim7.holds Tryz.pinned (.plain (OpenSpec.ofChange certShowsSpec)) certShowsCard

/-- THE TIED CARD OF 'sextantlaw21.CertKnown'. -/
def certKnownCard : Claim7 := { stood := { row := certKnownRow, standIns := [], harness := (true, "aac9e435b05b7b0ec056f190b111ff39a243d367ef0e3ece8111baab4b4ace0b"), looks := true }, kinds := [], alts := [], laidByText := true, laidKinds := [.data, .widerDeep, .widerDeep, .widerDeep, .widerDeep, .widerDeep], laidTests := true, laidLooks := .later }
def CertKnownCardSaid : Prop := Claim7.holds Tryz.pinned (.plain (OpenSpec.ofChange certKnownSpec)) certKnownCard

/-- THE TIED CARD OF 'sextantlaw07.WireParts'. -/
def wirePartsCard : Claim7 := { stood := { row := wirePartsRow, standIns := [], harness := (true, "aac9e435b05b7b0ec056f190b111ff39a243d367ef0e3ece8111baab4b4ace0b"), looks := true }, kinds := [], alts := [], laidByText := true, laidKinds := [.data, .handle, .widerDeep, .widerDeep, .widerDeep, .widerDeep, .widerDeep], laidTests := true, laidLooks := .later }
def WirePartsCardSaid : Prop := Claim7.holds Tryz.pinned (.plain (OpenSpec.ofChange wirePartsSpec)) wirePartsCard

/-- THE TIED CARD OF 'sextantlaw07.WireSlots'. -/
def wireSlotsCard : Claim7 := { stood := { row := wireSlotsRow, standIns := [], harness := (true, "aac9e435b05b7b0ec056f190b111ff39a243d367ef0e3ece8111baab4b4ace0b"), looks := true }, kinds := [], alts := [], laidByText := true, laidKinds := [.data, .handle, .widerDeep, .widerDeep, .widerDeep, .widerDeep, .widerDeep], laidTests := true, laidLooks := .later }
def WireSlotsCardSaid : Prop := Claim7.holds Tryz.pinned (.plain (OpenSpec.ofChange wireSlotsSpec)) wireSlotsCard

/-- THE TIED CARD OF 'sextantlaw07.WireMsgs'. -/
def wireMsgsCard : Claim7 := { stood := { row := wireMsgsRow, standIns := [], harness := (true, "aac9e435b05b7b0ec056f190b111ff39a243d367ef0e3ece8111baab4b4ace0b"), looks := true }, kinds := [], alts := [], laidByText := true, laidKinds := [.data, .handle, .widerDeep, .widerDeep, .widerDeep, .widerDeep, .widerDeep], laidTests := true, laidLooks := .later }
def WireMsgsCardSaid : Prop := Claim7.holds Tryz.pinned (.plain (OpenSpec.ofChange wireMsgsSpec)) wireMsgsCard

/-- THE TIED CARD OF 'sextantlaw07.WireAgain'. -/
def wireAgainCard : Claim7 := { stood := { row := wireAgainRow, standIns := [], harness := (true, "aac9e435b05b7b0ec056f190b111ff39a243d367ef0e3ece8111baab4b4ace0b"), looks := true }, kinds := [], alts := [], laidByText := true, laidKinds := [.data, .handle, .widerDeep, .widerDeep, .widerDeep, .widerDeep, .widerDeep], laidTests := true, laidLooks := .later }
def WireAgainCardSaid : Prop := Claim7.holds Tryz.pinned (.plain (OpenSpec.ofChange wireAgainSpec)) wireAgainCard

/-- THE TIED CARD OF 'sextantlaw07.WireCerts'. -/
def wireCertsCard : Claim7 := { stood := { row := wireCertsRow, standIns := [], harness := (true, "aac9e435b05b7b0ec056f190b111ff39a243d367ef0e3ece8111baab4b4ace0b"), looks := true }, kinds := [], alts := [], laidByText := true, laidKinds := [.data, .handle, .widerDeep, .widerDeep, .widerDeep, .widerDeep, .widerDeep], laidTests := true, laidLooks := .later }
def WireCertsCardSaid : Prop := Claim7.holds Tryz.pinned (.plain (OpenSpec.ofChange wireCertsSpec)) wireCertsCard

/-- THE TIED CARD OF 'sextantlaw07.WireBack'. -/
def wireBackCard : Claim7 := { stood := { row := wireBackRow, standIns := [], harness := (true, "aac9e435b05b7b0ec056f190b111ff39a243d367ef0e3ece8111baab4b4ace0b"), looks := true }, kinds := [], alts := [], laidByText := true, laidKinds := [.data, .handle, .widerDeep, .widerDeep, .widerDeep, .widerDeep, .widerDeep], laidTests := true, laidLooks := .later }
def WireBackCardSaid : Prop := Claim7.holds Tryz.pinned (.plain (OpenSpec.ofChange wireBackSpec)) wireBackCard

/-- THE TIED CARD OF 'sextantlaw07.WireCuts'. -/
def wireCutsCard : Claim7 := { stood := { row := wireCutsRow, standIns := [], harness := (true, "aac9e435b05b7b0ec056f190b111ff39a243d367ef0e3ece8111baab4b4ace0b"), looks := true }, kinds := [], alts := [], laidByText := true, laidKinds := [.data, .handle, .widerDeep, .widerDeep, .widerDeep, .widerDeep, .widerDeep], laidTests := true, laidLooks := .later }
def WireCutsCardSaid : Prop := Claim7.holds Tryz.pinned (.plain (OpenSpec.ofChange wireCutsSpec)) wireCutsCard

/-- THE TIED CARD OF 'sextantlaw07.WireKnown'. -/
def wireKnownCard : Claim7 := { stood := { row := wireKnownRow, standIns := [], harness := (true, "aac9e435b05b7b0ec056f190b111ff39a243d367ef0e3ece8111baab4b4ace0b"), looks := true }, kinds := [], alts := [], laidByText := true, laidKinds := [.data, .handle, .widerDeep, .widerDeep, .widerDeep, .widerDeep, .widerDeep], laidTests := true, laidLooks := .later }
def WireKnownCardSaid : Prop := Claim7.holds Tryz.pinned (.plain (OpenSpec.ofChange wireKnownSpec)) wireKnownCard

/-- THE SECOND FORM's CARD OF 'sextantlaw21.CertShows'. -/
def certShowsUptoCard : Claim7 := { stood := { row := certShowsUptoRow, standIns := [], harness := (true, "aac9e435b05b7b0ec056f190b111ff39a243d367ef0e3ece8111baab4b4ace0b"), looks := true }, kinds := [], alts := [], laidByText := true, laidKinds := [.data, .widerDeep, .widerDeep, .widerDeep, .widerDeep, .widerDeep], laidTests := true, laidLooks := .later }
def CertShowsUptoCardSaid : Prop := Claim7.holds Tryz.pinned (.plain (OpenSpec.upto certShowsSpec)) certShowsUptoCard

/-- THE SECOND FORM's CARD OF 'sextantlaw21.CertKnown'. -/
def certKnownUptoCard : Claim7 := { stood := { row := certKnownUptoRow, standIns := [], harness := (true, "aac9e435b05b7b0ec056f190b111ff39a243d367ef0e3ece8111baab4b4ace0b"), looks := true }, kinds := [], alts := [], laidByText := true, laidKinds := [.data, .widerDeep, .widerDeep, .widerDeep, .widerDeep, .widerDeep], laidTests := true, laidLooks := .later }
def CertKnownUptoCardSaid : Prop := Claim7.holds Tryz.pinned (.plain (OpenSpec.upto certKnownSpec)) certKnownUptoCard

/-- THE SECOND FORM's CARD OF 'sextantlaw07.WireParts'. -/
def wirePartsUptoCard : Claim7 := { stood := { row := wirePartsUptoRow, standIns := [], harness := (true, "aac9e435b05b7b0ec056f190b111ff39a243d367ef0e3ece8111baab4b4ace0b"), looks := true }, kinds := [], alts := [], laidByText := true, laidKinds := [.data, .handle, .widerDeep, .widerDeep, .widerDeep, .widerDeep, .widerDeep], laidTests := true, laidLooks := .later }
def WirePartsUptoCardSaid : Prop := Claim7.holds Tryz.pinned (.plain (OpenSpec.upto wirePartsSpec)) wirePartsUptoCard

/-- THE SECOND FORM's CARD OF 'sextantlaw07.WireSlots'. -/
def wireSlotsUptoCard : Claim7 := { stood := { row := wireSlotsUptoRow, standIns := [], harness := (true, "aac9e435b05b7b0ec056f190b111ff39a243d367ef0e3ece8111baab4b4ace0b"), looks := true }, kinds := [], alts := [], laidByText := true, laidKinds := [.data, .handle, .widerDeep, .widerDeep, .widerDeep, .widerDeep, .widerDeep], laidTests := true, laidLooks := .later }
def WireSlotsUptoCardSaid : Prop := Claim7.holds Tryz.pinned (.plain (OpenSpec.upto wireSlotsSpec)) wireSlotsUptoCard

/-- THE SECOND FORM's CARD OF 'sextantlaw07.WireMsgs'. -/
def wireMsgsUptoCard : Claim7 := { stood := { row := wireMsgsUptoRow, standIns := [], harness := (true, "aac9e435b05b7b0ec056f190b111ff39a243d367ef0e3ece8111baab4b4ace0b"), looks := true }, kinds := [], alts := [], laidByText := true, laidKinds := [.data, .handle, .widerDeep, .widerDeep, .widerDeep, .widerDeep, .widerDeep], laidTests := true, laidLooks := .later }
def WireMsgsUptoCardSaid : Prop := Claim7.holds Tryz.pinned (.plain (OpenSpec.upto wireMsgsSpec)) wireMsgsUptoCard

/-- THE SECOND FORM's CARD OF 'sextantlaw07.WireAgain'. -/
def wireAgainUptoCard : Claim7 := { stood := { row := wireAgainUptoRow, standIns := [], harness := (true, "aac9e435b05b7b0ec056f190b111ff39a243d367ef0e3ece8111baab4b4ace0b"), looks := true }, kinds := [], alts := [], laidByText := true, laidKinds := [.data, .handle, .widerDeep, .widerDeep, .widerDeep, .widerDeep, .widerDeep], laidTests := true, laidLooks := .later }
def WireAgainUptoCardSaid : Prop := Claim7.holds Tryz.pinned (.plain (OpenSpec.upto wireAgainSpec)) wireAgainUptoCard

/-- THE SECOND FORM's CARD OF 'sextantlaw07.WireCerts'. -/
def wireCertsUptoCard : Claim7 := { stood := { row := wireCertsUptoRow, standIns := [], harness := (true, "aac9e435b05b7b0ec056f190b111ff39a243d367ef0e3ece8111baab4b4ace0b"), looks := true }, kinds := [], alts := [], laidByText := true, laidKinds := [.data, .handle, .widerDeep, .widerDeep, .widerDeep, .widerDeep, .widerDeep], laidTests := true, laidLooks := .later }
def WireCertsUptoCardSaid : Prop := Claim7.holds Tryz.pinned (.plain (OpenSpec.upto wireCertsSpec)) wireCertsUptoCard

/-- THE SECOND FORM's CARD OF 'sextantlaw07.WireBack'. -/
def wireBackUptoCard : Claim7 := { stood := { row := wireBackUptoRow, standIns := [], harness := (true, "aac9e435b05b7b0ec056f190b111ff39a243d367ef0e3ece8111baab4b4ace0b"), looks := true }, kinds := [], alts := [], laidByText := true, laidKinds := [.data, .handle, .widerDeep, .widerDeep, .widerDeep, .widerDeep, .widerDeep], laidTests := true, laidLooks := .later }
def WireBackUptoCardSaid : Prop := Claim7.holds Tryz.pinned (.plain (OpenSpec.upto wireBackSpec)) wireBackUptoCard

/-- THE SECOND FORM's CARD OF 'sextantlaw07.WireCuts'. -/
def wireCutsUptoCard : Claim7 := { stood := { row := wireCutsUptoRow, standIns := [], harness := (true, "aac9e435b05b7b0ec056f190b111ff39a243d367ef0e3ece8111baab4b4ace0b"), looks := true }, kinds := [], alts := [], laidByText := true, laidKinds := [.data, .handle, .widerDeep, .widerDeep, .widerDeep, .widerDeep, .widerDeep], laidTests := true, laidLooks := .later }
def WireCutsUptoCardSaid : Prop := Claim7.holds Tryz.pinned (.plain (OpenSpec.upto wireCutsSpec)) wireCutsUptoCard

/-- THE SECOND FORM's CARD OF 'sextantlaw07.WireKnown'. -/
def wireKnownUptoCard : Claim7 := { stood := { row := wireKnownUptoRow, standIns := [], harness := (true, "aac9e435b05b7b0ec056f190b111ff39a243d367ef0e3ece8111baab4b4ace0b"), looks := true }, kinds := [], alts := [], laidByText := true, laidKinds := [.data, .handle, .widerDeep, .widerDeep, .widerDeep, .widerDeep, .widerDeep], laidTests := true, laidLooks := .later }
def WireKnownUptoCardSaid : Prop := Claim7.holds Tryz.pinned (.plain (OpenSpec.upto wireKnownSpec)) wireKnownUptoCard
end Rows
end Go.Proofs.YtihiaopilnjonaaGreatDoor
