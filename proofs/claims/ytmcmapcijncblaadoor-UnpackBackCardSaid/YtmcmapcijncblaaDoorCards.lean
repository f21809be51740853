/-
  DERIVED. GIVEN WITH THE SEED: THE CARDS: each row of YtmcmapcijncblaaDoorRows.lean that lists a variable, with what it lists TIED to the program's text (the seventh form; the later family's looks); each row that meets fmt, with fmt's text TOLD by the authors' own Lean function (tested against real Go, not proved from fmt's source: count such statements apart). THE CARD IS WHAT COUNTS. Prove the row's statement (the work); the ties are given (YtmcmapcijncblaaDoorTie.lean); close each card by the builder's one call (the guide's Derived/Test/ToyasCard.lean, 'card_holds'). Laid BY PROGRAM, IN A SANDBOX (cutbox-door.mjs). By AI agents, Wed Nov 11 2026. No macro, syntax, notation, axiom, sorry.
-/
import Derived.Test.YtmcmapcijncblaaDoorRows
import GoSem.ClaimSeven
namespace Go.Proofs.YtmcmapcijncblaaDoor
namespace Rows

/-- THE TIED CARD OF 'sextantlaw06.UnpackReads'. -/
def unpackReadsCard : Claim7 := { stood := { row := unpackReadsRow, standIns := [], harness := (true, "e34bc21027e435b07daed234c0075dc247fd10bec3f64cb33e0f2c530a589a0c"), looks := true }, kinds := [], alts := [], laidByText := true, laidKinds := [.handle, .widerDeep, .widerDeep, .widerDeep, .widerDeep, .widerDeep], laidTests := true, laidLooks := .later }
def UnpackReadsCardSaid : Prop := Claim7.holds Tryd.pinned (.plain (OpenSpec.ofChange unpackReadsSpec)) unpackReadsCard

/-- THE TIED CARD OF 'sextantlaw06.UnpackBack'. -/
def unpackBackCard : Claim7 := { stood := { row := unpackBackRow, standIns := [], harness := (true, "e34bc21027e435b07daed234c0075dc247fd10bec3f64cb33e0f2c530a589a0c"), looks := true }, kinds := [], alts := [], laidByText := true, laidKinds := [.handle, .widerDeep, .widerDeep, .widerDeep, .widerDeep, .widerDeep], laidTests := true, laidLooks := .later }
def UnpackBackCardSaid : Prop := Claim7.holds Tryd.pinned (.plain (OpenSpec.ofChange unpackBackSpec)) unpackBackCard

/-- THE TIED CARD OF 'sextantlaw06.UnpackOne'. -/
def unpackOneCard : Claim7 := { stood := { row := unpackOneRow, standIns := [], harness := (true, "e34bc21027e435b07daed234c0075dc247fd10bec3f64cb33e0f2c530a589a0c"), looks := true }, kinds := [], alts := [], laidByText := true, laidKinds := [.handle, .widerDeep, .widerDeep, .widerDeep, .widerDeep, .widerDeep], laidTests := true, laidLooks := .later }
def UnpackOneCardSaid : Prop := Claim7.holds Tryd.pinned (.plain (OpenSpec.ofChange unpackOneSpec)) unpackOneCard

/-- THE TIED CARD OF 'sextantlaw06.UnpackKnown'. -/
def unpackKnownCard : Claim7 := { stood := { row := unpackKnownRow, standIns := [], harness := (true, "e34bc21027e435b07daed234c0075dc247fd10bec3f64cb33e0f2c530a589a0c"), looks := true }, kinds := [], alts := [], laidByText := true, laidKinds := [.handle, .widerDeep, .widerDeep, .widerDeep, .widerDeep, .widerDeep], laidTests := true, laidLooks := .later }
def UnpackKnownCardSaid : Prop := Claim7.holds Tryd.pinned (.plain (OpenSpec.ofChange unpackKnownSpec)) unpackKnownCard

/-- THE SECOND FORM's CARD OF 'sextantlaw06.UnpackReads'. -/
def unpackReadsUptoCard : Claim7 := { stood := { row := unpackReadsUptoRow, standIns := [], harness := (true, "e34bc21027e435b07daed234c0075dc247fd10bec3f64cb33e0f2c530a589a0c"), looks := true }, kinds := [], alts := [], laidByText := true, laidKinds := [.handle, .widerDeep, .widerDeep, .widerDeep, .widerDeep, .widerDeep], laidTests := true, laidLooks := .later }
def UnpackReadsUptoCardSaid : Prop := Claim7.holds Tryd.pinned (.plain (OpenSpec.upto unpackReadsSpec)) unpackReadsUptoCard

/-- THE SECOND FORM's CARD OF 'sextantlaw06.UnpackBack'. -/
def unpackBackUptoCard : Claim7 := { stood := { row := unpackBackUptoRow, standIns := [], harness := (true, "e34bc21027e435b07daed234c0075dc247fd10bec3f64cb33e0f2c530a589a0c"), looks := true }, kinds := [], alts := [], laidByText := true, laidKinds := [.handle, .widerDeep, .widerDeep, .widerDeep, .widerDeep, .widerDeep], laidTests := true, laidLooks := .later }
def UnpackBackUptoCardSaid : Prop := Claim7.holds Tryd.pinned (.plain (OpenSpec.upto unpackBackSpec)) unpackBackUptoCard

/-- THE SECOND FORM's CARD OF 'sextantlaw06.UnpackOne'. -/
def unpackOneUptoCard : Claim7 := { stood := { row := unpackOneUptoRow, standIns := [], harness := (true, "e34bc21027e435b07daed234c0075dc247fd10bec3f64cb33e0f2c530a589a0c"), looks := true }, kinds := [], alts := [], laidByText := true, laidKinds := [.handle, .widerDeep, .widerDeep, .widerDeep, .widerDeep, .widerDeep], laidTests := true, laidLooks := .later }
def UnpackOneUptoCardSaid : Prop := Claim7.holds Tryd.pinned (.plain (OpenSpec.upto unpackOneSpec)) unpackOneUptoCard

/-- THE SECOND FORM's CARD OF 'sextantlaw06.UnpackKnown'. -/
def unpackKnownUptoCard : Claim7 := { stood := { row := unpackKnownUptoRow, standIns := [], harness := (true, "e34bc21027e435b07daed234c0075dc247fd10bec3f64cb33e0f2c530a589a0c"), looks := true }, kinds := [], alts := [], laidByText := true, laidKinds := [.handle, .widerDeep, .widerDeep, .widerDeep, .widerDeep, .widerDeep], laidTests := true, laidLooks := .later }
def UnpackKnownUptoCardSaid : Prop := Claim7.holds Tryd.pinned (.plain (OpenSpec.upto unpackKnownSpec)) unpackKnownUptoCard
end Rows
end Go.Proofs.YtmcmapcijncblaaDoor
