/-
  DERIVED. GIVEN WITH THE SEED: THE CARDS: each row of YtpobhbdomldecaaGreatDoorRows.lean that lists a variable, with what it lists TIED to the program's text (the seventh form; the later family's looks); each row that meets fmt, with fmt's text TOLD by the authors' own Lean function (tested against real Go, not proved from fmt's source: count such statements apart). THE CARD IS WHAT COUNTS. Prove the row's statement (the work); the ties are given (YtpobhbdomldecaaGreatDoorTie.lean); close each card by the builder's one call (the guide's Derived/Test/ToyasCard.lean, 'card_holds'). Laid BY PROGRAM, IN A SANDBOX (cutbox-door.mjs). By AI agents, Wed Nov 11 2026. No macro, syntax, notation, axiom, sorry.
-/
import Derived.Test.YtpobhbdomldecaaGreatDoorRows
import GoSem.ClaimSeven
namespace Go.Proofs.YtpobhbdomldecaaGreatDoor
namespace Rows

/-- THE TIED CARD OF 'sextantlaw23.HeaderRoots'. -/
def headerRootsCard : Claim7 := { stood := { row := headerRootsRow, standIns := [], harness := (true, "d6a9692c79d8ba879c8baa2fe28e218611c88bd4510964d33b79ff8abe4a1246"), looks := true }, kinds := [], alts := [], laidByText := true, laidKinds := [.data, .widerDeep, .widerDeep], laidTests := true, laidLooks := .later }
def HeaderRootsCardSaid : Prop := Claim7.holds Tryz.pinned (.plain (OpenSpec.ofChange headerRootsSpec)) headerRootsCard

/-- THE TIED CARD OF 'sextantlaw23.HeaderTxns'. -/
def headerTxnsCard : Claim7 := { stood := { row := headerTxnsRow, standIns := [], harness := (true, "d6a9692c79d8ba879c8baa2fe28e218611c88bd4510964d33b79ff8abe4a1246"), looks := true }, kinds := [], alts := [], laidByText := true, laidKinds := [.data, .widerDeep, .widerDeep], laidTests := true, laidLooks := .later }
def HeaderTxnsCardSaid : Prop := Claim7.holds Tryz.pinned (.plain (OpenSpec.ofChange headerTxnsSpec)) headerTxnsCard

/-- THE TIED CARD OF 'sextantlaw23.HeaderKnown'. -/
def headerKnownCard : Claim7 := { stood := { row := headerKnownRow, standIns := [], harness := (true, "d6a9692c79d8ba879c8baa2fe28e218611c88bd4510964d33b79ff8abe4a1246"), looks := true }, kinds := [], alts := [], laidByText := true, laidKinds := [.data, .widerDeep, .widerDeep], laidTests := true, laidLooks := .later }
def HeaderKnownCardSaid : Prop := Claim7.holds Tryz.pinned (.plain (OpenSpec.ofChange headerKnownSpec)) headerKnownCard

/-- THE TIED CARD OF 'sextantlaw15.PartLists'. -/
def partListsCard : Claim7 := { stood := { row := partListsRow, standIns := [], harness := (true, "d6a9692c79d8ba879c8baa2fe28e218611c88bd4510964d33b79ff8abe4a1246"), looks := true }, kinds := [], alts := [], laidByText := true, laidKinds := [.data, .widerDeep, .widerDeep], laidTests := true, laidLooks := .later }
def PartListsCardSaid : Prop := Claim7.holds Tryz.pinned (.plain (OpenSpec.ofChange partListsSpec)) partListsCard

/-- THE TIED CARD OF 'sextantlaw15.PartKnown'. -/
def partKnownCard : Claim7 := { stood := { row := partKnownRow, standIns := [], harness := (true, "d6a9692c79d8ba879c8baa2fe28e218611c88bd4510964d33b79ff8abe4a1246"), looks := true }, kinds := [], alts := [], laidByText := true, laidKinds := [.data, .widerDeep, .widerDeep], laidTests := true, laidLooks := .later }
def PartKnownCardSaid : Prop := Claim7.holds Tryz.pinned (.plain (OpenSpec.ofChange partKnownSpec)) partKnownCard

/-- THE TIED CARD OF 'sextantlaw23.HeaderChain'. -/
def headerChainCard : Claim7 := { stood := { row := headerChainRow, standIns := [], harness := (true, "d6a9692c79d8ba879c8baa2fe28e218611c88bd4510964d33b79ff8abe4a1246"), looks := true }, kinds := [], alts := [], laidByText := true, laidKinds := [.data, .widerDeep, .widerDeep], laidTests := true, laidLooks := .later }
def HeaderChainCardSaid : Prop := Claim7.holds Tryz.pinned (.plain (OpenSpec.ofChange headerChainSpec)) headerChainCard

/-- THE TIED CARD OF 'sextantlaw23.HeaderBodies'. -/
def headerBodiesCard : Claim7 := { stood := { row := headerBodiesRow, standIns := [], harness := (true, "d6a9692c79d8ba879c8baa2fe28e218611c88bd4510964d33b79ff8abe4a1246"), looks := true }, kinds := [], alts := [], laidByText := true, laidKinds := [.data, .widerDeep, .widerDeep], laidTests := true, laidLooks := .later }
def HeaderBodiesCardSaid : Prop := Claim7.holds Tryz.pinned (.plain (OpenSpec.ofChange headerBodiesSpec)) headerBodiesCard

/-- THE TIED CARD OF 'sextantlaw27.InclusionHeaders'. -/
def inclusionHeadersCard : Claim7 := { stood := { row := inclusionHeadersRow, standIns := [], harness := (true, "d6a9692c79d8ba879c8baa2fe28e218611c88bd4510964d33b79ff8abe4a1246"), looks := true }, kinds := [], alts := [], laidByText := true, laidKinds := [.data, .handle, .widerDeep, .widerDeep, .widerDeep, .widerDeep], laidTests := true, laidLooks := .later }
def InclusionHeadersCardSaid : Prop := Claim7.holds Tryz.pinned (.plain (OpenSpec.ofChange inclusionHeadersSpec)) inclusionHeadersCard

/-- THE TIED CARD OF 'sextantlaw27.InclusionTxns'. -/
def inclusionTxnsCard : Claim7 := { stood := { row := inclusionTxnsRow, standIns := [], harness := (true, "d6a9692c79d8ba879c8baa2fe28e218611c88bd4510964d33b79ff8abe4a1246"), looks := true }, kinds := [], alts := [], laidByText := true, laidKinds := [.data, .handle, .widerDeep, .widerDeep, .widerDeep, .widerDeep], laidTests := true, laidLooks := .later }
def InclusionTxnsCardSaid : Prop := Claim7.holds Tryz.pinned (.plain (OpenSpec.ofChange inclusionTxnsSpec)) inclusionTxnsCard

/-- THE TIED CARD OF 'sextantlaw27.InclusionAll'. -/
def inclusionAllCard : Claim7 := { stood := { row := inclusionAllRow, standIns := [], harness := (true, "d6a9692c79d8ba879c8baa2fe28e218611c88bd4510964d33b79ff8abe4a1246"), looks := true }, kinds := [], alts := [], laidByText := true, laidKinds := [.data, .handle, .widerDeep, .widerDeep, .widerDeep, .widerDeep], laidTests := true, laidLooks := .later }
def InclusionAllCardSaid : Prop := Claim7.holds Tryz.pinned (.plain (OpenSpec.ofChange inclusionAllSpec)) inclusionAllCard

/-- THE TIED CARD OF 'sextantlaw27.InclusionKnown'. -/
def inclusionKnownCard : Claim7 := { stood := { row := inclusionKnownRow, standIns := [], harness := (true, "d6a9692c79d8ba879c8baa2fe28e218611c88bd4510964d33b79ff8abe4a1246"), looks := true }, kinds := [], alts := [], laidByText := true, laidKinds := [.data, .handle, .widerDeep, .widerDeep, .widerDeep, .widerDeep], laidTests := true, laidLooks := .later }
def InclusionKnownCardSaid : Prop := Claim7.holds Tryz.pinned (.plain (OpenSpec.ofChange inclusionKnownSpec)) inclusionKnownCard

/-- THE TIED CARD OF 'sextantlaw15.PartProves'. -/
def partProvesCard : Claim7 := { stood := { row := partProvesRow, standIns := [], harness := (true, "d6a9692c79d8ba879c8baa2fe28e218611c88bd4510964d33b79ff8abe4a1246"), looks := true }, kinds := [], alts := [], laidByText := true, laidKinds := [.data, .handle, .widerDeep, .widerDeep, .widerDeep, .widerDeep], laidTests := true, laidLooks := .later }
def PartProvesCardSaid : Prop := Claim7.holds Tryz.pinned (.plain (OpenSpec.ofChange partProvesSpec)) partProvesCard

/-- THE SECOND FORM's CARD OF 'sextantlaw23.HeaderRoots'. -/
def headerRootsUptoCard : Claim7 := { stood := { row := headerRootsUptoRow, standIns := [], harness := (true, "d6a9692c79d8ba879c8baa2fe28e218611c88bd4510964d33b79ff8abe4a1246"), looks := true }, kinds := [], alts := [], laidByText := true, laidKinds := [.data, .widerDeep, .widerDeep], laidTests := true, laidLooks := .later }
def HeaderRootsUptoCardSaid : Prop := Claim7.holds Tryz.pinned (.plain (OpenSpec.upto headerRootsSpec)) headerRootsUptoCard

/-- THE SECOND FORM's CARD OF 'sextantlaw23.HeaderTxns'. -/
def headerTxnsUptoCard : Claim7 := { stood := { row := headerTxnsUptoRow, standIns := [], harness := (true, "d6a9692c79d8ba879c8baa2fe28e218611c88bd4510964d33b79ff8abe4a1246"), looks := true }, kinds := [], alts := [], laidByText := true, laidKinds := [.data, .widerDeep, .widerDeep], laidTests := true, laidLooks := .later }
def HeaderTxnsUptoCardSaid : Prop := Claim7.holds Tryz.pinned (.plain (OpenSpec.upto headerTxnsSpec)) headerTxnsUptoCard

/-- THE SECOND FORM's CARD OF 'sextantlaw23.HeaderKnown'. -/
def headerKnownUptoCard : Claim7 := { stood := { row := headerKnownUptoRow, standIns := [], harness := (true, "d6a9692c79d8ba879c8baa2fe28e218611c88bd4510964d33b79ff8abe4a1246"), looks := true }, kinds := [], alts := [], laidByText := true, laidKinds := [.data, .widerDeep, .widerDeep], laidTests := true, laidLooks := .later }
def HeaderKnownUptoCardSaid : Prop := Claim7.holds Tryz.pinned (.plain (OpenSpec.upto headerKnownSpec)) headerKnownUptoCard

/-- THE SECOND FORM's CARD OF 'sextantlaw15.PartLists'. -/
def partListsUptoCard : Claim7 := { stood := { row := partListsUptoRow, standIns := [], harness := (true, "d6a9692c79d8ba879c8baa2fe28e218611c88bd4510964d33b79ff8abe4a1246"), looks := true }, kinds := [], alts := [], laidByText := true, laidKinds := [.data, .widerDeep, .widerDeep], laidTests := true, laidLooks := .later }
def PartListsUptoCardSaid : Prop := Claim7.holds Tryz.pinned (.plain (OpenSpec.upto partListsSpec)) partListsUptoCard

/-- THE SECOND FORM's CARD OF 'sextantlaw15.PartKnown'. -/
def partKnownUptoCard : Claim7 := { stood := { row := partKnownUptoRow, standIns := [], harness := (true, "d6a9692c79d8ba879c8baa2fe28e218611c88bd4510964d33b79ff8abe4a1246"), looks := true }, kinds := [], alts := [], laidByText := true, laidKinds := [.data, .widerDeep, .widerDeep], laidTests := true, laidLooks := .later }
def PartKnownUptoCardSaid : Prop := Claim7.holds Tryz.pinned (.plain (OpenSpec.upto partKnownSpec)) partKnownUptoCard

/-- THE SECOND FORM's CARD OF 'sextantlaw23.HeaderChain'. -/
def headerChainUptoCard : Claim7 := { stood := { row := headerChainUptoRow, standIns := [], harness := (true, "d6a9692c79d8ba879c8baa2fe28e218611c88bd4510964d33b79ff8abe4a1246"), looks := true }, kinds := [], alts := [], laidByText := true, laidKinds := [.data, .widerDeep, .widerDeep], laidTests := true, laidLooks := .later }
def HeaderChainUptoCardSaid : Prop := Claim7.holds Tryz.pinned (.plain (OpenSpec.upto headerChainSpec)) headerChainUptoCard

/-- THE SECOND FORM's CARD OF 'sextantlaw23.HeaderBodies'. -/
def headerBodiesUptoCard : Claim7 := { stood := { row := headerBodiesUptoRow, standIns := [], harness := (true, "d6a9692c79d8ba879c8baa2fe28e218611c88bd4510964d33b79ff8abe4a1246"), looks := true }, kinds := [], alts := [], laidByText := true, laidKinds := [.data, .widerDeep, .widerDeep], laidTests := true, laidLooks := .later }
def HeaderBodiesUptoCardSaid : Prop := Claim7.holds Tryz.pinned (.plain (OpenSpec.upto headerBodiesSpec)) headerBodiesUptoCard

/-- THE SECOND FORM's CARD OF 'sextantlaw27.InclusionHeaders'. -/
def inclusionHeadersUptoCard : Claim7 := { stood := { row := inclusionHeadersUptoRow, standIns := [], harness := (true, "d6a9692c79d8ba879c8baa2fe28e218611c88bd4510964d33b79ff8abe4a1246"), looks := true }, kinds := [], alts := [], laidByText := true, laidKinds := [.data, .handle, .widerDeep, .widerDeep, .widerDeep, .widerDeep], laidTests := true, laidLooks := .later }
def InclusionHeadersUptoCardSaid : Prop := Claim7.holds Tryz.pinned (.plain (OpenSpec.upto inclusionHeadersSpec)) inclusionHeadersUptoCard

/-- THE SECOND FORM's CARD OF 'sextantlaw27.InclusionTxns'. -/
def inclusionTxnsUptoCard : Claim7 := { stood := { row := inclusionTxnsUptoRow, standIns := [], harness := (true, "d6a9692c79d8ba879c8baa2fe28e218611c88bd4510964d33b79ff8abe4a1246"), looks := true }, kinds := [], alts := [], laidByText := true, laidKinds := [.data, .handle, .widerDeep, .widerDeep, .widerDeep, .widerDeep], laidTests := true, laidLooks := .later }
def InclusionTxnsUptoCardSaid : Prop := Claim7.holds Tryz.pinned (.plain (OpenSpec.upto inclusionTxnsSpec)) inclusionTxnsUptoCard

/-- THE SECOND FORM's CARD OF 'sextantlaw27.InclusionAll'. -/
def inclusionAllUptoCard : Claim7 := { stood := { row := inclusionAllUptoRow, standIns := [], harness := (true, "d6a9692c79d8ba879c8baa2fe28e218611c88bd4510964d33b79ff8abe4a1246"), looks := true }, kinds := [], alts := [], laidByText := true, laidKinds := [.data, .handle, .widerDeep, .widerDeep, .widerDeep, .widerDeep], laidTests := true, laidLooks := .later }
def InclusionAllUptoCardSaid : Prop := Claim7.holds Tryz.pinned (.plain (OpenSpec.upto inclusionAllSpec)) inclusionAllUptoCard

/-- THE SECOND FORM's CARD OF 'sextantlaw27.InclusionKnown'. -/
def inclusionKnownUptoCard : Claim7 := { stood := { row := inclusionKnownUptoRow, standIns := [], harness := (true, "d6a9692c79d8ba879c8baa2fe28e218611c88bd4510964d33b79ff8abe4a1246"), looks := true }, kinds := [], alts := [], laidByText := true, laidKinds := [.data, .handle, .widerDeep, .widerDeep, .widerDeep, .widerDeep], laidTests := true, laidLooks := .later }
def InclusionKnownUptoCardSaid : Prop := Claim7.holds Tryz.pinned (.plain (OpenSpec.upto inclusionKnownSpec)) inclusionKnownUptoCard

/-- THE SECOND FORM's CARD OF 'sextantlaw15.PartProves'. -/
def partProvesUptoCard : Claim7 := { stood := { row := partProvesUptoRow, standIns := [], harness := (true, "d6a9692c79d8ba879c8baa2fe28e218611c88bd4510964d33b79ff8abe4a1246"), looks := true }, kinds := [], alts := [], laidByText := true, laidKinds := [.data, .handle, .widerDeep, .widerDeep, .widerDeep, .widerDeep], laidTests := true, laidLooks := .later }
def PartProvesUptoCardSaid : Prop := Claim7.holds Tryz.pinned (.plain (OpenSpec.upto partProvesSpec)) partProvesUptoCard
end Rows
end Go.Proofs.YtpobhbdomldecaaGreatDoor
