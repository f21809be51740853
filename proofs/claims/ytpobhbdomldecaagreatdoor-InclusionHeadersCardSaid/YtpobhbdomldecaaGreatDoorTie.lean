/-
  DERIVED. GIVEN WITH THE SEED: THE PROGRAM's TIES (one call each: nine closed facts by the kernel) AND EACH ROW's TIE, after the 31st guide's Derived/Test/Toyas{Tie, Card}.lean. No idea stands in it: it is a product of the set-up. Laid BY PROGRAM, IN A SANDBOX (cutbox-door.mjs). By AI agents, Wed Nov 11 2026. No macro, syntax, notation, axiom, sorry.
-/
import Derived.Test.YtpobhbdomldecaaGreatDoorRows
import Derived.LaidByTextLater
import Derived.SevenTiedAt
import Derived.LaidSub
import Derived.LaidOnce
namespace Go.Proofs.YtpobhbdomldecaaGreatDoor
open Go
set_option maxRecDepth 100000
theorem seatTie1 : Tryz.prog.laidByTextLater [("sextant/pack.rows", Rows.laid_sextant_pack_rows), ("errors.errorType", Rows.laid_errors_errorType), ("sextant/unpack.nums", Rows.laid_sextant_unpack_nums), ("sextant/unpack.bins", Rows.laid_sextant_unpack_bins), ("sextant/unpack.strs", Rows.laid_sextant_unpack_strs), ("sextant/unpack.pairs", Rows.laid_sextant_unpack_pairs)] [.data, .handle, .widerDeep, .widerDeep, .widerDeep, .widerDeep] true :=
  Program.laidByTextLater_by_one 72 8 21 (by kernel_rfl) (by kernel_rfl) (by kernel_rfl) (by kernel_rfl) (by kernel_rfl) (by kernel_rfl) (fun _ _ => by kernel_rfl)
theorem noOwnUnsafe : Tryz.pinned.checked.prog.headLifts.contains "ownunsafe" = false := by kernel_rfl
theorem tie : Tryz.prog.laidByTextLater [("sextant/pack.rows", Rows.laid_sextant_pack_rows), ("sextant/unpack.nums", Rows.laid_sextant_unpack_nums), ("sextant/unpack.bins", Rows.laid_sextant_unpack_bins)] [.data, .widerDeep, .widerDeep] true :=
  Program.laidByTextLater.sub seatTie1 ["sextant/pack.rows", "sextant/unpack.nums", "sextant/unpack.bins"] (by kernel_rfl) (by kernel_rfl)
theorem headerRoots_row_tie : Rows.headerRootsRow.laidByTextAt .later Tryz.pinned [.data, .widerDeep, .widerDeep] true :=
  OpenClaim.laidByTextAt_later rfl rfl tie noOwnUnsafe
theorem headerTxns_row_tie : Rows.headerTxnsRow.laidByTextAt .later Tryz.pinned [.data, .widerDeep, .widerDeep] true :=
  OpenClaim.laidByTextAt_later rfl rfl tie noOwnUnsafe
theorem headerKnown_row_tie : Rows.headerKnownRow.laidByTextAt .later Tryz.pinned [.data, .widerDeep, .widerDeep] true :=
  OpenClaim.laidByTextAt_later rfl rfl tie noOwnUnsafe
theorem partLists_row_tie : Rows.partListsRow.laidByTextAt .later Tryz.pinned [.data, .widerDeep, .widerDeep] true :=
  OpenClaim.laidByTextAt_later rfl rfl tie noOwnUnsafe
theorem partKnown_row_tie : Rows.partKnownRow.laidByTextAt .later Tryz.pinned [.data, .widerDeep, .widerDeep] true :=
  OpenClaim.laidByTextAt_later rfl rfl tie noOwnUnsafe
theorem headerChain_row_tie : Rows.headerChainRow.laidByTextAt .later Tryz.pinned [.data, .widerDeep, .widerDeep] true :=
  OpenClaim.laidByTextAt_later rfl rfl tie noOwnUnsafe
theorem headerBodies_row_tie : Rows.headerBodiesRow.laidByTextAt .later Tryz.pinned [.data, .widerDeep, .widerDeep] true :=
  OpenClaim.laidByTextAt_later rfl rfl tie noOwnUnsafe
theorem tie2 : Tryz.prog.laidByTextLater [("sextant/pack.rows", Rows.laid_sextant_pack_rows), ("errors.errorType", Rows.laid_errors_errorType), ("sextant/unpack.nums", Rows.laid_sextant_unpack_nums), ("sextant/unpack.bins", Rows.laid_sextant_unpack_bins), ("sextant/unpack.strs", Rows.laid_sextant_unpack_strs), ("sextant/unpack.pairs", Rows.laid_sextant_unpack_pairs)] [.data, .handle, .widerDeep, .widerDeep, .widerDeep, .widerDeep] true :=
  Program.laidByTextLater.sub seatTie1 ["sextant/pack.rows", "errors.errorType", "sextant/unpack.nums", "sextant/unpack.bins", "sextant/unpack.strs", "sextant/unpack.pairs"] (by kernel_rfl) (by kernel_rfl)
theorem inclusionHeaders_row_tie : Rows.inclusionHeadersRow.laidByTextAt .later Tryz.pinned [.data, .handle, .widerDeep, .widerDeep, .widerDeep, .widerDeep] true :=
  OpenClaim.laidByTextAt_later rfl rfl tie2 noOwnUnsafe
theorem inclusionTxns_row_tie : Rows.inclusionTxnsRow.laidByTextAt .later Tryz.pinned [.data, .handle, .widerDeep, .widerDeep, .widerDeep, .widerDeep] true :=
  OpenClaim.laidByTextAt_later rfl rfl tie2 noOwnUnsafe
theorem inclusionAll_row_tie : Rows.inclusionAllRow.laidByTextAt .later Tryz.pinned [.data, .handle, .widerDeep, .widerDeep, .widerDeep, .widerDeep] true :=
  OpenClaim.laidByTextAt_later rfl rfl tie2 noOwnUnsafe
theorem inclusionKnown_row_tie : Rows.inclusionKnownRow.laidByTextAt .later Tryz.pinned [.data, .handle, .widerDeep, .widerDeep, .widerDeep, .widerDeep] true :=
  OpenClaim.laidByTextAt_later rfl rfl tie2 noOwnUnsafe
theorem partProves_row_tie : Rows.partProvesRow.laidByTextAt .later Tryz.pinned [.data, .handle, .widerDeep, .widerDeep, .widerDeep, .widerDeep] true :=
  OpenClaim.laidByTextAt_later rfl rfl tie2 noOwnUnsafe
theorem headerRootsUpto_row_tie : Rows.headerRootsUptoRow.laidByTextAt .later Tryz.pinned [.data, .widerDeep, .widerDeep] true :=
  OpenClaim.laidByTextAt_later rfl rfl tie noOwnUnsafe
theorem headerTxnsUpto_row_tie : Rows.headerTxnsUptoRow.laidByTextAt .later Tryz.pinned [.data, .widerDeep, .widerDeep] true :=
  OpenClaim.laidByTextAt_later rfl rfl tie noOwnUnsafe
theorem headerKnownUpto_row_tie : Rows.headerKnownUptoRow.laidByTextAt .later Tryz.pinned [.data, .widerDeep, .widerDeep] true :=
  OpenClaim.laidByTextAt_later rfl rfl tie noOwnUnsafe
theorem partListsUpto_row_tie : Rows.partListsUptoRow.laidByTextAt .later Tryz.pinned [.data, .widerDeep, .widerDeep] true :=
  OpenClaim.laidByTextAt_later rfl rfl tie noOwnUnsafe
theorem partKnownUpto_row_tie : Rows.partKnownUptoRow.laidByTextAt .later Tryz.pinned [.data, .widerDeep, .widerDeep] true :=
  OpenClaim.laidByTextAt_later rfl rfl tie noOwnUnsafe
theorem headerChainUpto_row_tie : Rows.headerChainUptoRow.laidByTextAt .later Tryz.pinned [.data, .widerDeep, .widerDeep] true :=
  OpenClaim.laidByTextAt_later rfl rfl tie noOwnUnsafe
theorem headerBodiesUpto_row_tie : Rows.headerBodiesUptoRow.laidByTextAt .later Tryz.pinned [.data, .widerDeep, .widerDeep] true :=
  OpenClaim.laidByTextAt_later rfl rfl tie noOwnUnsafe
theorem inclusionHeadersUpto_row_tie : Rows.inclusionHeadersUptoRow.laidByTextAt .later Tryz.pinned [.data, .handle, .widerDeep, .widerDeep, .widerDeep, .widerDeep] true :=
  OpenClaim.laidByTextAt_later rfl rfl tie2 noOwnUnsafe
theorem inclusionTxnsUpto_row_tie : Rows.inclusionTxnsUptoRow.laidByTextAt .later Tryz.pinned [.data, .handle, .widerDeep, .widerDeep, .widerDeep, .widerDeep] true :=
  OpenClaim.laidByTextAt_later rfl rfl tie2 noOwnUnsafe
theorem inclusionAllUpto_row_tie : Rows.inclusionAllUptoRow.laidByTextAt .later Tryz.pinned [.data, .handle, .widerDeep, .widerDeep, .widerDeep, .widerDeep] true :=
  OpenClaim.laidByTextAt_later rfl rfl tie2 noOwnUnsafe
theorem inclusionKnownUpto_row_tie : Rows.inclusionKnownUptoRow.laidByTextAt .later Tryz.pinned [.data, .handle, .widerDeep, .widerDeep, .widerDeep, .widerDeep] true :=
  OpenClaim.laidByTextAt_later rfl rfl tie2 noOwnUnsafe
theorem partProvesUpto_row_tie : Rows.partProvesUptoRow.laidByTextAt .later Tryz.pinned [.data, .handle, .widerDeep, .widerDeep, .widerDeep, .widerDeep] true :=
  OpenClaim.laidByTextAt_later rfl rfl tie2 noOwnUnsafe
end Go.Proofs.YtpobhbdomldecaaGreatDoor
