/-
  DERIVED. GIVEN WITH THE SEED: THE PROGRAM's TIES (one call each: nine closed facts by the kernel) AND EACH ROW's TIE, after the 31st guide's Derived/Test/Toyas{Tie, Card}.lean. No idea stands in it: it is a product of the set-up. Laid BY PROGRAM, IN A SANDBOX (cutbox-door.mjs). By AI agents, Wed Nov 11 2026. No macro, syntax, notation, axiom, sorry.
-/
import Derived.Test.YtihiaopilnjonaaGreatDoorRows
import Derived.LaidByTextLater
import Derived.SevenTiedAt
import Derived.LaidSub
import Derived.LaidOnce
namespace Go.Proofs.YtihiaopilnjonaaGreatDoor
open Go
set_option maxRecDepth 100000
theorem seatTie1 : Tryz.prog.laidByTextLater [("sextant/pack.rows", Rows.laid_sextant_pack_rows), ("errors.errorType", Rows.laid_errors_errorType), ("sextant/unpack.nums", Rows.laid_sextant_unpack_nums), ("sextant/unpack.bins", Rows.laid_sextant_unpack_bins), ("sextant/unpack.strs", Rows.laid_sextant_unpack_strs), ("sextant/unpack.lists", Rows.laid_sextant_unpack_lists), ("sextant/unpack.pairs", Rows.laid_sextant_unpack_pairs)] [.data, .handle, .widerDeep, .widerDeep, .widerDeep, .widerDeep, .widerDeep] true :=
  Program.laidByTextLater_by_one 79 8 21 (by kernel_rfl) (by kernel_rfl) (by kernel_rfl) (by kernel_rfl) (by kernel_rfl) (by kernel_rfl) (fun _ _ => by kernel_rfl)
theorem noOwnUnsafe : Tryz.pinned.checked.prog.headLifts.contains "ownunsafe" = false := by kernel_rfl
theorem tie : Tryz.prog.laidByTextLater [("sextant/pack.rows", Rows.laid_sextant_pack_rows), ("sextant/unpack.nums", Rows.laid_sextant_unpack_nums), ("sextant/unpack.bins", Rows.laid_sextant_unpack_bins), ("sextant/unpack.strs", Rows.laid_sextant_unpack_strs), ("sextant/unpack.lists", Rows.laid_sextant_unpack_lists), ("sextant/unpack.pairs", Rows.laid_sextant_unpack_pairs)] [.data, .widerDeep, .widerDeep, .widerDeep, .widerDeep, .widerDeep] true :=
  Program.laidByTextLater.sub seatTie1 ["sextant/pack.rows", "sextant/unpack.nums", "sextant/unpack.bins", "sextant/unpack.strs", "sextant/unpack.lists", "sextant/unpack.pairs"] (by kernel_rfl) (by kernel_rfl)
theorem certShows_row_tie : Rows.certShowsRow.laidByTextAt .later Tryz.pinned [.data, .widerDeep, .widerDeep, .widerDeep, .widerDeep, .widerDeep] true :=
  OpenClaim.laidByTextAt_later rfl rfl tie noOwnUnsafe
theorem certKnown_row_tie : Rows.certKnownRow.laidByTextAt .later Tryz.pinned [.data, .widerDeep, .widerDeep, .widerDeep, .widerDeep, .widerDeep] true :=
  OpenClaim.laidByTextAt_later rfl rfl tie noOwnUnsafe
theorem tie2 : Tryz.prog.laidByTextLater [("sextant/pack.rows", Rows.laid_sextant_pack_rows), ("errors.errorType", Rows.laid_errors_errorType), ("sextant/unpack.nums", Rows.laid_sextant_unpack_nums), ("sextant/unpack.bins", Rows.laid_sextant_unpack_bins), ("sextant/unpack.strs", Rows.laid_sextant_unpack_strs), ("sextant/unpack.lists", Rows.laid_sextant_unpack_lists), ("sextant/unpack.pairs", Rows.laid_sextant_unpack_pairs)] [.data, .handle, .widerDeep, .widerDeep, .widerDeep, .widerDeep, .widerDeep] true :=
  Program.laidByTextLater.sub seatTie1 ["sextant/pack.rows", "errors.errorType", "sextant/unpack.nums", "sextant/unpack.bins", "sextant/unpack.strs", "sextant/unpack.lists", "sextant/unpack.pairs"] (by kernel_rfl) (by kernel_rfl)
theorem wireParts_row_tie : Rows.wirePartsRow.laidByTextAt .later Tryz.pinned [.data, .handle, .widerDeep, .widerDeep, .widerDeep, .widerDeep, .widerDeep] true :=
  OpenClaim.laidByTextAt_later rfl rfl tie2 noOwnUnsafe
theorem wireSlots_row_tie : Rows.wireSlotsRow.laidByTextAt .later Tryz.pinned [.data, .handle, .widerDeep, .widerDeep, .widerDeep, .widerDeep, .widerDeep] true :=
  OpenClaim.laidByTextAt_later rfl rfl tie2 noOwnUnsafe
theorem wireMsgs_row_tie : Rows.wireMsgsRow.laidByTextAt .later Tryz.pinned [.data, .handle, .widerDeep, .widerDeep, .widerDeep, .widerDeep, .widerDeep] true :=
  OpenClaim.laidByTextAt_later rfl rfl tie2 noOwnUnsafe
theorem wireAgain_row_tie : Rows.wireAgainRow.laidByTextAt .later Tryz.pinned [.data, .handle, .widerDeep, .widerDeep, .widerDeep, .widerDeep, .widerDeep] true :=
  OpenClaim.laidByTextAt_later rfl rfl tie2 noOwnUnsafe
theorem wireCerts_row_tie : Rows.wireCertsRow.laidByTextAt .later Tryz.pinned [.data, .handle, .widerDeep, .widerDeep, .widerDeep, .widerDeep, .widerDeep] true :=
  OpenClaim.laidByTextAt_later rfl rfl tie2 noOwnUnsafe
theorem wireBack_row_tie : Rows.wireBackRow.laidByTextAt .later Tryz.pinned [.data, .handle, .widerDeep, .widerDeep, .widerDeep, .widerDeep, .widerDeep] true :=
  OpenClaim.laidByTextAt_later rfl rfl tie2 noOwnUnsafe
theorem wireCuts_row_tie : Rows.wireCutsRow.laidByTextAt .later Tryz.pinned [.data, .handle, .widerDeep, .widerDeep, .widerDeep, .widerDeep, .widerDeep] true :=
  OpenClaim.laidByTextAt_later rfl rfl tie2 noOwnUnsafe
theorem wireKnown_row_tie : Rows.wireKnownRow.laidByTextAt .later Tryz.pinned [.data, .handle, .widerDeep, .widerDeep, .widerDeep, .widerDeep, .widerDeep] true :=
  OpenClaim.laidByTextAt_later rfl rfl tie2 noOwnUnsafe
theorem certShowsUpto_row_tie : Rows.certShowsUptoRow.laidByTextAt .later Tryz.pinned [.data, .widerDeep, .widerDeep, .widerDeep, .widerDeep, .widerDeep] true :=
  OpenClaim.laidByTextAt_later rfl rfl tie noOwnUnsafe
theorem certKnownUpto_row_tie : Rows.certKnownUptoRow.laidByTextAt .later Tryz.pinned [.data, .widerDeep, .widerDeep, .widerDeep, .widerDeep, .widerDeep] true :=
  OpenClaim.laidByTextAt_later rfl rfl tie noOwnUnsafe
theorem wirePartsUpto_row_tie : Rows.wirePartsUptoRow.laidByTextAt .later Tryz.pinned [.data, .handle, .widerDeep, .widerDeep, .widerDeep, .widerDeep, .widerDeep] true :=
  OpenClaim.laidByTextAt_later rfl rfl tie2 noOwnUnsafe
theorem wireSlotsUpto_row_tie : Rows.wireSlotsUptoRow.laidByTextAt .later Tryz.pinned [.data, .handle, .widerDeep, .widerDeep, .widerDeep, .widerDeep, .widerDeep] true :=
  OpenClaim.laidByTextAt_later rfl rfl tie2 noOwnUnsafe
theorem wireMsgsUpto_row_tie : Rows.wireMsgsUptoRow.laidByTextAt .later Tryz.pinned [.data, .handle, .widerDeep, .widerDeep, .widerDeep, .widerDeep, .widerDeep] true :=
  OpenClaim.laidByTextAt_later rfl rfl tie2 noOwnUnsafe
theorem wireAgainUpto_row_tie : Rows.wireAgainUptoRow.laidByTextAt .later Tryz.pinned [.data, .handle, .widerDeep, .widerDeep, .widerDeep, .widerDeep, .widerDeep] true :=
  OpenClaim.laidByTextAt_later rfl rfl tie2 noOwnUnsafe
theorem wireCertsUpto_row_tie : Rows.wireCertsUptoRow.laidByTextAt .later Tryz.pinned [.data, .handle, .widerDeep, .widerDeep, .widerDeep, .widerDeep, .widerDeep] true :=
  OpenClaim.laidByTextAt_later rfl rfl tie2 noOwnUnsafe
theorem wireBackUpto_row_tie : Rows.wireBackUptoRow.laidByTextAt .later Tryz.pinned [.data, .handle, .widerDeep, .widerDeep, .widerDeep, .widerDeep, .widerDeep] true :=
  OpenClaim.laidByTextAt_later rfl rfl tie2 noOwnUnsafe
theorem wireCutsUpto_row_tie : Rows.wireCutsUptoRow.laidByTextAt .later Tryz.pinned [.data, .handle, .widerDeep, .widerDeep, .widerDeep, .widerDeep, .widerDeep] true :=
  OpenClaim.laidByTextAt_later rfl rfl tie2 noOwnUnsafe
theorem wireKnownUpto_row_tie : Rows.wireKnownUptoRow.laidByTextAt .later Tryz.pinned [.data, .handle, .widerDeep, .widerDeep, .widerDeep, .widerDeep, .widerDeep] true :=
  OpenClaim.laidByTextAt_later rfl rfl tie2 noOwnUnsafe
end Go.Proofs.YtihiaopilnjonaaGreatDoor
