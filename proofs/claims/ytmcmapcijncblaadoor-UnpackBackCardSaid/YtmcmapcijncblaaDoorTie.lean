/-
  DERIVED. GIVEN WITH THE SEED: THE PROGRAM's TIES (one call each: nine closed facts by the kernel) AND EACH ROW's TIE, after the 31st guide's Derived/Test/Toyas{Tie, Card}.lean. No idea stands in it: it is a product of the set-up. Laid BY PROGRAM, IN A SANDBOX (cutbox-door.mjs). By AI agents, Wed Nov 11 2026. No macro, syntax, notation, axiom, sorry.
-/
import Derived.Test.YtmcmapcijncblaaDoorRows
import Derived.LaidByTextLater
import Derived.SevenTiedAt
import Derived.LaidSub
import Derived.LaidOnce
namespace Go.Proofs.YtmcmapcijncblaaDoor
open Go
set_option maxRecDepth 100000
theorem seatTie1 : Tryd.prog.laidByTextLater [("errors.errorType", Rows.laid_errors_errorType), ("sextant/unpack.nums", Rows.laid_sextant_unpack_nums), ("sextant/unpack.bins", Rows.laid_sextant_unpack_bins), ("sextant/unpack.strs", Rows.laid_sextant_unpack_strs), ("sextant/unpack.lists", Rows.laid_sextant_unpack_lists), ("sextant/unpack.pairs", Rows.laid_sextant_unpack_pairs)] [.handle, .widerDeep, .widerDeep, .widerDeep, .widerDeep, .widerDeep] true :=
  Program.laidByTextLater_by_one 55 8 21 (by kernel_rfl) (by kernel_rfl) (by kernel_rfl) (by kernel_rfl) (by kernel_rfl) (by kernel_rfl) (fun _ _ => by kernel_rfl)
theorem noOwnUnsafe : Tryd.pinned.checked.prog.headLifts.contains "ownunsafe" = false := by kernel_rfl
theorem tie : Tryd.prog.laidByTextLater [("errors.errorType", Rows.laid_errors_errorType), ("sextant/unpack.nums", Rows.laid_sextant_unpack_nums), ("sextant/unpack.bins", Rows.laid_sextant_unpack_bins), ("sextant/unpack.strs", Rows.laid_sextant_unpack_strs), ("sextant/unpack.lists", Rows.laid_sextant_unpack_lists), ("sextant/unpack.pairs", Rows.laid_sextant_unpack_pairs)] [.handle, .widerDeep, .widerDeep, .widerDeep, .widerDeep, .widerDeep] true :=
  Program.laidByTextLater.sub seatTie1 ["errors.errorType", "sextant/unpack.nums", "sextant/unpack.bins", "sextant/unpack.strs", "sextant/unpack.lists", "sextant/unpack.pairs"] (by kernel_rfl) (by kernel_rfl)
theorem unpackReads_row_tie : Rows.unpackReadsRow.laidByTextAt .later Tryd.pinned [.handle, .widerDeep, .widerDeep, .widerDeep, .widerDeep, .widerDeep] true :=
  OpenClaim.laidByTextAt_later rfl rfl tie noOwnUnsafe
theorem unpackBack_row_tie : Rows.unpackBackRow.laidByTextAt .later Tryd.pinned [.handle, .widerDeep, .widerDeep, .widerDeep, .widerDeep, .widerDeep] true :=
  OpenClaim.laidByTextAt_later rfl rfl tie noOwnUnsafe
theorem unpackOne_row_tie : Rows.unpackOneRow.laidByTextAt .later Tryd.pinned [.handle, .widerDeep, .widerDeep, .widerDeep, .widerDeep, .widerDeep] true :=
  OpenClaim.laidByTextAt_later rfl rfl tie noOwnUnsafe
theorem unpackKnown_row_tie : Rows.unpackKnownRow.laidByTextAt .later Tryd.pinned [.handle, .widerDeep, .widerDeep, .widerDeep, .widerDeep, .widerDeep] true :=
  OpenClaim.laidByTextAt_later rfl rfl tie noOwnUnsafe
theorem unpackReadsUpto_row_tie : Rows.unpackReadsUptoRow.laidByTextAt .later Tryd.pinned [.handle, .widerDeep, .widerDeep, .widerDeep, .widerDeep, .widerDeep] true :=
  OpenClaim.laidByTextAt_later rfl rfl tie noOwnUnsafe
theorem unpackBackUpto_row_tie : Rows.unpackBackUptoRow.laidByTextAt .later Tryd.pinned [.handle, .widerDeep, .widerDeep, .widerDeep, .widerDeep, .widerDeep] true :=
  OpenClaim.laidByTextAt_later rfl rfl tie noOwnUnsafe
theorem unpackOneUpto_row_tie : Rows.unpackOneUptoRow.laidByTextAt .later Tryd.pinned [.handle, .widerDeep, .widerDeep, .widerDeep, .widerDeep, .widerDeep] true :=
  OpenClaim.laidByTextAt_later rfl rfl tie noOwnUnsafe
theorem unpackKnownUpto_row_tie : Rows.unpackKnownUptoRow.laidByTextAt .later Tryd.pinned [.handle, .widerDeep, .widerDeep, .widerDeep, .widerDeep, .widerDeep] true :=
  OpenClaim.laidByTextAt_later rfl rfl tie noOwnUnsafe
end Go.Proofs.YtmcmapcijncblaaDoor
