/-
  DERIVED. GIVEN WITH THE SEED: THE PROGRAM's TIES (one call each: nine closed facts by the kernel) AND EACH ROW's TIE, after the 31st guide's Derived/Test/Toyas{Tie, Card}.lean. No idea stands in it: it is a product of the set-up. Laid BY PROGRAM, IN A SANDBOX (cutbox-door.mjs). By AI agents, Wed Nov 11 2026. No macro, syntax, notation, axiom, sorry.
-/
import Derived.Test.YtfpmealbbibhpaaGreatDoorRows
import Derived.LaidByTextLater
import Derived.SevenTiedAt
import Derived.LaidSub
import Derived.LaidOnce
namespace Go.Proofs.YtfpmealbbibhpaaGreatDoor
open Go
set_option maxRecDepth 100000
theorem seatTie1 : Tryz.prog.laidByTextLater [("caisson/digests.initial", Rows.laid_caisson_digests_initial), ("caisson/digests.constants", Rows.laid_caisson_digests_constants), ("errors.errorType", Rows.laid_errors_errorType), ("caisson/nodes.sizes", Rows.laid_caisson_nodes_sizes), ("caisson/stores.errPoison", Rows.laid_caisson_stores_errPoison)] [.data, .data, .handle, .data, .sentinel] true :=
  Program.laidByTextLater_by_one 50 8 65 (by kernel_rfl) (by kernel_rfl) (by kernel_rfl) (by kernel_rfl) (by kernel_rfl) (by kernel_rfl) (fun _ _ => by kernel_rfl)
theorem noOwnUnsafe : Tryz.pinned.checked.prog.headLifts.contains "ownunsafe" = false := by kernel_rfl
theorem tie : Tryz.prog.laidByTextLater [("caisson/digests.initial", Rows.laid_caisson_digests_initial), ("caisson/digests.constants", Rows.laid_caisson_digests_constants), ("caisson/nodes.sizes", Rows.laid_caisson_nodes_sizes)] [.data, .data, .data] true :=
  Program.laidByTextLater.sub seatTie1 ["caisson/digests.initial", "caisson/digests.constants", "caisson/nodes.sizes"] (by kernel_rfl) (by kernel_rfl)
theorem commitsKnown_row_tie : Rows.commitsKnownRow.laidByTextAt .later Tryz.pinned [.data, .data, .data] true :=
  OpenClaim.laidByTextAt_later rfl rfl tie noOwnUnsafe
theorem tie2 : Tryz.prog.laidByTextLater [("caisson/digests.initial", Rows.laid_caisson_digests_initial), ("caisson/digests.constants", Rows.laid_caisson_digests_constants), ("errors.errorType", Rows.laid_errors_errorType), ("caisson/nodes.sizes", Rows.laid_caisson_nodes_sizes)] [.data, .data, .handle, .data] true :=
  Program.laidByTextLater.sub seatTie1 ["caisson/digests.initial", "caisson/digests.constants", "errors.errorType", "caisson/nodes.sizes"] (by kernel_rfl) (by kernel_rfl)
theorem recoversFresh_row_tie : Rows.recoversFreshRow.laidByTextAt .later Tryz.pinned [.data, .data, .handle, .data] true :=
  OpenClaim.laidByTextAt_later rfl rfl tie2 noOwnUnsafe
theorem recoversKnown_row_tie : Rows.recoversKnownRow.laidByTextAt .later Tryz.pinned [.data, .data, .handle, .data] true :=
  OpenClaim.laidByTextAt_later rfl rfl tie2 noOwnUnsafe
theorem recoversErrors_row_tie : Rows.recoversErrorsRow.laidByTextAt .later Tryz.pinned [.data, .data, .handle, .data] true :=
  OpenClaim.laidByTextAt_later rfl rfl tie2 noOwnUnsafe
theorem tie3 : Tryz.prog.laidByTextLater [("caisson/digests.initial", Rows.laid_caisson_digests_initial), ("caisson/digests.constants", Rows.laid_caisson_digests_constants), ("errors.errorType", Rows.laid_errors_errorType), ("caisson/nodes.sizes", Rows.laid_caisson_nodes_sizes), ("caisson/stores.errPoison", Rows.laid_caisson_stores_errPoison)] [.data, .data, .handle, .data, .sentinel] true :=
  Program.laidByTextLater.sub seatTie1 ["caisson/digests.initial", "caisson/digests.constants", "errors.errorType", "caisson/nodes.sizes", "caisson/stores.errPoison"] (by kernel_rfl) (by kernel_rfl)
theorem storesKnown_row_tie : Rows.storesKnownRow.laidByTextAt .later Tryz.pinned [.data, .data, .handle, .data, .sentinel] true :=
  OpenClaim.laidByTextAt_later rfl rfl tie3 noOwnUnsafe
theorem storesOpen_row_tie : Rows.storesOpenRow.laidByTextAt .later Tryz.pinned [.data, .data, .handle, .data, .sentinel] true :=
  OpenClaim.laidByTextAt_later rfl rfl tie3 noOwnUnsafe
theorem commitsKnownUpto_row_tie : Rows.commitsKnownUptoRow.laidByTextAt .later Tryz.pinned [.data, .data, .data] true :=
  OpenClaim.laidByTextAt_later rfl rfl tie noOwnUnsafe
theorem recoversFreshUpto_row_tie : Rows.recoversFreshUptoRow.laidByTextAt .later Tryz.pinned [.data, .data, .handle, .data] true :=
  OpenClaim.laidByTextAt_later rfl rfl tie2 noOwnUnsafe
theorem recoversKnownUpto_row_tie : Rows.recoversKnownUptoRow.laidByTextAt .later Tryz.pinned [.data, .data, .handle, .data] true :=
  OpenClaim.laidByTextAt_later rfl rfl tie2 noOwnUnsafe
theorem recoversErrorsUpto_row_tie : Rows.recoversErrorsUptoRow.laidByTextAt .later Tryz.pinned [.data, .data, .handle, .data] true :=
  OpenClaim.laidByTextAt_later rfl rfl tie2 noOwnUnsafe
theorem storesKnownUpto_row_tie : Rows.storesKnownUptoRow.laidByTextAt .later Tryz.pinned [.data, .data, .handle, .data, .sentinel] true :=
  OpenClaim.laidByTextAt_later rfl rfl tie3 noOwnUnsafe
theorem storesOpenUpto_row_tie : Rows.storesOpenUptoRow.laidByTextAt .later Tryz.pinned [.data, .data, .handle, .data, .sentinel] true :=
  OpenClaim.laidByTextAt_later rfl rfl tie3 noOwnUnsafe
end Go.Proofs.YtfpmealbbibhpaaGreatDoor
