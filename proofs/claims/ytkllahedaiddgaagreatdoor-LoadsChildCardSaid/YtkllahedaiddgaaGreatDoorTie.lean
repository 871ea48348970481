/-
  DERIVED. GIVEN WITH THE SEED: THE PROGRAM's TIES (one call each: nine closed facts by the kernel) AND EACH ROW's TIE, after the 31st guide's Derived/Test/Toyas{Tie, Card}.lean. No idea stands in it: it is a product of the set-up. Laid BY PROGRAM, IN A SANDBOX (cutbox-door.mjs). By AI agents, Wed Nov 11 2026. No macro, syntax, notation, axiom, sorry.
-/
import Derived.Test.YtkllahedaiddgaaGreatDoorRows
import Derived.LaidByTextLater
import Derived.SevenTiedAt
import Derived.LaidSub
import Derived.LaidOnce
namespace Go.Proofs.YtkllahedaiddgaaGreatDoor
open Go
set_option maxRecDepth 100000
theorem seatTie1 : Tryz.prog.laidByTextLater [("caisson/digests.initial", Rows.laid_caisson_digests_initial), ("caisson/digests.constants", Rows.laid_caisson_digests_constants), ("errors.errorType", Rows.laid_errors_errorType), ("caisson/nodes.sizes", Rows.laid_caisson_nodes_sizes)] [.data, .data, .handle, .data] true :=
  Program.laidByTextLater_by_one 31 8 65 (by kernel_rfl) (by kernel_rfl) (by kernel_rfl) (by kernel_rfl) (by kernel_rfl) (by kernel_rfl) (fun _ _ => by kernel_rfl)
theorem noOwnUnsafe : Tryz.pinned.checked.prog.headLifts.contains "ownunsafe" = false := by kernel_rfl
theorem tie : Tryz.prog.laidByTextLater [("caisson/digests.initial", Rows.laid_caisson_digests_initial), ("caisson/digests.constants", Rows.laid_caisson_digests_constants), ("caisson/nodes.sizes", Rows.laid_caisson_nodes_sizes)] [.data, .data, .data] true :=
  Program.laidByTextLater.sub seatTie1 ["caisson/digests.initial", "caisson/digests.constants", "caisson/nodes.sizes"] (by kernel_rfl) (by kernel_rfl)
theorem commitsPlan_row_tie : Rows.commitsPlanRow.laidByTextAt .later Tryz.pinned [.data, .data, .data] true :=
  OpenClaim.laidByTextAt_later rfl rfl tie noOwnUnsafe
theorem commitsPut_row_tie : Rows.commitsPutRow.laidByTextAt .later Tryz.pinned [.data, .data, .data] true :=
  OpenClaim.laidByTextAt_later rfl rfl tie noOwnUnsafe
theorem commitsErrors_row_tie : Rows.commitsErrorsRow.laidByTextAt .later Tryz.pinned [.data, .data, .data] true :=
  OpenClaim.laidByTextAt_later rfl rfl tie noOwnUnsafe
theorem loadsWritten_row_tie : Rows.loadsWrittenRow.laidByTextAt .later Tryz.pinned [.data, .data, .data] true :=
  OpenClaim.laidByTextAt_later rfl rfl tie noOwnUnsafe
theorem loadsEdited_row_tie : Rows.loadsEditedRow.laidByTextAt .later Tryz.pinned [.data, .data, .data] true :=
  OpenClaim.laidByTextAt_later rfl rfl tie noOwnUnsafe
theorem loadsSafe_row_tie : Rows.loadsSafeRow.laidByTextAt .later Tryz.pinned [.data, .data, .data] true :=
  OpenClaim.laidByTextAt_later rfl rfl tie noOwnUnsafe
theorem loadsChild_row_tie : Rows.loadsChildRow.laidByTextAt .later Tryz.pinned [.data, .data, .data] true :=
  OpenClaim.laidByTextAt_later rfl rfl tie noOwnUnsafe
theorem commitsSafe_row_tie : Rows.commitsSafeRow.laidByTextAt .later Tryz.pinned [.data, .data, .data] true :=
  OpenClaim.laidByTextAt_later rfl rfl tie noOwnUnsafe
theorem commitsApply_row_tie : Rows.commitsApplyRow.laidByTextAt .later Tryz.pinned [.data, .data, .data] true :=
  OpenClaim.laidByTextAt_later rfl rfl tie noOwnUnsafe
theorem tie2 : Tryz.prog.laidByTextLater [("caisson/digests.initial", Rows.laid_caisson_digests_initial), ("caisson/digests.constants", Rows.laid_caisson_digests_constants), ("errors.errorType", Rows.laid_errors_errorType), ("caisson/nodes.sizes", Rows.laid_caisson_nodes_sizes)] [.data, .data, .handle, .data] true :=
  Program.laidByTextLater.sub seatTie1 ["caisson/digests.initial", "caisson/digests.constants", "errors.errorType", "caisson/nodes.sizes"] (by kernel_rfl) (by kernel_rfl)
theorem recoversCrafted_row_tie : Rows.recoversCraftedRow.laidByTextAt .later Tryz.pinned [.data, .data, .handle, .data] true :=
  OpenClaim.laidByTextAt_later rfl rfl tie2 noOwnUnsafe
theorem recoversWritten_row_tie : Rows.recoversWrittenRow.laidByTextAt .later Tryz.pinned [.data, .data, .handle, .data] true :=
  OpenClaim.laidByTextAt_later rfl rfl tie2 noOwnUnsafe
theorem recoversEdited_row_tie : Rows.recoversEditedRow.laidByTextAt .later Tryz.pinned [.data, .data, .handle, .data] true :=
  OpenClaim.laidByTextAt_later rfl rfl tie2 noOwnUnsafe
theorem commitsPlanUpto_row_tie : Rows.commitsPlanUptoRow.laidByTextAt .later Tryz.pinned [.data, .data, .data] true :=
  OpenClaim.laidByTextAt_later rfl rfl tie noOwnUnsafe
theorem commitsPutUpto_row_tie : Rows.commitsPutUptoRow.laidByTextAt .later Tryz.pinned [.data, .data, .data] true :=
  OpenClaim.laidByTextAt_later rfl rfl tie noOwnUnsafe
theorem commitsErrorsUpto_row_tie : Rows.commitsErrorsUptoRow.laidByTextAt .later Tryz.pinned [.data, .data, .data] true :=
  OpenClaim.laidByTextAt_later rfl rfl tie noOwnUnsafe
theorem loadsWrittenUpto_row_tie : Rows.loadsWrittenUptoRow.laidByTextAt .later Tryz.pinned [.data, .data, .data] true :=
  OpenClaim.laidByTextAt_later rfl rfl tie noOwnUnsafe
theorem loadsEditedUpto_row_tie : Rows.loadsEditedUptoRow.laidByTextAt .later Tryz.pinned [.data, .data, .data] true :=
  OpenClaim.laidByTextAt_later rfl rfl tie noOwnUnsafe
theorem loadsSafeUpto_row_tie : Rows.loadsSafeUptoRow.laidByTextAt .later Tryz.pinned [.data, .data, .data] true :=
  OpenClaim.laidByTextAt_later rfl rfl tie noOwnUnsafe
theorem loadsChildUpto_row_tie : Rows.loadsChildUptoRow.laidByTextAt .later Tryz.pinned [.data, .data, .data] true :=
  OpenClaim.laidByTextAt_later rfl rfl tie noOwnUnsafe
theorem commitsSafeUpto_row_tie : Rows.commitsSafeUptoRow.laidByTextAt .later Tryz.pinned [.data, .data, .data] true :=
  OpenClaim.laidByTextAt_later rfl rfl tie noOwnUnsafe
theorem recoversCraftedUpto_row_tie : Rows.recoversCraftedUptoRow.laidByTextAt .later Tryz.pinned [.data, .data, .handle, .data] true :=
  OpenClaim.laidByTextAt_later rfl rfl tie2 noOwnUnsafe
theorem commitsApplyUpto_row_tie : Rows.commitsApplyUptoRow.laidByTextAt .later Tryz.pinned [.data, .data, .data] true :=
  OpenClaim.laidByTextAt_later rfl rfl tie noOwnUnsafe
theorem recoversWrittenUpto_row_tie : Rows.recoversWrittenUptoRow.laidByTextAt .later Tryz.pinned [.data, .data, .handle, .data] true :=
  OpenClaim.laidByTextAt_later rfl rfl tie2 noOwnUnsafe
theorem recoversEditedUpto_row_tie : Rows.recoversEditedUptoRow.laidByTextAt .later Tryz.pinned [.data, .data, .handle, .data] true :=
  OpenClaim.laidByTextAt_later rfl rfl tie2 noOwnUnsafe
end Go.Proofs.YtkllahedaiddgaaGreatDoor
