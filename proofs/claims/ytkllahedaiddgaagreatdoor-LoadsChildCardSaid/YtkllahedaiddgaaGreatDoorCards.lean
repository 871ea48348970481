/-
  DERIVED. GIVEN WITH THE SEED: THE CARDS: each row of YtkllahedaiddgaaGreatDoorRows.lean that lists a variable, with what it lists TIED to the program's text (the seventh form; the later family's looks); each row that meets fmt, with fmt's text TOLD by the authors' own Lean function (tested against real Go, not proved from fmt's source: count such statements apart). THE CARD IS WHAT COUNTS. Prove the row's statement (the work); the ties are given (YtkllahedaiddgaaGreatDoorTie.lean); close each card by the builder's one call (the guide's Derived/Test/ToyasCard.lean, 'card_holds'). Laid BY PROGRAM, IN A SANDBOX (cutbox-door.mjs). By AI agents, Wed Nov 11 2026. No macro, syntax, notation, axiom, sorry.
-/
import Derived.Test.YtkllahedaiddgaaGreatDoorRows
import GoSem.ClaimSeven
namespace Go.Proofs.YtkllahedaiddgaaGreatDoor
namespace Rows

/-- THE TIED CARD OF 'caissonlaw19.CommitsPlan'. -/
def commitsPlanCard : Claim7 := { stood := { row := commitsPlanRow, standIns := [], harness := (true, "62ae0aa706a0c78825d22dda79fdf38a29da37409efa4e4c30e845216701d58d"), looks := true }, kinds := [], alts := [], laidByText := true, laidKinds := [.data, .data, .data], laidTests := true, laidLooks := .later }
def CommitsPlanCardSaid : Prop := Claim7.holds Tryz.pinned (.plain (OpenSpec.ofChange commitsPlanSpec)) commitsPlanCard

/-- THE TIED CARD OF 'caissonlaw19.CommitsPut'. -/
def commitsPutCard : Claim7 := { stood := { row := commitsPutRow, standIns := [], harness := (true, "62ae0aa706a0c78825d22dda79fdf38a29da37409efa4e4c30e845216701d58d"), looks := true }, kinds := [], alts := [], laidByText := true, laidKinds := [.data, .data, .data], laidTests := true, laidLooks := .later }
def CommitsPutCardSaid : Prop := Claim7.holds Tryz.pinned (.plain (OpenSpec.ofChange commitsPutSpec)) commitsPutCard

/-- THE TIED CARD OF 'caissonlaw19.CommitsErrors'. -/
def commitsErrorsCard : Claim7 := { stood := { row := commitsErrorsRow, standIns := [], harness := (true, "62ae0aa706a0c78825d22dda79fdf38a29da37409efa4e4c30e845216701d58d"), looks := true }, kinds := [], alts := [], laidByText := true, laidKinds := [.data, .data, .data], laidTests := true, laidLooks := .later }
def CommitsErrorsCardSaid : Prop := Claim7.holds Tryz.pinned (.plain (OpenSpec.ofChange commitsErrorsSpec)) commitsErrorsCard

/-- THE TIED CARD OF 'caissonlaw17.LoadsWritten'. -/
def loadsWrittenCard : Claim7 := { stood := { row := loadsWrittenRow, standIns := [], harness := (true, "62ae0aa706a0c78825d22dda79fdf38a29da37409efa4e4c30e845216701d58d"), looks := true }, kinds := [], alts := [], laidByText := true, laidKinds := [.data, .data, .data], laidTests := true, laidLooks := .later }
def LoadsWrittenCardSaid : Prop := Claim7.holds Tryz.pinned (.plain (OpenSpec.ofChange loadsWrittenSpec)) loadsWrittenCard

/-- THE TIED CARD OF 'caissonlaw17.LoadsEdited'. -/
def loadsEditedCard : Claim7 := { stood := { row := loadsEditedRow, standIns := [], harness := (true, "62ae0aa706a0c78825d22dda79fdf38a29da37409efa4e4c30e845216701d58d"), looks := true }, kinds := [], alts := [], laidByText := true, laidKinds := [.data, .data, .data], laidTests := true, laidLooks := .later }
def LoadsEditedCardSaid : Prop := Claim7.holds Tryz.pinned (.plain (OpenSpec.ofChange loadsEditedSpec)) loadsEditedCard

/-- THE TIED CARD OF 'caissonlaw17.LoadsSafe'. -/
def loadsSafeCard : Claim7 := { stood := { row := loadsSafeRow, standIns := [], harness := (true, "62ae0aa706a0c78825d22dda79fdf38a29da37409efa4e4c30e845216701d58d"), looks := true }, kinds := [], alts := [], laidByText := true, laidKinds := [.data, .data, .data], laidTests := true, laidLooks := .later }
def LoadsSafeCardSaid : Prop := Claim7.holds Tryz.pinned (.plain (OpenSpec.ofChange loadsSafeSpec)) loadsSafeCard

/-- THE TIED CARD OF 'caissonlaw17.LoadsChild'. -/
def loadsChildCard : Claim7 := { stood := { row := loadsChildRow, standIns := [], harness := (true, "62ae0aa706a0c78825d22dda79fdf38a29da37409efa4e4c30e845216701d58d"), looks := true }, kinds := [], alts := [], laidByText := true, laidKinds := [.data, .data, .data], laidTests := true, laidLooks := .later }
def LoadsChildCardSaid : Prop := Claim7.holds Tryz.pinned (.plain (OpenSpec.ofChange loadsChildSpec)) loadsChildCard

/-- THE TIED CARD OF 'caissonlaw19.CommitsSafe'. -/
def commitsSafeCard : Claim7 := { stood := { row := commitsSafeRow, standIns := [], harness := (true, "62ae0aa706a0c78825d22dda79fdf38a29da37409efa4e4c30e845216701d58d"), looks := true }, kinds := [], alts := [], laidByText := true, laidKinds := [.data, .data, .data], laidTests := true, laidLooks := .later }
def CommitsSafeCardSaid : Prop := Claim7.holds Tryz.pinned (.plain (OpenSpec.ofChange commitsSafeSpec)) commitsSafeCard

/-- THE TIED CARD OF 'caissonlaw20.RecoversCrafted'. -/
def recoversCraftedCard : Claim7 := { stood := { row := recoversCraftedRow, standIns := [], harness := (true, "62ae0aa706a0c78825d22dda79fdf38a29da37409efa4e4c30e845216701d58d"), looks := true }, kinds := [], alts := [], laidByText := true, laidKinds := [.data, .data, .handle, .data], laidTests := true, laidLooks := .later }
def RecoversCraftedCardSaid : Prop := Claim7.holds Tryz.pinned (.plain (OpenSpec.ofChange recoversCraftedSpec)) recoversCraftedCard

/-- THE TIED CARD OF 'caissonlaw19.CommitsApply'. -/
def commitsApplyCard : Claim7 := { stood := { row := commitsApplyRow, standIns := [], harness := (true, "62ae0aa706a0c78825d22dda79fdf38a29da37409efa4e4c30e845216701d58d"), looks := true }, kinds := [], alts := [], laidByText := true, laidKinds := [.data, .data, .data], laidTests := true, laidLooks := .later }
def CommitsApplyCardSaid : Prop := Claim7.holds Tryz.pinned (.plain (OpenSpec.ofChange commitsApplySpec)) commitsApplyCard

/-- THE TIED CARD OF 'caissonlaw20.RecoversWritten'. -/
def recoversWrittenCard : Claim7 := { stood := { row := recoversWrittenRow, standIns := [], harness := (true, "62ae0aa706a0c78825d22dda79fdf38a29da37409efa4e4c30e845216701d58d"), looks := true }, kinds := [], alts := [], laidByText := true, laidKinds := [.data, .data, .handle, .data], laidTests := true, laidLooks := .later }
def RecoversWrittenCardSaid : Prop := Claim7.holds Tryz.pinned (.plain (OpenSpec.ofChange recoversWrittenSpec)) recoversWrittenCard

/-- THE TIED CARD OF 'caissonlaw20.RecoversEdited'. -/
def recoversEditedCard : Claim7 := { stood := { row := recoversEditedRow, standIns := [], harness := (true, "62ae0aa706a0c78825d22dda79fdf38a29da37409efa4e4c30e845216701d58d"), looks := true }, kinds := [], alts := [], laidByText := true, laidKinds := [.data, .data, .handle, .data], laidTests := true, laidLooks := .later }
def RecoversEditedCardSaid : Prop := Claim7.holds Tryz.pinned (.plain (OpenSpec.ofChange recoversEditedSpec)) recoversEditedCard

/-- THE SECOND FORM's CARD OF 'caissonlaw19.CommitsPlan'. -/
def commitsPlanUptoCard : Claim7 := { stood := { row := commitsPlanUptoRow, standIns := [], harness := (true, "62ae0aa706a0c78825d22dda79fdf38a29da37409efa4e4c30e845216701d58d"), looks := true }, kinds := [], alts := [], laidByText := true, laidKinds := [.data, .data, .data], laidTests := true, laidLooks := .later }
def CommitsPlanUptoCardSaid : Prop := Claim7.holds Tryz.pinned (.plain (OpenSpec.upto commitsPlanSpec)) commitsPlanUptoCard

/-- THE SECOND FORM's CARD OF 'caissonlaw19.CommitsPut'. -/
def commitsPutUptoCard : Claim7 := { stood := { row := commitsPutUptoRow, standIns := [], harness := (true, "62ae0aa706a0c78825d22dda79fdf38a29da37409efa4e4c30e845216701d58d"), looks := true }, kinds := [], alts := [], laidByText := true, laidKinds := [.data, .data, .data], laidTests := true, laidLooks := .later }
def CommitsPutUptoCardSaid : Prop := Claim7.holds Tryz.pinned (.plain (OpenSpec.upto commitsPutSpec)) commitsPutUptoCard

/-- THE SECOND FORM's CARD OF 'caissonlaw19.CommitsErrors'. -/
def commitsErrorsUptoCard : Claim7 := { stood := { row := commitsErrorsUptoRow, standIns := [], harness := (true, "62ae0aa706a0c78825d22dda79fdf38a29da37409efa4e4c30e845216701d58d"), looks := true }, kinds := [], alts := [], laidByText := true, laidKinds := [.data, .data, .data], laidTests := true, laidLooks := .later }
def CommitsErrorsUptoCardSaid : Prop := Claim7.holds Tryz.pinned (.plain (OpenSpec.upto commitsErrorsSpec)) commitsErrorsUptoCard

/-- THE SECOND FORM's CARD OF 'caissonlaw17.LoadsWritten'. -/
def loadsWrittenUptoCard : Claim7 := { stood := { row := loadsWrittenUptoRow, standIns := [], harness := (true, "62ae0aa706a0c78825d22dda79fdf38a29da37409efa4e4c30e845216701d58d"), looks := true }, kinds := [], alts := [], laidByText := true, laidKinds := [.data, .data, .data], laidTests := true, laidLooks := .later }
def LoadsWrittenUptoCardSaid : Prop := Claim7.holds Tryz.pinned (.plain (OpenSpec.upto loadsWrittenSpec)) loadsWrittenUptoCard

/-- THE SECOND FORM's CARD OF 'caissonlaw17.LoadsEdited'. -/
def loadsEditedUptoCard : Claim7 := { stood := { row := loadsEditedUptoRow, standIns := [], harness := (true, "62ae0aa706a0c78825d22dda79fdf38a29da37409efa4e4c30e845216701d58d"), looks := true }, kinds := [], alts := [], laidByText := true, laidKinds := [.data, .data, .data], laidTests := true, laidLooks := .later }
def LoadsEditedUptoCardSaid : Prop := Claim7.holds Tryz.pinned (.plain (OpenSpec.upto loadsEditedSpec)) loadsEditedUptoCard

/-- THE SECOND FORM's CARD OF 'caissonlaw17.LoadsSafe'. -/
def loadsSafeUptoCard : Claim7 := { stood := { row := loadsSafeUptoRow, standIns := [], harness := (true, "62ae0aa706a0c78825d22dda79fdf38a29da37409efa4e4c30e845216701d58d"), looks := true }, kinds := [], alts := [], laidByText := true, laidKinds := [.data, .data, .data], laidTests := true, laidLooks := .later }
def LoadsSafeUptoCardSaid : Prop := Claim7.holds Tryz.pinned (.plain (OpenSpec.upto loadsSafeSpec)) loadsSafeUptoCard

/-- THE SECOND FORM's CARD OF 'caissonlaw17.LoadsChild'. -/
def loadsChildUptoCard : Claim7 := { stood := { row := loadsChildUptoRow, standIns := [], harness := (true, "62ae0aa706a0c78825d22dda79fdf38a29da37409efa4e4c30e845216701d58d"), looks := true }, kinds := [], alts := [], laidByText := true, laidKinds := [.data, .data, .data], laidTests := true, laidLooks := .later }
def LoadsChildUptoCardSaid : Prop := Claim7.holds Tryz.pinned (.plain (OpenSpec.upto loadsChildSpec)) loadsChildUptoCard

/-- THE SECOND FORM's CARD OF 'caissonlaw19.CommitsSafe'. -/
def commitsSafeUptoCard : Claim7 := { stood := { row := commitsSafeUptoRow, standIns := [], harness := (true, "62ae0aa706a0c78825d22dda79fdf38a29da37409efa4e4c30e845216701d58d"), looks := true }, kinds := [], alts := [], laidByText := true, laidKinds := [.data, .data, .data], laidTests := true, laidLooks := .later }
def CommitsSafeUptoCardSaid : Prop := Claim7.holds Tryz.pinned (.plain (OpenSpec.upto commitsSafeSpec)) commitsSafeUptoCard

/-- THE SECOND FORM's CARD OF 'caissonlaw20.RecoversCrafted'. -/
def recoversCraftedUptoCard : Claim7 := { stood := { row := recoversCraftedUptoRow, standIns := [], harness := (true, "62ae0aa706a0c78825d22dda79fdf38a29da37409efa4e4c30e845216701d58d"), looks := true }, kinds := [], alts := [], laidByText := true, laidKinds := [.data, .data, .handle, .data], laidTests := true, laidLooks := .later }
def RecoversCraftedUptoCardSaid : Prop := Claim7.holds Tryz.pinned (.plain (OpenSpec.upto recoversCraftedSpec)) recoversCraftedUptoCard

/-- THE SECOND FORM's CARD OF 'caissonlaw19.CommitsApply'. -/
def commitsApplyUptoCard : Claim7 := { stood := { row := commitsApplyUptoRow, standIns := [], harness := (true, "62ae0aa706a0c78825d22dda79fdf38a29da37409efa4e4c30e845216701d58d"), looks := true }, kinds := [], alts := [], laidByText := true, laidKinds := [.data, .data, .data], laidTests := true, laidLooks := .later }
def CommitsApplyUptoCardSaid : Prop := Claim7.holds Tryz.pinned (.plain (OpenSpec.upto commitsApplySpec)) commitsApplyUptoCard

/-- THE SECOND FORM's CARD OF 'caissonlaw20.RecoversWritten'. -/
def recoversWrittenUptoCard : Claim7 := { stood := { row := recoversWrittenUptoRow, standIns := [], harness := (true, "62ae0aa706a0c78825d22dda79fdf38a29da37409efa4e4c30e845216701d58d"), looks := true }, kinds := [], alts := [], laidByText := true, laidKinds := [.data, .data, .handle, .data], laidTests := true, laidLooks := .later }
def RecoversWrittenUptoCardSaid : Prop := Claim7.holds Tryz.pinned (.plain (OpenSpec.upto recoversWrittenSpec)) recoversWrittenUptoCard

/-- THE SECOND FORM's CARD OF 'caissonlaw20.RecoversEdited'. -/
def recoversEditedUptoCard : Claim7 := { stood := { row := recoversEditedUptoRow, standIns := [], harness := (true, "62ae0aa706a0c78825d22dda79fdf38a29da37409efa4e4c30e845216701d58d"), looks := true }, kinds := [], alts := [], laidByText := true, laidKinds := [.data, .data, .handle, .data], laidTests := true, laidLooks := .later }
def RecoversEditedUptoCardSaid : Prop := Claim7.holds Tryz.pinned (.plain (OpenSpec.upto recoversEditedSpec)) recoversEditedUptoCard
end Rows
end Go.Proofs.YtkllahedaiddgaaGreatDoor
