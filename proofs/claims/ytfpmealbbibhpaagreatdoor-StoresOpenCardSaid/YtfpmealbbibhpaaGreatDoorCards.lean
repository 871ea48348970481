/-
  DERIVED. GIVEN WITH THE SEED: THE CARDS: each row of YtfpmealbbibhpaaGreatDoorRows.lean that lists a variable, with what it lists TIED to the program's text (the seventh form; the later family's looks); each row that meets fmt, with fmt's text TOLD by the authors' own Lean function (tested against real Go, not proved from fmt's source: count such statements apart). THE CARD IS WHAT COUNTS. Prove the row's statement (the work); the ties are given (YtfpmealbbibhpaaGreatDoorTie.lean); close each card by the builder's one call (the guide's Derived/Test/ToyasCard.lean, 'card_holds'). Laid BY PROGRAM, IN A SANDBOX (cutbox-door.mjs). By AI agents, Wed Nov 11 2026. No macro, syntax, notation, axiom, sorry.
-/
import Derived.Test.YtfpmealbbibhpaaGreatDoorRows
import GoSem.ClaimSeven
namespace Go.Proofs.YtfpmealbbibhpaaGreatDoor
namespace Rows

/-- THE TIED CARD OF 'caissonlaw19.CommitsKnown'. -/
def commitsKnownCard : Claim7 := { stood := { row := commitsKnownRow, standIns := [], harness := (true, "6fac96ebe54569f97cab989157ff8600b0f64b10956e1d40609f2ca4e8e8c1d7"), looks := true }, kinds := [], alts := [], laidByText := true, laidKinds := [.data, .data, .data], laidTests := true, laidLooks := .later }
def CommitsKnownCardSaid : Prop := Claim7.holds Tryz.pinned (.plain (OpenSpec.ofChange commitsKnownSpec)) commitsKnownCard

/-- THE TIED CARD OF 'caissonlaw20.RecoversFresh'. -/
def recoversFreshCard : Claim7 := { stood := { row := recoversFreshRow, standIns := [], harness := (true, "6fac96ebe54569f97cab989157ff8600b0f64b10956e1d40609f2ca4e8e8c1d7"), looks := true }, kinds := [], alts := [], laidByText := true, laidKinds := [.data, .data, .handle, .data], laidTests := true, laidLooks := .later }
def RecoversFreshCardSaid : Prop := Claim7.holds Tryz.pinned (.plain (OpenSpec.ofChange recoversFreshSpec)) recoversFreshCard

/-- THE TIED CARD OF 'caissonlaw20.RecoversKnown'. -/
def recoversKnownCard : Claim7 := { stood := { row := recoversKnownRow, standIns := [], harness := (true, "6fac96ebe54569f97cab989157ff8600b0f64b10956e1d40609f2ca4e8e8c1d7"), looks := true }, kinds := [], alts := [], laidByText := true, laidKinds := [.data, .data, .handle, .data], laidTests := true, laidLooks := .later }
def RecoversKnownCardSaid : Prop := Claim7.holds Tryz.pinned (.plain (OpenSpec.ofChange recoversKnownSpec)) recoversKnownCard

/-- THE TIED CARD OF 'caissonlaw20.RecoversErrors'. -/
def recoversErrorsCard : Claim7 := { stood := { row := recoversErrorsRow, standIns := [], harness := (true, "6fac96ebe54569f97cab989157ff8600b0f64b10956e1d40609f2ca4e8e8c1d7"), looks := true }, kinds := [], alts := [], laidByText := true, laidKinds := [.data, .data, .handle, .data], laidTests := true, laidLooks := .later }
def RecoversErrorsCardSaid : Prop := Claim7.holds Tryz.pinned (.plain (OpenSpec.ofChange recoversErrorsSpec)) recoversErrorsCard

/-- THE TIED CARD OF 'caissonlaw22.StoresKnown'. -/
def storesKnownCard : Claim7 := { stood := { row := storesKnownRow, standIns := [], harness := (true, "6fac96ebe54569f97cab989157ff8600b0f64b10956e1d40609f2ca4e8e8c1d7"), looks := true }, kinds := [], alts := [], laidByText := true, laidKinds := [.data, .data, .handle, .data, .sentinel], laidTests := true, laidLooks := .later }
def StoresKnownCardSaid : Prop := Claim7.holds Tryz.pinned (.plain (OpenSpec.ofChange storesKnownSpec)) storesKnownCard

/-- THE TIED CARD OF 'caissonlaw22.StoresOpen'. -/
def storesOpenCard : Claim7 := { stood := { row := storesOpenRow, standIns := [], harness := (true, "6fac96ebe54569f97cab989157ff8600b0f64b10956e1d40609f2ca4e8e8c1d7"), looks := true }, kinds := [], alts := [], laidByText := true, laidKinds := [.data, .data, .handle, .data, .sentinel], laidTests := true, laidLooks := .later }
def StoresOpenCardSaid : Prop := Claim7.holds Tryz.pinned (.plain (OpenSpec.ofChange storesOpenSpec)) storesOpenCard

/-- THE SECOND FORM's CARD OF 'caissonlaw19.CommitsKnown'. -/
def commitsKnownUptoCard : Claim7 := { stood := { row := commitsKnownUptoRow, standIns := [], harness := (true, "6fac96ebe54569f97cab989157ff8600b0f64b10956e1d40609f2ca4e8e8c1d7"), looks := true }, kinds := [], alts := [], laidByText := true, laidKinds := [.data, .data, .data], laidTests := true, laidLooks := .later }
def CommitsKnownUptoCardSaid : Prop := Claim7.holds Tryz.pinned (.plain (OpenSpec.upto commitsKnownSpec)) commitsKnownUptoCard

/-- THE SECOND FORM's CARD OF 'caissonlaw20.RecoversFresh'. -/
def recoversFreshUptoCard : Claim7 := { stood := { row := recoversFreshUptoRow, standIns := [], harness := (true, "6fac96ebe54569f97cab989157ff8600b0f64b10956e1d40609f2ca4e8e8c1d7"), looks := true }, kinds := [], alts := [], laidByText := true, laidKinds := [.data, .data, .handle, .data], laidTests := true, laidLooks := .later }
def RecoversFreshUptoCardSaid : Prop := Claim7.holds Tryz.pinned (.plain (OpenSpec.upto recoversFreshSpec)) recoversFreshUptoCard

/-- THE SECOND FORM's CARD OF 'caissonlaw20.RecoversKnown'. -/
def recoversKnownUptoCard : Claim7 := { stood := { row := recoversKnownUptoRow, standIns := [], harness := (true, "6fac96ebe54569f97cab989157ff8600b0f64b10956e1d40609f2ca4e8e8c1d7"), looks := true }, kinds := [], alts := [], laidByText := true, laidKinds := [.data, .data, .handle, .data], laidTests := true, laidLooks := .later }
def RecoversKnownUptoCardSaid : Prop := Claim7.holds Tryz.pinned (.plain (OpenSpec.upto recoversKnownSpec)) recoversKnownUptoCard

/-- THE SECOND FORM's CARD OF 'caissonlaw20.RecoversErrors'. -/
def recoversErrorsUptoCard : Claim7 := { stood := { row := recoversErrorsUptoRow, standIns := [], harness := (true, "6fac96ebe54569f97cab989157ff8600b0f64b10956e1d40609f2ca4e8e8c1d7"), looks := true }, kinds := [], alts := [], laidByText := true, laidKinds := [.data, .data, .handle, .data], laidTests := true, laidLooks := .later }
def RecoversErrorsUptoCardSaid : Prop := Claim7.holds Tryz.pinned (.plain (OpenSpec.upto recoversErrorsSpec)) recoversErrorsUptoCard

/-- THE SECOND FORM's CARD OF 'caissonlaw22.StoresKnown'. -/
def storesKnownUptoCard : Claim7 := { stood := { row := storesKnownUptoRow, standIns := [], harness := (true, "6fac96ebe54569f97cab989157ff8600b0f64b10956e1d40609f2ca4e8e8c1d7"), looks := true }, kinds := [], alts := [], laidByText := true, laidKinds := [.data, .data, .handle, .data, .sentinel], laidTests := true, laidLooks := .later }
def StoresKnownUptoCardSaid : Prop := Claim7.holds Tryz.pinned (.plain (OpenSpec.upto storesKnownSpec)) storesKnownUptoCard

/-- THE SECOND FORM's CARD OF 'caissonlaw22.StoresOpen'. -/
def storesOpenUptoCard : Claim7 := { stood := { row := storesOpenUptoRow, standIns := [], harness := (true, "6fac96ebe54569f97cab989157ff8600b0f64b10956e1d40609f2ca4e8e8c1d7"), looks := true }, kinds := [], alts := [], laidByText := true, laidKinds := [.data, .data, .handle, .data, .sentinel], laidTests := true, laidLooks := .later }
def StoresOpenUptoCardSaid : Prop := Claim7.holds Tryz.pinned (.plain (OpenSpec.upto storesOpenSpec)) storesOpenUptoCard
end Rows
end Go.Proofs.YtfpmealbbibhpaaGreatDoor
