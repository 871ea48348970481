/-
  DERIVED. GIVEN WITH THE SEED: THE CARDS: each row of YtjkpgjagjofhaaaGreatDoorRows.lean that lists a variable, with what it lists TIED to the program's text (the seventh form; the later family's looks); each row that meets fmt, with fmt's text TOLD by the authors' own Lean function (tested against real Go, not proved from fmt's source: count such statements apart). THE CARD IS WHAT COUNTS. Prove the row's statement (the work); the ties are given (YtjkpgjagjofhaaaGreatDoorTie.lean); close each card by the builder's one call (the guide's Derived/Test/ToyasCard.lean, 'card_holds'). Laid BY PROGRAM, IN A SANDBOX (cutbox-door.mjs). By AI agents, Wed Nov 11 2026. No macro, syntax, notation, axiom, sorry.
-/
import Derived.Test.YtjkpgjagjofhaaaGreatDoorRows
import GoSem.ClaimSeven
namespace Go.Proofs.YtjkpgjagjofhaaaGreatDoor
namespace Rows

/-- THE TIED CARD OF 'caissonlaw17.LoadsErrors'. -/
def loadsErrorsCard : Claim7 := { stood := { row := loadsErrorsRow, standIns := [], harness := (true, "f49f5f0136b53f783f261d8fe28098f229979e5a46b1ec1c4cdb6348780a856c"), looks := false }, kinds := [], alts := [], laidByText := true, laidKinds := [.data, .data, .data], laidTests := true, laidLooks := .later }
def LoadsErrorsCardSaid : Prop := Claim7.holds Tryz.pinned (.plain (OpenSpec.ofChange loadsErrorsSpec)) loadsErrorsCard

/-- THE SECOND FORM's CARD OF 'caissonlaw17.LoadsErrors'. -/
def loadsErrorsUptoCard : Claim7 := { stood := { row := loadsErrorsUptoRow, standIns := [], harness := (true, "f49f5f0136b53f783f261d8fe28098f229979e5a46b1ec1c4cdb6348780a856c"), looks := false }, kinds := [], alts := [], laidByText := true, laidKinds := [.data, .data, .data], laidTests := true, laidLooks := .later }
def LoadsErrorsUptoCardSaid : Prop := Claim7.holds Tryz.pinned (.plain (OpenSpec.upto loadsErrorsSpec)) loadsErrorsUptoCard
end Rows
end Go.Proofs.YtjkpgjagjofhaaaGreatDoor
