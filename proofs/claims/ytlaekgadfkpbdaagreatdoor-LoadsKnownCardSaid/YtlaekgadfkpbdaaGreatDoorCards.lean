/-
  DERIVED. GIVEN WITH THE SEED: THE CARDS: each row of YtlaekgadfkpbdaaGreatDoorRows.lean that lists a variable, with what it lists TIED to the program's text (the seventh form; the later family's looks); each row that meets fmt, with fmt's text TOLD by the authors' own Lean function (tested against real Go, not proved from fmt's source: count such statements apart). THE CARD IS WHAT COUNTS. Prove the row's statement (the work); the ties are given (YtlaekgadfkpbdaaGreatDoorTie.lean); close each card by the builder's one call (the guide's Derived/Test/ToyasCard.lean, 'card_holds'). Laid BY PROGRAM, IN A SANDBOX (cutbox-door.mjs). By AI agents, Wed Nov 11 2026. No macro, syntax, notation, axiom, sorry.
-/
import Derived.Test.YtlaekgadfkpbdaaGreatDoorRows
import GoSem.ClaimSeven
namespace Go.Proofs.YtlaekgadfkpbdaaGreatDoor
namespace Rows

/-- THE TIED CARD OF 'caissonlaw17.LoadsKnown'. -/
def loadsKnownCard : Claim7 := { stood := { row := loadsKnownRow, standIns := [], harness := (true, "75de35b7bb36613b90c1d30188f6b3782c7bf811718235789795209fe6e1c721"), looks := false }, kinds := [], alts := [], laidByText := true, laidKinds := [.data, .data, .data], laidTests := true, laidLooks := .later }
def LoadsKnownCardSaid : Prop := Claim7.holds Tryz.pinned (.plain (OpenSpec.ofChange loadsKnownSpec)) loadsKnownCard

/-- THE SECOND FORM's CARD OF 'caissonlaw17.LoadsKnown'. -/
def loadsKnownUptoCard : Claim7 := { stood := { row := loadsKnownUptoRow, standIns := [], harness := (true, "75de35b7bb36613b90c1d30188f6b3782c7bf811718235789795209fe6e1c721"), looks := false }, kinds := [], alts := [], laidByText := true, laidKinds := [.data, .data, .data], laidTests := true, laidLooks := .later }
def LoadsKnownUptoCardSaid : Prop := Claim7.holds Tryz.pinned (.plain (OpenSpec.upto loadsKnownSpec)) loadsKnownUptoCard
end Rows
end Go.Proofs.YtlaekgadfkpbdaaGreatDoor
