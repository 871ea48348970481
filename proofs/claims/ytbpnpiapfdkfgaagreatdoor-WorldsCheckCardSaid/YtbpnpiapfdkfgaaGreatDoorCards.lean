/-
  DERIVED. GIVEN WITH THE SEED: THE CARDS: each row of YtbpnpiapfdkfgaaGreatDoorRows.lean that lists a variable, with what it lists TIED to the program's text (the seventh form; the later family's looks); each row that meets fmt, with fmt's text TOLD by the authors' own Lean function (tested against real Go, not proved from fmt's source: count such statements apart). THE CARD IS WHAT COUNTS. Prove the row's statement (the work); the ties are given (YtbpnpiapfdkfgaaGreatDoorTie.lean); close each card by the builder's one call (the guide's Derived/Test/ToyasCard.lean, 'card_holds'). Laid BY PROGRAM, IN A SANDBOX (cutbox-door.mjs). By AI agents, Wed Nov 11 2026. No macro, syntax, notation, axiom, sorry.
-/
import Derived.Test.YtbpnpiapfdkfgaaGreatDoorRows
import GoSem.ClaimSeven
namespace Go.Proofs.YtbpnpiapfdkfgaaGreatDoor
namespace Rows

/-- THE TIED CARD OF 'caissonlaw30.WorldsCheck'. -/
def worldsCheckCard : Claim7 := { stood := { row := worldsCheckRow, standIns := [], harness := (true, "e80718ab97e1d64c68fd6c28c7e84c560b0ca3b8cfde71a35951396609c2f004"), looks := false }, kinds := [], alts := [], laidByText := true, laidKinds := [.data, .data, .data], laidTests := true, laidLooks := .later }
def WorldsCheckCardSaid : Prop := Claim7.holds Tryz.pinned (.plain (OpenSpec.ofChange worldsCheckSpec)) worldsCheckCard

/-- THE SECOND FORM's CARD OF 'caissonlaw30.WorldsCheck'. -/
def worldsCheckUptoCard : Claim7 := { stood := { row := worldsCheckUptoRow, standIns := [], harness := (true, "e80718ab97e1d64c68fd6c28c7e84c560b0ca3b8cfde71a35951396609c2f004"), looks := false }, kinds := [], alts := [], laidByText := true, laidKinds := [.data, .data, .data], laidTests := true, laidLooks := .later }
def WorldsCheckUptoCardSaid : Prop := Claim7.holds Tryz.pinned (.plain (OpenSpec.upto worldsCheckSpec)) worldsCheckUptoCard
end Rows
end Go.Proofs.YtbpnpiapfdkfgaaGreatDoor
