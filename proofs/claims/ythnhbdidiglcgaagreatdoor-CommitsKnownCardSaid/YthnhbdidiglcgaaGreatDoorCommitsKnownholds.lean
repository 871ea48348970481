/- CommitsKnownCardSaid: the statement holds. No condition. -/
import Derived.Test.YthnhbdidiglcgaaGreatDoorCK9
namespace Go.Proofs.YthnhbdidiglcgaaGreatDoor
theorem CommitsKnown_holds : Rows.CommitsKnownCardSaid := Go.K.CommitsKnown_holds
#print axioms CommitsKnown_holds
end Go.Proofs.YthnhbdidiglcgaaGreatDoor
