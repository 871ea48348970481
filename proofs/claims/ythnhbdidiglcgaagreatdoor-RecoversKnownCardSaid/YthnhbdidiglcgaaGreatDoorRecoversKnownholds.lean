/- RecoversKnownCardSaid: the statement holds. No condition. -/
import Derived.Test.YthnhbdidiglcgaaGreatDoorRK9
namespace Go.Proofs.YthnhbdidiglcgaaGreatDoor
theorem RecoversKnown_holds : Rows.RecoversKnownCardSaid := Go.K.RecoversKnown_holds
#print axioms RecoversKnown_holds
end Go.Proofs.YthnhbdidiglcgaaGreatDoor
