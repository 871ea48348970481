/- RecoversErrorsCardSaid: the statement holds. No condition. -/
import Derived.Test.YthnhbdidiglcgaaGreatDoorRE9
namespace Go.Proofs.YthnhbdidiglcgaaGreatDoor
theorem RecoversErrors_holds : Rows.RecoversErrorsCardSaid := Go.K.RecoversErrors_holds
#print axioms RecoversErrors_holds
end Go.Proofs.YthnhbdidiglcgaaGreatDoor
