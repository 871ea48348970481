/- CommitsErrorsCardSaid: the statement holds. No condition. -/
import Derived.Test.YtkllahedaiddgaaGreatDoorCE9
namespace Go.Proofs.YtkllahedaiddgaaGreatDoor
theorem CommitsErrors_holds : Rows.CommitsErrorsCardSaid := Go.K.zbC
#print axioms CommitsErrors_holds
end Go.Proofs.YtkllahedaiddgaaGreatDoor
