/- CommitsPlanCardSaid: the statement holds. No condition. -/
import Derived.Test.YtkllahedaiddgaaGreatDoorPE9
namespace Go.Proofs.YtkllahedaiddgaaGreatDoor
theorem CommitsPlan_holds : Rows.CommitsPlanCardSaid := Go.K.zeW
#print axioms CommitsPlan_holds
end Go.Proofs.YtkllahedaiddgaaGreatDoor
