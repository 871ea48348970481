/- CommitsApplyCardSaid: the statement holds. No condition. -/
import Derived.Test.YtkllahedaiddgaaGreatDoorZE9
namespace Go.Proofs.YtkllahedaiddgaaGreatDoor
theorem CommitsApply_holds : Rows.CommitsApplyCardSaid := Go.K.zbq
#print axioms CommitsApply_holds
end Go.Proofs.YtkllahedaiddgaaGreatDoor
