/- LoadsChildCardSaid: the statement holds. No condition. -/
import Derived.Test.YtkllahedaiddgaaGreatDoorQK9
namespace Go.Proofs.YtkllahedaiddgaaGreatDoor
theorem LoadsChild_holds : Rows.LoadsChildCardSaid := Go.K.zfQ
#print axioms LoadsChild_holds
end Go.Proofs.YtkllahedaiddgaaGreatDoor
