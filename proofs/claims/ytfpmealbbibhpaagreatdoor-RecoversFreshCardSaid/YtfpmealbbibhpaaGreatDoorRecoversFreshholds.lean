/- RecoversFreshCardSaid: the statement holds. No condition. -/
import Derived.Test.YtfpmealbbibhpaaGreatDoorFF9
namespace Go.Proofs.YtfpmealbbibhpaaGreatDoor
theorem RecoversFresh_holds : Rows.RecoversFreshCardSaid := Go.K.RecoversFresh_holds
#print axioms RecoversFresh_holds
end Go.Proofs.YtfpmealbbibhpaaGreatDoor
