/- WorldsCheckCardSaid: the statement holds. No condition. -/
import Derived.Test.YtbpnpiapfdkfgaaGreatDoorWO4
namespace Go.Proofs.YtbpnpiapfdkfgaaGreatDoor
theorem WorldsCheck_holds : Rows.WorldsCheckCardSaid := Go.K.WorldsCheck_holds
#print axioms WorldsCheck_holds
end Go.Proofs.YtbpnpiapfdkfgaaGreatDoor
