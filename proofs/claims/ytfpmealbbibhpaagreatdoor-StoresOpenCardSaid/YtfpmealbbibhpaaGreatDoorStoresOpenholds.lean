/- StoresOpenCardSaid: the statement holds. No condition. -/
import Derived.Test.YtfpmealbbibhpaaGreatDoorSO15
namespace Go.Proofs.YtfpmealbbibhpaaGreatDoor
theorem StoresOpen_holds : Rows.StoresOpenCardSaid := Go.K.StoresOpen_holds
#print axioms StoresOpen_holds
end Go.Proofs.YtfpmealbbibhpaaGreatDoor
