/- StoresKnownCardSaid: the statement holds. No condition. -/
import Derived.Test.YtfpmealbbibhpaaGreatDoorSK9
namespace Go.Proofs.YtfpmealbbibhpaaGreatDoor
theorem StoresKnown_holds : Rows.StoresKnownCardSaid := Go.K.StoresKnown_holds
#print axioms StoresKnown_holds
end Go.Proofs.YtfpmealbbibhpaaGreatDoor
