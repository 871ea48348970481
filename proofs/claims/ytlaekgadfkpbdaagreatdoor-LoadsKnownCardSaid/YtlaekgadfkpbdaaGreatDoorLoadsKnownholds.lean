/- LoadsKnownCardSaid: the statement holds. No condition. -/
import Derived.Test.YtlaekgadfkpbdaaGreatDoorLK9
namespace Go.Proofs.YtlaekgadfkpbdaaGreatDoor
theorem LoadsKnown_holds : Rows.LoadsKnownCardSaid := Go.K.LoadsKnown_holds
#print axioms LoadsKnown_holds
end Go.Proofs.YtlaekgadfkpbdaaGreatDoor
