/- LoadsErrorsCardSaid: the statement holds. No condition. -/
import Derived.Test.YtjkpgjagjofhaaaGreatDoorLO9
namespace Go.Proofs.YtjkpgjagjofhaaaGreatDoor
theorem LoadsErrors_holds : Rows.LoadsErrorsCardSaid := Go.K.LoadsErrors_holds
#print axioms LoadsErrors_holds
end Go.Proofs.YtjkpgjagjofhaaaGreatDoor
