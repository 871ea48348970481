/- GatesBackSaid: the statement holds. No condition. -/
import Derived.Test.YtkjoldifiniliaaZG5
namespace Go.Proofs.Ytkjoldifiniliaa
theorem GatesBack_holds : Rows.GatesBackSaid := Go.Ab.GatesBack_holds
#print axioms GatesBack_holds
end Go.Proofs.Ytkjoldifiniliaa
