/- GatesPlaySaid: the statement holds. No condition. -/
import Derived.Test.YtkjoldifiniliaaZG10
namespace Go.Proofs.Ytkjoldifiniliaa
theorem GatesPlay_holds : Rows.GatesPlaySaid := Go.Ab.GatesPlay_holds
#print axioms GatesPlay_holds
end Go.Proofs.Ytkjoldifiniliaa
