/- GatesKnownSaid: the statement holds. No condition. -/
import Derived.Test.YtkjoldifiniliaaGK5
namespace Go.Proofs.Ytkjoldifiniliaa
theorem GatesKnown_holds : Rows.GatesKnownSaid := Go.K.GatesKnown_holds
#print axioms GatesKnown_holds
end Go.Proofs.Ytkjoldifiniliaa
