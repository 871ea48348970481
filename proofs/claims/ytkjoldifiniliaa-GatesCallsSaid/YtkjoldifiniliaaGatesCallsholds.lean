/- GatesCallsSaid: the statement holds. No condition. -/
import Derived.Test.YtkjoldifiniliaaZG7
namespace Go.Proofs.Ytkjoldifiniliaa
theorem GatesCalls_holds : Rows.GatesCallsSaid := Go.Ab.GatesCalls_holds
#print axioms GatesCalls_holds
end Go.Proofs.Ytkjoldifiniliaa
