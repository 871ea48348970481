/- The program's checks of one node: what the runs come to. No condition. -/
import Derived.Test.YtkllahedaiddgaaGreatDoorRW
set_option linter.unusedSimpArgs false
set_option linter.unusedVariables false
set_option maxRecDepth 100000
namespace Go.K
open Go.Ab Go.RowKit Go.Y Go.Proofs
noncomputable section
attribute [local instance 10000] gO
end
end Go.K
