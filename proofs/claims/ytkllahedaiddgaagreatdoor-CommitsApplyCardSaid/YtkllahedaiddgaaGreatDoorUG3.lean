/- caissonref16.Node above the records: the runs. No condition. -/
import Derived.Test.YtkllahedaiddgaaGreatDoorPV0
set_option linter.unusedSimpArgs false
set_option linter.unusedVariables false
set_option maxRecDepth 100000
namespace Go.K
open Go.Ab Go.RowKit Go.Y Go.Proofs
noncomputable section
attribute [local instance 10000] gO
end
end Go.K
