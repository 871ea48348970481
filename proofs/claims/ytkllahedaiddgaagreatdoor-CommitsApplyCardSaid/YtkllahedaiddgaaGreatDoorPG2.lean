/- updates.valid: its run, of up to 24 blocks. No condition. -/
import Derived.Test.YtkllahedaiddgaaGreatDoorPG1a
import Derived.Test.YtkllahedaiddgaaGreatDoorPL
set_option linter.unusedSimpArgs false
set_option linter.unusedVariables false
set_option maxRecDepth 100000
namespace Go.K
open Go.Ab Go.RowKit Go.Y Go.Proofs
noncomputable section
attribute [local instance 10000] gO
end
end Go.K
