/- lives() of layer 19 in the open mode. No condition. -/
import Derived.Test.YtkllahedaiddgaaGreatDoorLVD
import Derived.Test.YtkllahedaiddgaaGreatDoorUG5
set_option linter.unusedSimpArgs false
set_option linter.unusedVariables false
namespace Go.K
open Go.Ab Go.RowKit Go.Y Go.Proofs
noncomputable section
attribute [local instance 10000] gO
theorem zvm:KCS Tryz.prog 22 (xm [] (.bool true)):=KCS.opn (show @KCS kgL Tryz.prog 22 (xm [] (.bool true)) from zvF)
end
end Go.K
