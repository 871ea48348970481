/- A closed run. No condition. -/
import Derived.Test.YtkllahedaiddgaaGreatDoorKS3
set_option linter.unusedSimpArgs false
set_option linter.unusedVariables false
namespace Go.K
open Go.Ab Go.RowKit Go.Y Go.Proofs
noncomputable section
attribute [local irreducible] zj zi
theorem zFn:zw3:=of_eq_true (by kernel_rfl)
end
end Go.K
