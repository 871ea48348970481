/- A closed run. No condition. -/
import Derived.Test.YthnhbdidiglcgaaGreatDoorLC1
set_option linter.unusedVariables false
namespace Go.K
open Go.Ab Go.RowKit Go.Y Go.Proofs
noncomputable section
attribute [local irreducible] krun callR
theorem ptab : Ptab := of_eq_true (by kernel_rfl)
end
end Go.K
