/- Present of the greatest fresh volume: pieces. No condition. Present of the greatest fresh volume: pieces. No condition. -/
import Derived.Test.YthnhbdidiglcgaaGreatDoorPR0
import Derived.Test.YthnhbdidiglcgaaGreatDoorK23
set_option linter.unusedVariables false
set_option maxRecDepth 100000
namespace Go.K
open Go.Ab Go.RowKit Go.Y Go.Proofs
noncomputable section
attribute [local irreducible] krun
theorem pr_0 : repR E0 1000000 m29 0 l29 1000 (mkTr (s29 0)) (mkZm z29) 1 0 (fun tr zm nx mx => litT .normal (s29 1000) z29 1001 0 .normal tr zm nx mx) := of_eq_true (by kernel_rfl)
theorem pr_1 : repR E0 1000000 m29 0 l29 1000 (mkTr (s29 1000)) (mkZm z29) 1001 0 (fun tr zm nx mx => litT .normal (s29 2000) z29 2001 0 .normal tr zm nx mx) := of_eq_true (by kernel_rfl)
theorem pr_2 : repR E0 1000000 m29 0 l29 1000 (mkTr (s29 2000)) (mkZm z29) 2001 0 (fun tr zm nx mx => litT .normal (s29 3000) z29 3001 0 .normal tr zm nx mx) := of_eq_true (by kernel_rfl)
end
end Go.K
set_option maxRecDepth 100000
namespace Go.K
open Go.Ab Go.RowKit Go.Y Go.Proofs
noncomputable section
attribute [local irreducible] krun
theorem pr_3 : repR E0 1000000 m29 0 l29 1000 (mkTr (s29 3000)) (mkZm z29) 3001 0 (fun tr zm nx mx => litT .normal (s29 4000) z29 4001 0 .normal tr zm nx mx) := of_eq_true (by kernel_rfl)
theorem pr_4 : repR E0 1000000 m29 0 l29 1000 (mkTr (s29 4000)) (mkZm z29) 4001 0 (fun tr zm nx mx => litT .normal (s29 5000) z29 5001 0 .normal tr zm nx mx) := of_eq_true (by kernel_rfl)
theorem pr_5 : repR E0 1000000 m29 0 l29 1000 (mkTr (s29 5000)) (mkZm z29) 5001 0 (fun tr zm nx mx => litT .normal (s29 6000) z29 6001 0 .normal tr zm nx mx) := of_eq_true (by kernel_rfl)
end
end Go.K
