/- Present of the greatest fresh volume: pieces. No condition. Present of the greatest fresh volume: pieces. No condition. -/
import Derived.Test.YthnhbdidiglcgaaGreatDoorPR0
import Derived.Test.YthnhbdidiglcgaaGreatDoorK23
set_option linter.unusedVariables false
set_option maxRecDepth 100000
namespace Go.K
open Go.Ab Go.RowKit Go.Y Go.Proofs
noncomputable section
attribute [local irreducible] krun
theorem pr_6 : repR E0 1000000 m29 0 l29 1000 (mkTr (s29 6000)) (mkZm z29) 6001 0 (fun tr zm nx mx => litT .normal (s29 7000) z29 7001 0 .normal tr zm nx mx) := of_eq_true (by kernel_rfl)
theorem pr_7 : repR E0 1000000 m29 0 l29 1000 (mkTr (s29 7000)) (mkZm z29) 7001 0 (fun tr zm nx mx => litT .normal (s29 8000) z29 8001 0 .normal tr zm nx mx) := of_eq_true (by kernel_rfl)
theorem pr_8 : repR E0 1000000 m29 0 l29 1000 (mkTr (s29 8000)) (mkZm z29) 8001 0 (fun tr zm nx mx => litT .normal (s29 9000) z29 9001 0 .normal tr zm nx mx) := of_eq_true (by kernel_rfl)
end
end Go.K
set_option maxRecDepth 100000
namespace Go.K
open Go.Ab Go.RowKit Go.Y Go.Proofs
noncomputable section
attribute [local irreducible] krun
theorem pr_9 : repR E0 1000000 m29 0 l29 1000 (mkTr (s29 9000)) (mkZm z29) 9001 0 (fun tr zm nx mx => litT .normal (s29 10000) z29 10001 0 .normal tr zm nx mx) := of_eq_true (by kernel_rfl)
theorem pr_e : repR E0 1000000 m29 0 l29 922 (mkTr (s29 10000)) (mkZm z29) 10001 0 (fun tr zm nx mx => krun E0 1000000 m29 0 l29 tr zm nx mx (litT (.exit 0) tE29 zE29 10925 0)) := of_eq_true (by kernel_rfl)
theorem pr_z : krun E0 1000000 m29 0 e29 (mkTr tE29) (mkZm zE29) 10925 0 (retK E0.P rs29 (fun r zm _ _ => tK (fzB zm 30 r r29))) := of_eq_true (by kernel_rfl)
end
end Go.K
