/- Fresh volumes of at most 90 blocks: the rest of the law, closed runs. No condition. -/
import Derived.Test.YtfpmealbbibhpaaGreatDoorFH2
set_option linter.unusedVariables false
namespace Go.K
open Go.Ab Go.RowKit Go.Y Go.Proofs
attribute [local irreducible] krun callR
theorem fb_3 : AllR runB 33 5 = AllR (fun _ => True) 33 5 := by kernel_rfl
theorem fb_7 : AllR runB 49 3 = AllR (fun _ => True) 49 3 := by kernel_rfl
theorem fb_11 : AllR runB 61 2 = AllR (fun _ => True) 61 2 := by kernel_rfl
theorem fb_15 : AllR runB 69 2 = AllR (fun _ => True) 69 2 := by kernel_rfl
theorem fb_19 : AllR runB 77 2 = AllR (fun _ => True) 77 2 := by kernel_rfl
theorem fb_23 : AllR runB 85 2 = AllR (fun _ => True) 85 2 := by kernel_rfl
end Go.K
