/- Fresh volumes of at most 90 blocks: the rest of the law, closed runs. No condition. -/
import Derived.Test.YtfpmealbbibhpaaGreatDoorFH2
set_option linter.unusedVariables false
namespace Go.K
open Go.Ab Go.RowKit Go.Y Go.Proofs
attribute [local irreducible] krun callR
theorem fb_1 : AllR runB 19 8 = AllR (fun _ => True) 19 8 := by kernel_rfl
theorem fb_5 : AllR runB 42 4 = AllR (fun _ => True) 42 4 := by kernel_rfl
theorem fb_9 : AllR runB 55 3 = AllR (fun _ => True) 55 3 := by kernel_rfl
theorem fb_13 : AllR runB 65 2 = AllR (fun _ => True) 65 2 := by kernel_rfl
theorem fb_17 : AllR runB 73 2 = AllR (fun _ => True) 73 2 := by kernel_rfl
theorem fb_21 : AllR runB 81 2 = AllR (fun _ => True) 81 2 := by kernel_rfl
theorem fb_25 : AllR runB 89 2 = AllR (fun _ => True) 89 2 := by kernel_rfl
end Go.K
