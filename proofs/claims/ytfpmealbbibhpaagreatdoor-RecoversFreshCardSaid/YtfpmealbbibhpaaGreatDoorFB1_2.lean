/- Fresh volumes of at most 90 blocks: the rest of the law, closed runs. No condition. -/
import Derived.Test.YtfpmealbbibhpaaGreatDoorFH2
set_option linter.unusedVariables false
namespace Go.K
open Go.Ab Go.RowKit Go.Y Go.Proofs
attribute [local irreducible] krun callR
theorem fb_2 : AllR runB 27 6 = AllR (fun _ => True) 27 6 := by kernel_rfl
theorem fb_6 : AllR runB 46 3 = AllR (fun _ => True) 46 3 := by kernel_rfl
theorem fb_10 : AllR runB 58 3 = AllR (fun _ => True) 58 3 := by kernel_rfl
theorem fb_14 : AllR runB 67 2 = AllR (fun _ => True) 67 2 := by kernel_rfl
theorem fb_18 : AllR runB 75 2 = AllR (fun _ => True) 75 2 := by kernel_rfl
theorem fb_22 : AllR runB 83 2 = AllR (fun _ => True) 83 2 := by kernel_rfl
end Go.K
