/- Fresh volumes of at most 90 blocks: the rest of the law, closed runs. No condition. -/
import Derived.Test.YtfpmealbbibhpaaGreatDoorFH2
set_option linter.unusedVariables false
namespace Go.K
open Go.Ab Go.RowKit Go.Y Go.Proofs
attribute [local irreducible] krun callR
theorem fb_0 : AllR runB 1 18 = AllR (fun _ => True) 1 18 := by kernel_rfl
theorem fb_4 : AllR runB 38 4 = AllR (fun _ => True) 38 4 := by kernel_rfl
theorem fb_8 : AllR runB 52 3 = AllR (fun _ => True) 52 3 := by kernel_rfl
theorem fb_12 : AllR runB 63 2 = AllR (fun _ => True) 63 2 := by kernel_rfl
theorem fb_16 : AllR runB 71 2 = AllR (fun _ => True) 71 2 := by kernel_rfl
theorem fb_20 : AllR runB 79 2 = AllR (fun _ => True) 79 2 := by kernel_rfl
theorem fb_24 : AllR runB 87 2 = AllR (fun _ => True) 87 2 := by kernel_rfl
end Go.K
