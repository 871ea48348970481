/- Fresh volumes: closed runs. No condition. Fresh volumes: closed runs. No condition. -/
import Derived.Test.YtfpmealbbibhpaaGreatDoorFR1
set_option linter.unusedVariables false
namespace Go.K
open Go.Ab Go.RowKit Go.Y Go.Proofs
attribute [local irreducible] krun callR
theorem fr_0 : AllR q20 1 128 = AllR (fun _ => True) 1 128 := by kernel_rfl
theorem fr_1 : AllR q20 129 128 = AllR (fun _ => True) 129 128 := by kernel_rfl
theorem fr_2 : AllR q20 257 128 = AllR (fun _ => True) 257 128 := by kernel_rfl
theorem fr_3 : AllR q20 385 128 = AllR (fun _ => True) 385 128 := by kernel_rfl
end Go.K
namespace Go.K
open Go.Ab Go.RowKit Go.Y Go.Proofs
attribute [local irreducible] krun callR
theorem fr_4 : AllR q20 513 128 = AllR (fun _ => True) 513 128 := by kernel_rfl
theorem fr_5 : AllR q20 641 128 = AllR (fun _ => True) 641 128 := by kernel_rfl
theorem fr_6 : AllR q20 769 128 = AllR (fun _ => True) 769 128 := by kernel_rfl
theorem fr_7 : AllR q20 897 128 = AllR (fun _ => True) 897 128 := by kernel_rfl
end Go.K
