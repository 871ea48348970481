/- Fresh volumes: closed runs. No condition. Fresh volumes: closed runs. No condition. -/
import Derived.Test.YtfpmealbbibhpaaGreatDoorFR1
set_option linter.unusedVariables false
namespace Go.K
open Go.Ab Go.RowKit Go.Y Go.Proofs
attribute [local irreducible] krun callR
theorem fr_24 : AllR q20 3073 128 = AllR (fun _ => True) 3073 128 := by kernel_rfl
theorem fr_25 : AllR q20 3201 128 = AllR (fun _ => True) 3201 128 := by kernel_rfl
theorem fr_26 : AllR q20 3329 128 = AllR (fun _ => True) 3329 128 := by kernel_rfl
theorem fr_27 : AllR q20 3457 128 = AllR (fun _ => True) 3457 128 := by kernel_rfl
end Go.K
namespace Go.K
open Go.Ab Go.RowKit Go.Y Go.Proofs
attribute [local irreducible] krun callR
theorem fr_28 : AllR q20 3585 128 = AllR (fun _ => True) 3585 128 := by kernel_rfl
theorem fr_29 : AllR q20 3713 128 = AllR (fun _ => True) 3713 128 := by kernel_rfl
theorem fr_30 : AllR q20 3841 128 = AllR (fun _ => True) 3841 128 := by kernel_rfl
theorem fr_31 : AllR q20 3969 128 = AllR (fun _ => True) 3969 128 := by kernel_rfl
end Go.K
