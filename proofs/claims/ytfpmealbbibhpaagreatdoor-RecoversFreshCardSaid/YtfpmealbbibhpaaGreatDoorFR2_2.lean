/- Fresh volumes: closed runs. No condition. Fresh volumes: closed runs. No condition. -/
import Derived.Test.YtfpmealbbibhpaaGreatDoorFR1
set_option linter.unusedVariables false
namespace Go.K
open Go.Ab Go.RowKit Go.Y Go.Proofs
attribute [local irreducible] krun callR
theorem fr_8 : AllR q20 1025 128 = AllR (fun _ => True) 1025 128 := by kernel_rfl
theorem fr_9 : AllR q20 1153 128 = AllR (fun _ => True) 1153 128 := by kernel_rfl
theorem fr_10 : AllR q20 1281 128 = AllR (fun _ => True) 1281 128 := by kernel_rfl
theorem fr_11 : AllR q20 1409 128 = AllR (fun _ => True) 1409 128 := by kernel_rfl
end Go.K
namespace Go.K
open Go.Ab Go.RowKit Go.Y Go.Proofs
attribute [local irreducible] krun callR
theorem fr_12 : AllR q20 1537 128 = AllR (fun _ => True) 1537 128 := by kernel_rfl
theorem fr_13 : AllR q20 1665 128 = AllR (fun _ => True) 1665 128 := by kernel_rfl
theorem fr_14 : AllR q20 1793 128 = AllR (fun _ => True) 1793 128 := by kernel_rfl
theorem fr_15 : AllR q20 1921 128 = AllR (fun _ => True) 1921 128 := by kernel_rfl
end Go.K
