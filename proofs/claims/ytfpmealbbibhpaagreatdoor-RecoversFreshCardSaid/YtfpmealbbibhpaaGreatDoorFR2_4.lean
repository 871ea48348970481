/- Fresh volumes: closed runs. No condition. Fresh volumes: closed runs. No condition. -/
import Derived.Test.YtfpmealbbibhpaaGreatDoorFR1
set_option linter.unusedVariables false
namespace Go.K
open Go.Ab Go.RowKit Go.Y Go.Proofs
attribute [local irreducible] krun callR
theorem fr_16 : AllR q20 2049 128 = AllR (fun _ => True) 2049 128 := by kernel_rfl
theorem fr_17 : AllR q20 2177 128 = AllR (fun _ => True) 2177 128 := by kernel_rfl
theorem fr_18 : AllR q20 2305 128 = AllR (fun _ => True) 2305 128 := by kernel_rfl
theorem fr_19 : AllR q20 2433 128 = AllR (fun _ => True) 2433 128 := by kernel_rfl
end Go.K
namespace Go.K
open Go.Ab Go.RowKit Go.Y Go.Proofs
attribute [local irreducible] krun callR
theorem fr_20 : AllR q20 2561 128 = AllR (fun _ => True) 2561 128 := by kernel_rfl
theorem fr_21 : AllR q20 2689 128 = AllR (fun _ => True) 2689 128 := by kernel_rfl
theorem fr_22 : AllR q20 2817 128 = AllR (fun _ => True) 2817 128 := by kernel_rfl
theorem fr_23 : AllR q20 2945 128 = AllR (fun _ => True) 2945 128 := by kernel_rfl
end Go.K
