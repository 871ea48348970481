/- Closed runs. No condition. -/
import Derived.Test.YthnhbdidiglcgaaGreatDoorLC1
set_option linter.unusedVariables false
namespace Go.K
open Go.Ab Go.RowKit Go.Y Go.Proofs
noncomputable section
attribute [local irreducible] krun callR
theorem pm_512 : allPN (fun t => Pmul (512 + t)) 128 := Eq.mpr (show allPN (fun t => Pmul (512 + t)) 128 = allPN (fun _ => True) 128 by kernel_rfl) (allPN_true 128)
theorem pm_640 : allPN (fun t => Pmul (640 + t)) 128 := Eq.mpr (show allPN (fun t => Pmul (640 + t)) 128 = allPN (fun _ => True) 128 by kernel_rfl) (allPN_true 128)
theorem pm_768 : allPN (fun t => Pmul (768 + t)) 128 := Eq.mpr (show allPN (fun t => Pmul (768 + t)) 128 = allPN (fun _ => True) 128 by kernel_rfl) (allPN_true 128)
theorem pm_896 : allPN (fun t => Pmul (896 + t)) 128 := Eq.mpr (show allPN (fun t => Pmul (896 + t)) 128 = allPN (fun _ => True) 128 by kernel_rfl) (allPN_true 128)
end
end Go.K
