/- Closed runs. No condition. Closed runs. No condition. -/
import Derived.Test.YtfpmealbbibhpaaGreatDoorMT0
set_option linter.unusedVariables false
namespace Go.K
open Go.Ab Go.RowKit Go.Y Go.Proofs
noncomputable section
attribute [local irreducible] krun callR
theorem pm_0:allPN (fun t=>Pmul (0 + t)) 128:=Eq.mpr (show allPN (fun t=>Pmul (0 + t)) 128=allPN (fun _=>True) 128 by kernel_rfl) (allPN_true 128)
theorem pm_128:allPN (fun t=>Pmul (128 + t)) 128:=Eq.mpr (show allPN (fun t=>Pmul (128 + t)) 128=allPN (fun _=>True) 128 by kernel_rfl) (allPN_true 128)
theorem pm_256:allPN (fun t=>Pmul (256 + t)) 128:=Eq.mpr (show allPN (fun t=>Pmul (256 + t)) 128=allPN (fun _=>True) 128 by kernel_rfl) (allPN_true 128)
theorem pm_384:allPN (fun t=>Pmul (384 + t)) 128:=Eq.mpr (show allPN (fun t=>Pmul (384 + t)) 128=allPN (fun _=>True) 128 by kernel_rfl) (allPN_true 128)
end
end Go.K
namespace Go.K
open Go.Ab Go.RowKit Go.Y Go.Proofs
noncomputable section
attribute [local irreducible] krun callR
theorem pm_512:allPN (fun t=>Pmul (512 + t)) 128:=Eq.mpr (show allPN (fun t=>Pmul (512 + t)) 128=allPN (fun _=>True) 128 by kernel_rfl) (allPN_true 128)
theorem pm_640:allPN (fun t=>Pmul (640 + t)) 128:=Eq.mpr (show allPN (fun t=>Pmul (640 + t)) 128=allPN (fun _=>True) 128 by kernel_rfl) (allPN_true 128)
theorem pm_768:allPN (fun t=>Pmul (768 + t)) 128:=Eq.mpr (show allPN (fun t=>Pmul (768 + t)) 128=allPN (fun _=>True) 128 by kernel_rfl) (allPN_true 128)
theorem pm_896:allPN (fun t=>Pmul (896 + t)) 128:=Eq.mpr (show allPN (fun t=>Pmul (896 + t)) 128=allPN (fun _=>True) 128 by kernel_rfl) (allPN_true 128)
end
end Go.K
