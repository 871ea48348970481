/- Closed runs. No condition. Closed runs. No condition. -/
import Derived.Test.YtfpmealbbibhpaaGreatDoorMT0
set_option linter.unusedVariables false
namespace Go.K
open Go.Ab Go.RowKit Go.Y Go.Proofs
noncomputable section
attribute [local irreducible] krun callR
theorem ps_0:allPN (fun t=>Psub (0 + t)) 32:=Eq.mpr (show allPN (fun t=>Psub (0 + t)) 32=allPN (fun _=>True) 32 by kernel_rfl) (allPN_true 32)
theorem ps_32:allPN (fun t=>Psub (32 + t)) 32:=Eq.mpr (show allPN (fun t=>Psub (32 + t)) 32=allPN (fun _=>True) 32 by kernel_rfl) (allPN_true 32)
theorem ps_64:allPN (fun t=>Psub (64 + t)) 32:=Eq.mpr (show allPN (fun t=>Psub (64 + t)) 32=allPN (fun _=>True) 32 by kernel_rfl) (allPN_true 32)
theorem ps_96:allPN (fun t=>Psub (96 + t)) 32:=Eq.mpr (show allPN (fun t=>Psub (96 + t)) 32=allPN (fun _=>True) 32 by kernel_rfl) (allPN_true 32)
end
end Go.K
namespace Go.K
open Go.Ab Go.RowKit Go.Y Go.Proofs
noncomputable section
attribute [local irreducible] krun callR
theorem ps_128:allPN (fun t=>Psub (128 + t)) 32:=Eq.mpr (show allPN (fun t=>Psub (128 + t)) 32=allPN (fun _=>True) 32 by kernel_rfl) (allPN_true 32)
theorem ps_160:allPN (fun t=>Psub (160 + t)) 32:=Eq.mpr (show allPN (fun t=>Psub (160 + t)) 32=allPN (fun _=>True) 32 by kernel_rfl) (allPN_true 32)
theorem ps_192:allPN (fun t=>Psub (192 + t)) 32:=Eq.mpr (show allPN (fun t=>Psub (192 + t)) 32=allPN (fun _=>True) 32 by kernel_rfl) (allPN_true 32)
theorem ps_224:allPN (fun t=>Psub (224 + t)) 32:=Eq.mpr (show allPN (fun t=>Psub (224 + t)) 32=allPN (fun _=>True) 32 by kernel_rfl) (allPN_true 32)
end
end Go.K
