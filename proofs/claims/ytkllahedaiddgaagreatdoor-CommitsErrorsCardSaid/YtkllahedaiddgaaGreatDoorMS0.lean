/- xw runs. No condition. -/
import Derived.Test.YtkllahedaiddgaaGreatDoorMT0
set_option linter.unusedVariables false
namespace Go.K
open Go.Ab Go.RowKit Go.Y Go.Proofs
noncomputable section
attribute [local irreducible] zu zn
theorem zEj:zL (fun t=>qR (0 + t)) 32:=Eq.mpr (show zL (fun t=>qR (0 + t)) 32=zL (fun _=>True) 32 by kernel_rfl) (z5 32)
theorem zAc:zL (fun t=>qR (32 + t)) 32:=Eq.mpr (show zL (fun t=>qR (32 + t)) 32=zL (fun _=>True) 32 by kernel_rfl) (z5 32)
theorem zAd:zL (fun t=>qR (64 + t)) 32:=Eq.mpr (show zL (fun t=>qR (64 + t)) 32=zL (fun _=>True) 32 by kernel_rfl) (z5 32)
theorem zAe:zL (fun t=>qR (96 + t)) 32:=Eq.mpr (show zL (fun t=>qR (96 + t)) 32=zL (fun _=>True) 32 by kernel_rfl) (z5 32)
end
end Go.K
namespace Go.K
open Go.Ab Go.RowKit Go.Y Go.Proofs
noncomputable section
attribute [local irreducible] zu zn
theorem zu3:zL (fun t=>qR (128 + t)) 32:=Eq.mpr (show zL (fun t=>qR (128 + t)) 32=zL (fun _=>True) 32 by kernel_rfl) (z5 32)
theorem zu4:zL (fun t=>qR (160 + t)) 32:=Eq.mpr (show zL (fun t=>qR (160 + t)) 32=zL (fun _=>True) 32 by kernel_rfl) (z5 32)
theorem zu5:zL (fun t=>qR (192 + t)) 32:=Eq.mpr (show zL (fun t=>qR (192 + t)) 32=zL (fun _=>True) 32 by kernel_rfl) (z5 32)
theorem zu6:zL (fun t=>qR (224 + t)) 32:=Eq.mpr (show zL (fun t=>qR (224 + t)) 32=zL (fun _=>True) 32 by kernel_rfl) (z5 32)
end
end Go.K
