/- xw runs. No condition. -/
import Derived.Test.YtkllahedaiddgaaGreatDoorMT0
set_option linter.unusedVariables false
namespace Go.K
open Go.Ab Go.RowKit Go.Y Go.Proofs
noncomputable section
attribute [local irreducible] zu zn
theorem zEE:zL (fun t=>qS (0 + t)) 128:=Eq.mpr (show zL (fun t=>qS (0 + t)) 128=zL (fun _=>True) 128 by kernel_rfl) (z5 128)
theorem zvY:zL (fun t=>qS (128 + t)) 128:=Eq.mpr (show zL (fun t=>qS (128 + t)) 128=zL (fun _=>True) 128 by kernel_rfl) (z5 128)
theorem zvZ:zL (fun t=>qS (256 + t)) 128:=Eq.mpr (show zL (fun t=>qS (256 + t)) 128=zL (fun _=>True) 128 by kernel_rfl) (z5 128)
theorem zv0:zL (fun t=>qS (384 + t)) 128:=Eq.mpr (show zL (fun t=>qS (384 + t)) 128=zL (fun _=>True) 128 by kernel_rfl) (z5 128)
end
end Go.K
namespace Go.K
open Go.Ab Go.RowKit Go.Y Go.Proofs
noncomputable section
attribute [local irreducible] zu zn
theorem zuO:zL (fun t=>qS (512 + t)) 128:=Eq.mpr (show zL (fun t=>qS (512 + t)) 128=zL (fun _=>True) 128 by kernel_rfl) (z5 128)
theorem zuP:zL (fun t=>qS (640 + t)) 128:=Eq.mpr (show zL (fun t=>qS (640 + t)) 128=zL (fun _=>True) 128 by kernel_rfl) (z5 128)
theorem zuQ:zL (fun t=>qS (768 + t)) 128:=Eq.mpr (show zL (fun t=>qS (768 + t)) 128=zL (fun _=>True) 128 by kernel_rfl) (z5 128)
theorem zuR:zL (fun t=>qS (896 + t)) 128:=Eq.mpr (show zL (fun t=>qS (896 + t)) 128=zL (fun _=>True) 128 by kernel_rfl) (z5 128)
end
end Go.K
