/- xC runs. No condition. -/
import Derived.Test.YtkllahedaiddgaaGreatDoorMT0
set_option linter.unusedSimpArgs false
set_option linter.unusedVariables false
namespace Go.K
open Go.Ab Go.RowKit Go.Y Go.Proofs
noncomputable section
attribute [local irreducible] zp zk
theorem zHu:zO (fun t=>qv (0 + t)) 128:=Eq.mpr (show zO (fun t=>qv (0 + t)) 128=zO (fun _=>True) 128 by kernel_rfl) (z5 128)
theorem zwf:zO (fun t=>qv (128 + t)) 128:=Eq.mpr (show zO (fun t=>qv (128 + t)) 128=zO (fun _=>True) 128 by kernel_rfl) (z5 128)
theorem zwg:zO (fun t=>qv (256 + t)) 128:=Eq.mpr (show zO (fun t=>qv (256 + t)) 128=zO (fun _=>True) 128 by kernel_rfl) (z5 128)
theorem zwh:zO (fun t=>qv (384 + t)) 128:=Eq.mpr (show zO (fun t=>qv (384 + t)) 128=zO (fun _=>True) 128 by kernel_rfl) (z5 128)
end
end Go.K
namespace Go.K
open Go.Ab Go.RowKit Go.Y Go.Proofs
noncomputable section
attribute [local irreducible] zp zk
theorem zu3:zO (fun t=>qv (512 + t)) 128:=Eq.mpr (show zO (fun t=>qv (512 + t)) 128=zO (fun _=>True) 128 by kernel_rfl) (z5 128)
theorem zu4:zO (fun t=>qv (640 + t)) 128:=Eq.mpr (show zO (fun t=>qv (640 + t)) 128=zO (fun _=>True) 128 by kernel_rfl) (z5 128)
theorem zu5:zO (fun t=>qv (768 + t)) 128:=Eq.mpr (show zO (fun t=>qv (768 + t)) 128=zO (fun _=>True) 128 by kernel_rfl) (z5 128)
theorem zu6:zO (fun t=>qv (896 + t)) 128:=Eq.mpr (show zO (fun t=>qv (896 + t)) 128=zO (fun _=>True) 128 by kernel_rfl) (z5 128)
end
end Go.K
