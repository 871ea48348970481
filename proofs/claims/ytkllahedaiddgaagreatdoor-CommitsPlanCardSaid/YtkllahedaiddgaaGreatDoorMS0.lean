/- xC runs. No condition. -/
import Derived.Test.YtkllahedaiddgaaGreatDoorMT0
set_option linter.unusedSimpArgs false
set_option linter.unusedVariables false
namespace Go.K
open Go.Ab Go.RowKit Go.Y Go.Proofs
noncomputable section
attribute [local irreducible] zp zk
theorem zGY:zO (fun t=>qu (0 + t)) 32:=Eq.mpr (show zO (fun t=>qu (0 + t)) 32=zO (fun _=>True) 32 by kernel_rfl) (z5 32)
theorem zBh:zO (fun t=>qu (32 + t)) 32:=Eq.mpr (show zO (fun t=>qu (32 + t)) 32=zO (fun _=>True) 32 by kernel_rfl) (z5 32)
theorem zBi:zO (fun t=>qu (64 + t)) 32:=Eq.mpr (show zO (fun t=>qu (64 + t)) 32=zO (fun _=>True) 32 by kernel_rfl) (z5 32)
theorem zBj:zO (fun t=>qu (96 + t)) 32:=Eq.mpr (show zO (fun t=>qu (96 + t)) 32=zO (fun _=>True) 32 by kernel_rfl) (z5 32)
end
end Go.K
namespace Go.K
open Go.Ab Go.RowKit Go.Y Go.Proofs
noncomputable section
attribute [local irreducible] zp zk
theorem zvx:zO (fun t=>qu (128 + t)) 32:=Eq.mpr (show zO (fun t=>qu (128 + t)) 32=zO (fun _=>True) 32 by kernel_rfl) (z5 32)
theorem zvy:zO (fun t=>qu (160 + t)) 32:=Eq.mpr (show zO (fun t=>qu (160 + t)) 32=zO (fun _=>True) 32 by kernel_rfl) (z5 32)
theorem zvz:zO (fun t=>qu (192 + t)) 32:=Eq.mpr (show zO (fun t=>qu (192 + t)) 32=zO (fun _=>True) 32 by kernel_rfl) (z5 32)
theorem zvA:zO (fun t=>qu (224 + t)) 32:=Eq.mpr (show zO (fun t=>qu (224 + t)) 32=zO (fun _=>True) 32 by kernel_rfl) (z5 32)
end
end Go.K
