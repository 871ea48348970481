/- xQ runs. No condition. -/
import Derived.Test.YtkllahedaiddgaaGreatDoorKS3
set_option linter.unusedSimpArgs false
set_option linter.unusedVariables false
namespace Go.K
open Go.Ab Go.RowKit Go.Y Go.Proofs
noncomputable section
attribute [local irreducible] zj zi
theorem zBL:zG (fun t=>qs (0 + t)) 32:=Eq.mpr (show zG (fun t=>qs (0 + t)) 32=zG (fun _=>True) 32 by kernel_rfl) (zP 32)
theorem zwi:zG (fun t=>qs (32 + t)) 32:=Eq.mpr (show zG (fun t=>qs (32 + t)) 32=zG (fun _=>True) 32 by kernel_rfl) (zP 32)
theorem zwj:zG (fun t=>qs (64 + t)) 32:=Eq.mpr (show zG (fun t=>qs (64 + t)) 32=zG (fun _=>True) 32 by kernel_rfl) (zP 32)
theorem zwk:zG (fun t=>qs (96 + t)) 32:=Eq.mpr (show zG (fun t=>qs (96 + t)) 32=zG (fun _=>True) 32 by kernel_rfl) (zP 32)
end
end Go.K
namespace Go.K
open Go.Ab Go.RowKit Go.Y Go.Proofs
noncomputable section
attribute [local irreducible] zj zi
theorem zrl:zG (fun t=>qs (128 + t)) 32:=Eq.mpr (show zG (fun t=>qs (128 + t)) 32=zG (fun _=>True) 32 by kernel_rfl) (zP 32)
theorem zrm:zG (fun t=>qs (160 + t)) 32:=Eq.mpr (show zG (fun t=>qs (160 + t)) 32=zG (fun _=>True) 32 by kernel_rfl) (zP 32)
theorem zrn:zG (fun t=>qs (192 + t)) 32:=Eq.mpr (show zG (fun t=>qs (192 + t)) 32=zG (fun _=>True) 32 by kernel_rfl) (zP 32)
theorem zro:zG (fun t=>qs (224 + t)) 32:=Eq.mpr (show zG (fun t=>qs (224 + t)) 32=zG (fun _=>True) 32 by kernel_rfl) (zP 32)
end
end Go.K
