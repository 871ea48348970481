/- xQ runs. No condition. -/
import Derived.Test.YtkllahedaiddgaaGreatDoorKS3
set_option linter.unusedSimpArgs false
set_option linter.unusedVariables false
namespace Go.K
open Go.Ab Go.RowKit Go.Y Go.Proofs
noncomputable section
attribute [local irreducible] zj zi
theorem zCe:zG (fun t=>qt (0 + t)) 128:=Eq.mpr (show zG (fun t=>qt (0 + t)) 128=zG (fun _=>True) 128 by kernel_rfl) (zP 128)
theorem zr3:zG (fun t=>qt (128 + t)) 128:=Eq.mpr (show zG (fun t=>qt (128 + t)) 128=zG (fun _=>True) 128 by kernel_rfl) (zP 128)
theorem zr4:zG (fun t=>qt (256 + t)) 128:=Eq.mpr (show zG (fun t=>qt (256 + t)) 128=zG (fun _=>True) 128 by kernel_rfl) (zP 128)
theorem zr5:zG (fun t=>qt (384 + t)) 128:=Eq.mpr (show zG (fun t=>qt (384 + t)) 128=zG (fun _=>True) 128 by kernel_rfl) (zP 128)
end
end Go.K
namespace Go.K
open Go.Ab Go.RowKit Go.Y Go.Proofs
noncomputable section
attribute [local irreducible] zj zi
theorem zre:zG (fun t=>qt (512 + t)) 128:=Eq.mpr (show zG (fun t=>qt (512 + t)) 128=zG (fun _=>True) 128 by kernel_rfl) (zP 128)
theorem zrf:zG (fun t=>qt (640 + t)) 128:=Eq.mpr (show zG (fun t=>qt (640 + t)) 128=zG (fun _=>True) 128 by kernel_rfl) (zP 128)
theorem zrg:zG (fun t=>qt (768 + t)) 128:=Eq.mpr (show zG (fun t=>qt (768 + t)) 128=zG (fun _=>True) 128 by kernel_rfl) (zP 128)
theorem zrh:zG (fun t=>qt (896 + t)) 128:=Eq.mpr (show zG (fun t=>qt (896 + t)) 128=zG (fun _=>True) 128 by kernel_rfl) (zP 128)
end
end Go.K
