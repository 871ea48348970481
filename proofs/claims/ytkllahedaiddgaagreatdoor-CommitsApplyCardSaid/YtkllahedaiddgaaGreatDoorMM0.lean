/- xa runs. No condition. -/
import Derived.Test.YtkllahedaiddgaaGreatDoorMT0
set_option linter.unusedSimpArgs false
set_option linter.unusedVariables false
namespace Go.K
open Go.Ab Go.RowKit Go.Y Go.Proofs
noncomputable section
attribute [local irreducible] zp zo
theorem zxp:zy (fun t=>j8 (0 + t)) 128:=Eq.mpr (show zy (fun t=>j8 (0 + t)) 128=zy (fun _=>True) 128 by kernel_rfl) (zH 128)
theorem zoX:zy (fun t=>j8 (128 + t)) 128:=Eq.mpr (show zy (fun t=>j8 (128 + t)) 128=zy (fun _=>True) 128 by kernel_rfl) (zH 128)
theorem zoY:zy (fun t=>j8 (256 + t)) 128:=Eq.mpr (show zy (fun t=>j8 (256 + t)) 128=zy (fun _=>True) 128 by kernel_rfl) (zH 128)
theorem zoZ:zy (fun t=>j8 (384 + t)) 128:=Eq.mpr (show zy (fun t=>j8 (384 + t)) 128=zy (fun _=>True) 128 by kernel_rfl) (zH 128)
end
end Go.K
namespace Go.K
open Go.Ab Go.RowKit Go.Y Go.Proofs
noncomputable section
attribute [local irreducible] zp zo
theorem zom:zy (fun t=>j8 (512 + t)) 128:=Eq.mpr (show zy (fun t=>j8 (512 + t)) 128=zy (fun _=>True) 128 by kernel_rfl) (zH 128)
theorem zon:zy (fun t=>j8 (640 + t)) 128:=Eq.mpr (show zy (fun t=>j8 (640 + t)) 128=zy (fun _=>True) 128 by kernel_rfl) (zH 128)
theorem zoo:zy (fun t=>j8 (768 + t)) 128:=Eq.mpr (show zy (fun t=>j8 (768 + t)) 128=zy (fun _=>True) 128 by kernel_rfl) (zH 128)
theorem zop:zy (fun t=>j8 (896 + t)) 128:=Eq.mpr (show zy (fun t=>j8 (896 + t)) 128=zy (fun _=>True) 128 by kernel_rfl) (zH 128)
end
end Go.K
