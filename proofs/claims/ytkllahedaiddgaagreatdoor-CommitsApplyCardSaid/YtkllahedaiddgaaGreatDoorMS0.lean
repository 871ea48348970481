/- xa runs. No condition. -/
import Derived.Test.YtkllahedaiddgaaGreatDoorMT0
set_option linter.unusedSimpArgs false
set_option linter.unusedVariables false
namespace Go.K
open Go.Ab Go.RowKit Go.Y Go.Proofs
noncomputable section
attribute [local irreducible] zp zo
theorem zxg:zy (fun t=>j7 (0 + t)) 32:=Eq.mpr (show zy (fun t=>j7 (0 + t)) 32=zy (fun _=>True) 32 by kernel_rfl) (zH 32)
theorem ztv:zy (fun t=>j7 (32 + t)) 32:=Eq.mpr (show zy (fun t=>j7 (32 + t)) 32=zy (fun _=>True) 32 by kernel_rfl) (zH 32)
theorem ztw:zy (fun t=>j7 (64 + t)) 32:=Eq.mpr (show zy (fun t=>j7 (64 + t)) 32=zy (fun _=>True) 32 by kernel_rfl) (zH 32)
theorem ztx:zy (fun t=>j7 (96 + t)) 32:=Eq.mpr (show zy (fun t=>j7 (96 + t)) 32=zy (fun _=>True) 32 by kernel_rfl) (zH 32)
end
end Go.K
namespace Go.K
open Go.Ab Go.RowKit Go.Y Go.Proofs
noncomputable section
attribute [local irreducible] zp zo
theorem zoz:zy (fun t=>j7 (128 + t)) 32:=Eq.mpr (show zy (fun t=>j7 (128 + t)) 32=zy (fun _=>True) 32 by kernel_rfl) (zH 32)
theorem zoA:zy (fun t=>j7 (160 + t)) 32:=Eq.mpr (show zy (fun t=>j7 (160 + t)) 32=zy (fun _=>True) 32 by kernel_rfl) (zH 32)
theorem zoB:zy (fun t=>j7 (192 + t)) 32:=Eq.mpr (show zy (fun t=>j7 (192 + t)) 32=zy (fun _=>True) 32 by kernel_rfl) (zH 32)
theorem zoC:zy (fun t=>j7 (224 + t)) 32:=Eq.mpr (show zy (fun t=>j7 (224 + t)) 32=zy (fun _=>True) 32 by kernel_rfl) (zH 32)
end
end Go.K
