/- The plan, closed runs of patterns. No condition. -/
import Derived.Test.YtkllahedaiddgaaGreatDoorPK0
set_option linter.unusedSimpArgs false
set_option linter.unusedVariables false
set_option maxRecDepth 100000
namespace Go.K
open Go.Ab Go.RowKit Go.Y Go.Proofs
noncomputable section
attribute [local instance 10000] gO
theorem zks:P18 9 31:=by intro P κ W D r n nd sl di ch e mk Q R; kernel_rfl
theorem zkt:P18 9 32:=by intro P κ W D r n nd sl di ch e mk Q R; kernel_rfl
theorem zku:P18 9 33:=by intro P κ W D r n nd sl di ch e mk Q R; kernel_rfl
theorem zkv:P18 9 34:=by intro P κ W D r n nd sl di ch e mk Q R; kernel_rfl
theorem zkw:P18 9 35:=by intro P κ W D r n nd sl di ch e mk Q R; kernel_rfl
theorem zkx:P18 9 36:=by intro P κ W D r n nd sl di ch e mk Q R; kernel_rfl
theorem zky:P18 9 37:=by intro P κ W D r n nd sl di ch e mk Q R; kernel_rfl
theorem zkz:P18 9 38:=by intro P κ W D r n nd sl di ch e mk Q R; kernel_rfl
theorem zkA:P18 9 39:=by intro P κ W D r n nd sl di ch e mk Q R; kernel_rfl
theorem zkB:P18 9 40:=by intro P κ W D r n nd sl di ch e mk Q R; kernel_rfl
theorem zkC:P18 9 41:=by intro P κ W D r n nd sl di ch e mk Q R; kernel_rfl
theorem zkD:P18 9 42:=by intro P κ W D r n nd sl di ch e mk Q R; kernel_rfl
theorem zkE:P18 9 43:=by intro P κ W D r n nd sl di ch e mk Q R; kernel_rfl
theorem zkF:P18 9 44:=by intro P κ W D r n nd sl di ch e mk Q R; kernel_rfl
theorem zkG:P18 9 45:=by intro P κ W D r n nd sl di ch e mk Q R; kernel_rfl
theorem zkH:P18 9 46:=by intro P κ W D r n nd sl di ch e mk Q R; kernel_rfl
theorem zkI:P18 9 47:=by intro P κ W D r n nd sl di ch e mk Q R; kernel_rfl
theorem zkJ:P18 9 48:=by intro P κ W D r n nd sl di ch e mk Q R; kernel_rfl
theorem zkK:P18 9 49:=by intro P κ W D r n nd sl di ch e mk Q R; kernel_rfl
theorem zkL:P24 9 31:=by intro P κ W F n u Q R; kernel_rfl
theorem zkM:P24 9 32:=by intro P κ W F n u Q R; kernel_rfl
theorem zkN:P24 9 33:=by intro P κ W F n u Q R; kernel_rfl
theorem zkO:P24 9 34:=by intro P κ W F n u Q R; kernel_rfl
theorem zkP:P24 9 35:=by intro P κ W F n u Q R; kernel_rfl
theorem zkQ:P24 9 36:=by intro P κ W F n u Q R; kernel_rfl
theorem zkR:P24 9 37:=by intro P κ W F n u Q R; kernel_rfl
theorem zkS:P24 9 38:=by intro P κ W F n u Q R; kernel_rfl
theorem zkT:P24 9 39:=by intro P κ W F n u Q R; kernel_rfl
theorem zkU:P24 9 40:=by intro P κ W F n u Q R; kernel_rfl
theorem zkV:P24 9 41:=by intro P κ W F n u Q R; kernel_rfl
theorem zkW:P24 9 42:=by intro P κ W F n u Q R; kernel_rfl
theorem zkX:P24 9 43:=by intro P κ W F n u Q R; kernel_rfl
theorem zkY:P24 9 44:=by intro P κ W F n u Q R; kernel_rfl
theorem zkZ:P24 9 45:=by intro P κ W F n u Q R; kernel_rfl
theorem zk0:P24 9 46:=by intro P κ W F n u Q R; kernel_rfl
theorem zk1:P24 9 47:=by intro P κ W F n u Q R; kernel_rfl
theorem zk2:P24 9 48:=by intro P κ W F n u Q R; kernel_rfl
theorem zk3:P24 9 49:=by intro P κ W F n u Q R; kernel_rfl
theorem zjM:P18 9 50:=by intro P κ W D r n nd sl di ch e mk Q R; kernel_rfl
theorem zjN:P18 9 51:=by intro P κ W D r n nd sl di ch e mk Q R; kernel_rfl
theorem zjO:P18 9 52:=by intro P κ W D r n nd sl di ch e mk Q R; kernel_rfl
theorem zjP:P18 9 53:=by intro P κ W D r n nd sl di ch e mk Q R; kernel_rfl
theorem zjQ:P18 9 54:=by intro P κ W D r n nd sl di ch e mk Q R; kernel_rfl
theorem zjR:P18 9 55:=by intro P κ W D r n nd sl di ch e mk Q R; kernel_rfl
theorem zjS:P18 9 56:=by intro P κ W D r n nd sl di ch e mk Q R; kernel_rfl
theorem zjT:P18 9 57:=by intro P κ W D r n nd sl di ch e mk Q R; kernel_rfl
theorem zjU:P18 9 58:=by intro P κ W D r n nd sl di ch e mk Q R; kernel_rfl
theorem zjV:P18 9 59:=by intro P κ W D r n nd sl di ch e mk Q R; kernel_rfl
theorem zjW:P18 9 60:=by intro P κ W D r n nd sl di ch e mk Q R; kernel_rfl
theorem zjX:P18 9 61:=by intro P κ W D r n nd sl di ch e mk Q R; kernel_rfl
theorem zjY:P18 9 62:=by intro P κ W D r n nd sl di ch e mk Q R; kernel_rfl
theorem zjZ:P18 9 63:=by intro P κ W D r n nd sl di ch e mk Q R; kernel_rfl
theorem zj0:P24 9 50:=by intro P κ W F n u Q R; kernel_rfl
theorem zj1:P24 9 51:=by intro P κ W F n u Q R; kernel_rfl
theorem zj2:P24 9 52:=by intro P κ W F n u Q R; kernel_rfl
theorem zj3:P24 9 53:=by intro P κ W F n u Q R; kernel_rfl
theorem zj4:P24 9 54:=by intro P κ W F n u Q R; kernel_rfl
theorem zj5:P24 9 55:=by intro P κ W F n u Q R; kernel_rfl
theorem zj6:P24 9 56:=by intro P κ W F n u Q R; kernel_rfl
theorem zj7:P24 9 57:=by intro P κ W F n u Q R; kernel_rfl
theorem zj8:P24 9 58:=by intro P κ W F n u Q R; kernel_rfl
theorem zj9:P24 9 59:=by intro P κ W F n u Q R; kernel_rfl
theorem zka:P24 9 60:=by intro P κ W F n u Q R; kernel_rfl
theorem zkb:P24 9 61:=by intro P κ W F n u Q R; kernel_rfl
theorem zkc:P24 9 62:=by intro P κ W F n u Q R; kernel_rfl
theorem zkd:P24 9 63:=by intro P κ W F n u Q R; kernel_rfl
end
end Go.K
