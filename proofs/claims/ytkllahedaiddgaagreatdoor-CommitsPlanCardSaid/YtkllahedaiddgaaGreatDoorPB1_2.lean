/- The plan, closed runs of patterns. No condition. -/
import Derived.Test.YtkllahedaiddgaaGreatDoorPK0
set_option linter.unusedSimpArgs false
set_option linter.unusedVariables false
set_option maxRecDepth 100000
namespace Go.K
open Go.Ab Go.RowKit Go.Y Go.Proofs
noncomputable section
attribute [local instance 10000] gO
theorem zlY:P18 8 22:=by intro P κ W D r n nd sl di ch e mk Q R; kernel_rfl
theorem zlZ:P18 8 23:=by intro P κ W D r n nd sl di ch e mk Q R; kernel_rfl
theorem zl0:P18 8 24:=by intro P κ W D r n nd sl di ch e mk Q R; kernel_rfl
theorem zl1:P18 8 25:=by intro P κ W D r n nd sl di ch e mk Q R; kernel_rfl
theorem zl2:P18 8 26:=by intro P κ W D r n nd sl di ch e mk Q R; kernel_rfl
theorem zl3:P18 8 27:=by intro P κ W D r n nd sl di ch e mk Q R; kernel_rfl
theorem zl4:P18 8 28:=by intro P κ W D r n nd sl di ch e mk Q R; kernel_rfl
theorem zl5:P18 8 29:=by intro P κ W D r n nd sl di ch e mk Q R; kernel_rfl
theorem zl6:P18 8 30:=by intro P κ W D r n nd sl di ch e mk Q R; kernel_rfl
theorem zl7:P18 8 31:=by intro P κ W D r n nd sl di ch e mk Q R; kernel_rfl
theorem zrf:P18 9 0:=by intro P κ W D r n nd sl di ch e mk Q R; kernel_rfl
theorem zrg:P18 9 1:=by intro P κ W D r n nd sl di ch e mk Q R; kernel_rfl
theorem zrh:P18 9 2:=by intro P κ W D r n nd sl di ch e mk Q R; kernel_rfl
theorem zri:P18 9 3:=by intro P κ W D r n nd sl di ch e mk Q R; kernel_rfl
theorem zrj:P18 9 4:=by intro P κ W D r n nd sl di ch e mk Q R; kernel_rfl
theorem zrk:P18 9 5:=by intro P κ W D r n nd sl di ch e mk Q R; kernel_rfl
theorem zrl:P18 9 6:=by intro P κ W D r n nd sl di ch e mk Q R; kernel_rfl
theorem zrm:P18 9 7:=by intro P κ W D r n nd sl di ch e mk Q R; kernel_rfl
theorem zrn:P18 9 8:=by intro P κ W D r n nd sl di ch e mk Q R; kernel_rfl
theorem zro:P18 9 9:=by intro P κ W D r n nd sl di ch e mk Q R; kernel_rfl
theorem zl8:P18 9 10:=by intro P κ W D r n nd sl di ch e mk Q R; kernel_rfl
theorem zl9:P24 8 22:=by intro P κ W F n u Q R; kernel_rfl
theorem zma:P24 8 23:=by intro P κ W F n u Q R; kernel_rfl
theorem zmb:P24 8 24:=by intro P κ W F n u Q R; kernel_rfl
theorem zmc:P24 8 25:=by intro P κ W F n u Q R; kernel_rfl
theorem zmd:P24 8 26:=by intro P κ W F n u Q R; kernel_rfl
theorem zme:P24 8 27:=by intro P κ W F n u Q R; kernel_rfl
theorem zmf:P24 8 28:=by intro P κ W F n u Q R; kernel_rfl
theorem zmg:P24 8 29:=by intro P κ W F n u Q R; kernel_rfl
theorem zmh:P24 8 30:=by intro P κ W F n u Q R; kernel_rfl
theorem zmi:P24 8 31:=by intro P κ W F n u Q R; kernel_rfl
theorem zrp:P24 9 0:=by intro P κ W F n u Q R; kernel_rfl
theorem zrq:P24 9 1:=by intro P κ W F n u Q R; kernel_rfl
theorem zrr:P24 9 2:=by intro P κ W F n u Q R; kernel_rfl
theorem zrs:P24 9 3:=by intro P κ W F n u Q R; kernel_rfl
theorem zrt:P24 9 4:=by intro P κ W F n u Q R; kernel_rfl
theorem zru:P24 9 5:=by intro P κ W F n u Q R; kernel_rfl
theorem zrv:P24 9 6:=by intro P κ W F n u Q R; kernel_rfl
theorem zrw:P24 9 7:=by intro P κ W F n u Q R; kernel_rfl
theorem zrx:P24 9 8:=by intro P κ W F n u Q R; kernel_rfl
theorem zry:P24 9 9:=by intro P κ W F n u Q R; kernel_rfl
theorem zmj:P24 9 10:=by intro P κ W F n u Q R; kernel_rfl
theorem zmu:P18 9 11:=by intro P κ W D r n nd sl di ch e mk Q R; kernel_rfl
theorem zmv:P18 9 12:=by intro P κ W D r n nd sl di ch e mk Q R; kernel_rfl
theorem zmw:P18 9 13:=by intro P κ W D r n nd sl di ch e mk Q R; kernel_rfl
theorem zmx:P18 9 14:=by intro P κ W D r n nd sl di ch e mk Q R; kernel_rfl
theorem zmy:P18 9 15:=by intro P κ W D r n nd sl di ch e mk Q R; kernel_rfl
theorem zmz:P18 9 16:=by intro P κ W D r n nd sl di ch e mk Q R; kernel_rfl
theorem zmA:P18 9 17:=by intro P κ W D r n nd sl di ch e mk Q R; kernel_rfl
theorem zmB:P18 9 18:=by intro P κ W D r n nd sl di ch e mk Q R; kernel_rfl
theorem zmC:P18 9 19:=by intro P κ W D r n nd sl di ch e mk Q R; kernel_rfl
theorem zmD:P18 9 20:=by intro P κ W D r n nd sl di ch e mk Q R; kernel_rfl
theorem zmE:P18 9 21:=by intro P κ W D r n nd sl di ch e mk Q R; kernel_rfl
theorem zmF:P18 9 22:=by intro P κ W D r n nd sl di ch e mk Q R; kernel_rfl
theorem zmG:P18 9 23:=by intro P κ W D r n nd sl di ch e mk Q R; kernel_rfl
theorem zmH:P18 9 24:=by intro P κ W D r n nd sl di ch e mk Q R; kernel_rfl
theorem zmI:P18 9 25:=by intro P κ W D r n nd sl di ch e mk Q R; kernel_rfl
theorem zmJ:P18 9 26:=by intro P κ W D r n nd sl di ch e mk Q R; kernel_rfl
theorem zmK:P18 9 27:=by intro P κ W D r n nd sl di ch e mk Q R; kernel_rfl
theorem zmL:P18 9 28:=by intro P κ W D r n nd sl di ch e mk Q R; kernel_rfl
theorem zmM:P18 9 29:=by intro P κ W D r n nd sl di ch e mk Q R; kernel_rfl
theorem zmN:P18 9 30:=by intro P κ W D r n nd sl di ch e mk Q R; kernel_rfl
theorem zmO:P24 9 11:=by intro P κ W F n u Q R; kernel_rfl
theorem zmP:P24 9 12:=by intro P κ W F n u Q R; kernel_rfl
theorem zmQ:P24 9 13:=by intro P κ W F n u Q R; kernel_rfl
theorem zmR:P24 9 14:=by intro P κ W F n u Q R; kernel_rfl
theorem zmS:P24 9 15:=by intro P κ W F n u Q R; kernel_rfl
theorem zmT:P24 9 16:=by intro P κ W F n u Q R; kernel_rfl
theorem zmU:P24 9 17:=by intro P κ W F n u Q R; kernel_rfl
theorem zmV:P24 9 18:=by intro P κ W F n u Q R; kernel_rfl
theorem zmW:P24 9 19:=by intro P κ W F n u Q R; kernel_rfl
theorem zmX:P24 9 20:=by intro P κ W F n u Q R; kernel_rfl
theorem zmY:P24 9 21:=by intro P κ W F n u Q R; kernel_rfl
theorem zmZ:P24 9 22:=by intro P κ W F n u Q R; kernel_rfl
theorem zm4:P24 9 23:=by intro P κ W F n u Q R; kernel_rfl
theorem zm5:P24 9 24:=by intro P κ W F n u Q R; kernel_rfl
theorem zm6:P24 9 25:=by intro P κ W F n u Q R; kernel_rfl
theorem zm7:P24 9 26:=by intro P κ W F n u Q R; kernel_rfl
theorem zm8:P24 9 27:=by intro P κ W F n u Q R; kernel_rfl
theorem zm9:P24 9 28:=by intro P κ W F n u Q R; kernel_rfl
theorem zna:P24 9 29:=by intro P κ W F n u Q R; kernel_rfl
theorem znb:P24 9 30:=by intro P κ W F n u Q R; kernel_rfl
end
end Go.K
