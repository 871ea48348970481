/- The plan, closed runs of patterns. No condition. -/
import Derived.Test.YtkllahedaiddgaaGreatDoorPK0
set_option linter.unusedSimpArgs false
set_option linter.unusedVariables false
set_option maxRecDepth 100000
namespace Go.K
open Go.Ab Go.RowKit Go.Y Go.Proofs
noncomputable section
attribute [local instance 10000] gO
theorem zpd:P18 1 0:=by intro P κ W D r n nd sl di ch e mk Q R; kernel_rfl
theorem zpe:P18 1 1:=by intro P κ W D r n nd sl di ch e mk Q R; kernel_rfl
theorem zpf:P18 3 0:=by intro P κ W D r n nd sl di ch e mk Q R; kernel_rfl
theorem zpg:P18 3 1:=by intro P κ W D r n nd sl di ch e mk Q R; kernel_rfl
theorem zph:P18 3 2:=by intro P κ W D r n nd sl di ch e mk Q R; kernel_rfl
theorem zpi:P18 3 3:=by intro P κ W D r n nd sl di ch e mk Q R; kernel_rfl
theorem zpj:P18 4 0:=by intro P κ W D r n nd sl di ch e mk Q R; kernel_rfl
theorem zpk:P18 4 1:=by intro P κ W D r n nd sl di ch e mk Q R; kernel_rfl
theorem zpl:P18 4 2:=by intro P κ W D r n nd sl di ch e mk Q R; kernel_rfl
theorem zpm:P18 4 3:=by intro P κ W D r n nd sl di ch e mk Q R; kernel_rfl
theorem zpn:P18 4 4:=by intro P κ W D r n nd sl di ch e mk Q R; kernel_rfl
theorem zpo:P18 4 5:=by intro P κ W D r n nd sl di ch e mk Q R; kernel_rfl
theorem zpp:P18 4 6:=by intro P κ W D r n nd sl di ch e mk Q R; kernel_rfl
theorem zpq:P18 4 7:=by intro P κ W D r n nd sl di ch e mk Q R; kernel_rfl
theorem zpr:P18 5 0:=by intro P κ W D r n nd sl di ch e mk Q R; kernel_rfl
theorem zps:P18 5 1:=by intro P κ W D r n nd sl di ch e mk Q R; kernel_rfl
theorem zpt:P18 5 2:=by intro P κ W D r n nd sl di ch e mk Q R; kernel_rfl
theorem zpu:P18 5 3:=by intro P κ W D r n nd sl di ch e mk Q R; kernel_rfl
theorem zpv:P18 5 4:=by intro P κ W D r n nd sl di ch e mk Q R; kernel_rfl
theorem zpw:P18 5 5:=by intro P κ W D r n nd sl di ch e mk Q R; kernel_rfl
theorem zpx:P18 5 6:=by intro P κ W D r n nd sl di ch e mk Q R; kernel_rfl
theorem zpy:P18 5 7:=by intro P κ W D r n nd sl di ch e mk Q R; kernel_rfl
theorem zpz:P18 5 8:=by intro P κ W D r n nd sl di ch e mk Q R; kernel_rfl
theorem zpA:P18 5 9:=by intro P κ W D r n nd sl di ch e mk Q R; kernel_rfl
theorem zi0:P18 5 10:=by intro P κ W D r n nd sl di ch e mk Q R; kernel_rfl
theorem zi1:P18 5 11:=by intro P κ W D r n nd sl di ch e mk Q R; kernel_rfl
theorem zi2:P18 5 12:=by intro P κ W D r n nd sl di ch e mk Q R; kernel_rfl
theorem zi3:P18 5 13:=by intro P κ W D r n nd sl di ch e mk Q R; kernel_rfl
theorem zi4:P18 5 14:=by intro P κ W D r n nd sl di ch e mk Q R; kernel_rfl
theorem zpB:P24 1 0:=by intro P κ W F n u Q R; kernel_rfl
theorem zpC:P24 1 1:=by intro P κ W F n u Q R; kernel_rfl
theorem zpD:P24 3 0:=by intro P κ W F n u Q R; kernel_rfl
theorem zpE:P24 3 1:=by intro P κ W F n u Q R; kernel_rfl
theorem zpF:P24 3 2:=by intro P κ W F n u Q R; kernel_rfl
theorem zpG:P24 3 3:=by intro P κ W F n u Q R; kernel_rfl
theorem zpH:P24 4 0:=by intro P κ W F n u Q R; kernel_rfl
theorem zpI:P24 4 1:=by intro P κ W F n u Q R; kernel_rfl
theorem zpJ:P24 4 2:=by intro P κ W F n u Q R; kernel_rfl
theorem zpK:P24 4 3:=by intro P κ W F n u Q R; kernel_rfl
theorem zpL:P24 4 4:=by intro P κ W F n u Q R; kernel_rfl
theorem zpM:P24 4 5:=by intro P κ W F n u Q R; kernel_rfl
theorem zpN:P24 4 6:=by intro P κ W F n u Q R; kernel_rfl
theorem zpO:P24 4 7:=by intro P κ W F n u Q R; kernel_rfl
theorem zpP:P24 5 0:=by intro P κ W F n u Q R; kernel_rfl
theorem zpQ:P24 5 1:=by intro P κ W F n u Q R; kernel_rfl
theorem zpR:P24 5 2:=by intro P κ W F n u Q R; kernel_rfl
theorem zpS:P24 5 3:=by intro P κ W F n u Q R; kernel_rfl
theorem zpT:P24 5 4:=by intro P κ W F n u Q R; kernel_rfl
theorem zpU:P24 5 5:=by intro P κ W F n u Q R; kernel_rfl
theorem zpV:P24 5 6:=by intro P κ W F n u Q R; kernel_rfl
theorem zpW:P24 5 7:=by intro P κ W F n u Q R; kernel_rfl
theorem zpX:P24 5 8:=by intro P κ W F n u Q R; kernel_rfl
theorem zpY:P24 5 9:=by intro P κ W F n u Q R; kernel_rfl
theorem zi5:P24 5 10:=by intro P κ W F n u Q R; kernel_rfl
theorem zi6:P24 5 11:=by intro P κ W F n u Q R; kernel_rfl
theorem zi7:P24 5 12:=by intro P κ W F n u Q R; kernel_rfl
theorem zi8:P24 5 13:=by intro P κ W F n u Q R; kernel_rfl
theorem zi9:P24 5 14:=by intro P κ W F n u Q R; kernel_rfl
theorem zjm:P18 5 15:=by intro P κ W D r n nd sl di ch e mk Q R; kernel_rfl
theorem zp5:P18 8 0:=by intro P κ W D r n nd sl di ch e mk Q R; kernel_rfl
theorem zp6:P18 8 1:=by intro P κ W D r n nd sl di ch e mk Q R; kernel_rfl
theorem zp7:P18 8 2:=by intro P κ W D r n nd sl di ch e mk Q R; kernel_rfl
theorem zp8:P18 8 3:=by intro P κ W D r n nd sl di ch e mk Q R; kernel_rfl
theorem zp9:P18 8 4:=by intro P κ W D r n nd sl di ch e mk Q R; kernel_rfl
theorem zqa:P18 8 5:=by intro P κ W D r n nd sl di ch e mk Q R; kernel_rfl
theorem zqb:P18 8 6:=by intro P κ W D r n nd sl di ch e mk Q R; kernel_rfl
theorem zqc:P18 8 7:=by intro P κ W D r n nd sl di ch e mk Q R; kernel_rfl
theorem zqd:P18 8 8:=by intro P κ W D r n nd sl di ch e mk Q R; kernel_rfl
theorem zqe:P18 8 9:=by intro P κ W D r n nd sl di ch e mk Q R; kernel_rfl
theorem zjn:P18 8 10:=by intro P κ W D r n nd sl di ch e mk Q R; kernel_rfl
theorem zjo:P18 8 11:=by intro P κ W D r n nd sl di ch e mk Q R; kernel_rfl
theorem zjp:P18 8 12:=by intro P κ W D r n nd sl di ch e mk Q R; kernel_rfl
theorem zjq:P18 8 13:=by intro P κ W D r n nd sl di ch e mk Q R; kernel_rfl
theorem zjr:P18 8 14:=by intro P κ W D r n nd sl di ch e mk Q R; kernel_rfl
theorem zjs:P18 8 15:=by intro P κ W D r n nd sl di ch e mk Q R; kernel_rfl
theorem zjt:P18 8 16:=by intro P κ W D r n nd sl di ch e mk Q R; kernel_rfl
theorem zju:P18 8 17:=by intro P κ W D r n nd sl di ch e mk Q R; kernel_rfl
theorem zjv:P18 8 18:=by intro P κ W D r n nd sl di ch e mk Q R; kernel_rfl
theorem zjw:P18 8 19:=by intro P κ W D r n nd sl di ch e mk Q R; kernel_rfl
theorem zjx:P18 8 20:=by intro P κ W D r n nd sl di ch e mk Q R; kernel_rfl
theorem zjy:P18 8 21:=by intro P κ W D r n nd sl di ch e mk Q R; kernel_rfl
theorem zjz:P24 5 15:=by intro P κ W F n u Q R; kernel_rfl
theorem zqf:P24 8 0:=by intro P κ W F n u Q R; kernel_rfl
theorem zqg:P24 8 1:=by intro P κ W F n u Q R; kernel_rfl
theorem zqh:P24 8 2:=by intro P κ W F n u Q R; kernel_rfl
theorem zqi:P24 8 3:=by intro P κ W F n u Q R; kernel_rfl
theorem zqj:P24 8 4:=by intro P κ W F n u Q R; kernel_rfl
theorem zqk:P24 8 5:=by intro P κ W F n u Q R; kernel_rfl
theorem zql:P24 8 6:=by intro P κ W F n u Q R; kernel_rfl
theorem zqm:P24 8 7:=by intro P κ W F n u Q R; kernel_rfl
theorem zqn:P24 8 8:=by intro P κ W F n u Q R; kernel_rfl
theorem zqo:P24 8 9:=by intro P κ W F n u Q R; kernel_rfl
theorem zjA:P24 8 10:=by intro P κ W F n u Q R; kernel_rfl
theorem zjB:P24 8 11:=by intro P κ W F n u Q R; kernel_rfl
theorem zjC:P24 8 12:=by intro P κ W F n u Q R; kernel_rfl
theorem zjD:P24 8 13:=by intro P κ W F n u Q R; kernel_rfl
theorem zjE:P24 8 14:=by intro P κ W F n u Q R; kernel_rfl
theorem zjF:P24 8 15:=by intro P κ W F n u Q R; kernel_rfl
theorem zjG:P24 8 16:=by intro P κ W F n u Q R; kernel_rfl
theorem zjH:P24 8 17:=by intro P κ W F n u Q R; kernel_rfl
theorem zjI:P24 8 18:=by intro P κ W F n u Q R; kernel_rfl
theorem zjJ:P24 8 19:=by intro P κ W F n u Q R; kernel_rfl
theorem zjK:P24 8 20:=by intro P κ W F n u Q R; kernel_rfl
theorem zjL:P24 8 21:=by intro P κ W F n u Q R; kernel_rfl
end
end Go.K
