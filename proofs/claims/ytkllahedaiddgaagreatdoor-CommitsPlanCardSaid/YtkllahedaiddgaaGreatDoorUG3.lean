/- caissonref16.Node above the records: the runs. No condition. -/
import Derived.Test.YtkllahedaiddgaaGreatDoorPV0
set_option linter.unusedSimpArgs false
set_option linter.unusedVariables false
set_option maxRecDepth 100000
namespace Go.K
open Go.Ab Go.RowKit Go.Y Go.Proofs
noncomputable section
attribute [local instance 10000] gO
theorem zoJ (nd:P6→Nd) (pre:P6→Prop) (n m:Nat) (rc:Nat→Rc) (now:Nat→Nat) (K:KV→Prop):zfG 4 (sNo nd pre) n m rc now 1 0 K=zbf nd pre n m rc now 0 0 4 K 4 0 .te:=by kernel_rfl
theorem zoY (nd:P6→Nd) (pre:P6→Prop) (n m:Nat) (rc:Nat→Rc) (now:Nat→Nat) (K:KV→Prop):zfG 2 (sNo nd pre) n m rc now 1 1 K=zbf nd pre n m rc now 0 1 2 K 2 0 .te:=by kernel_rfl
theorem zoZ (nd:P6→Nd) (pre:P6→Prop) (n m:Nat) (rc:Nat→Rc) (now:Nat→Nat) (K:KV→Prop):zfG 2 (sNo nd pre) n m rc now 2 0 K=zbf nd pre n m rc now 1 0 2 K 2 0 .te:=by kernel_rfl
end
end Go.K
