/- CommitsPlan: the law's contract. No condition. -/
import Derived.Test.YtkllahedaiddgaaGreatDoorLVD
import Derived.Test.YtkllahedaiddgaaGreatDoorUG5
import Derived.Test.YtkllahedaiddgaaGreatDoorPK3
set_option linter.unusedSimpArgs false
set_option linter.unusedVariables false
namespace Go.K
open Go.Ab Go.RowKit Go.Y Go.Proofs
noncomputable section
attribute [local instance 10000] gO
theorem zEI:KCS Tryz.prog 22 (xG [] (.bool true)):=KCS.opn (show @KCS kgL Tryz.prog 22 (xG [] (.bool true)) from zEV)
noncomputable def sL3:zf:=vp (fun x:Sd×Nat=>a3 x.1 x.2) (fun x=>preS x.1∧x.2 < 65536) fun _=>.bool true
theorem kL3:KCS Tryz.prog 3 sL3:=vV ⟨Tryz.f3,Tryz.func3,by kernel_rfl,by kernel_rfl⟩ fun x h=>j3 zEI h.1 h.2
end
end Go.K
