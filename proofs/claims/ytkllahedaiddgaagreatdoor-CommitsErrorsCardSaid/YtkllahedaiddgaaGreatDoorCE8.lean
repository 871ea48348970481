/- CommitsErrors: the law's contract. No condition. -/
import Derived.Test.YtkllahedaiddgaaGreatDoorLA2_0
import Derived.Test.YtkllahedaiddgaaGreatDoorLVD
set_option linter.unusedVariables false
namespace Go.K
open Go.Ab Go.RowKit Go.Y Go.Proofs
noncomputable section
attribute [local instance 10000] gO
theorem zAq:KCS Tryz.prog 22 (xL [] (.bool true)):=KCS.opn (show @KCS kgL Tryz.prog 22 (xL [] (.bool true)) from zCJ)
abbrev A5:=Sd×Nat×Un×Int×Int×Int
noncomputable def s5:zg:=v3 (fun x:A5=>a5 x.1 x.2.1 x.2.2.1 x.2.2.2.1 x.2.2.2.2.1 x.2.2.2.2.2) (fun x=>preS x.1∧x.2.1 < 256∧x.2.2.1.nd.wl∧x.2.2.1.nd.wb) fun _=>.bool true
theorem zEp:KCS Tryz.prog 5 s5:=qs ⟨Tryz.f5,Tryz.func5,by kernel_rfl,by kernel_rfl⟩ fun x h=>j5 zAq h.1 h.2.1 h.2.2.1 h.2.2.2
end
end Go.K
