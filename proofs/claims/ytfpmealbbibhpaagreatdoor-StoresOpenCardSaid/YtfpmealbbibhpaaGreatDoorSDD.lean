/- Values of the runs. No condition. An environment. No condition. Closed runs. No condition. Tables of contracts. No condition. -/
import Derived.Test.YtfpmealbbibhpaaGreatDoorSO1
import Derived.Test.YtfpmealbbibhpaaGreatDoorK17
set_option linter.unusedVariables false
set_option maxRecDepth 10000
namespace Go.K
open Go.Ab Go.RowKit Go.Y Go.Proofs
noncomputable section
def RnD (E:KEnv) (f:Nat) (a:List KV) (r:KV):Prop:=callR E (krun E 1000000) 0 f a .e 0 0 (fun x zm _ _=>tK (fzB zm 60 x r))
theorem kconRD {E:KEnv}{f:Nat}{a:List KV}{r:KV}(hE:KOk E) (h:RnD E f a r):KCS E.P f (kcon a r):=kconF_s hE h
def ud0:KV:=(.cons (.int .u32 (.ofNat 0)) (.cons (.ar 4 (.cons (.int .u8 (.ofNat 0)) (.cons (.cons (.int .u32 (.ofNat 0)) (.cons (.int .u64 (.ofNat 0)) .nl)) (.cons (.pk .u8 32 0) .nl))) .te) (.cons (.ar 4 (.cons (.int .u8 (.ofNat 0)) (.cons (.pk .u8 32 0) .nl)) .te) .nl)))
end
end Go.K
set_option maxRecDepth 10000
namespace Go.K
open Go.Ab Go.RowKit Go.Y Go.Proofs
noncomputable section
def ESD0a:KEnv:=E0s.tab [(273,sCompS)]
theorem okESD0a:KOk ESD0a:=ok0s.tab ⟨kcs273,trivial⟩
def ESD0:KEnv:=ESD0a.olo (fun f=>false)
theorem okESD0:KOk ESD0:=okESD0a.olo _
end
end Go.K
set_option maxRecDepth 10000
namespace Go.K
open Go.Ab Go.RowKit Go.Y Go.Proofs
noncomputable section
attribute [local irreducible] krun callR
def a137_0:List KV:=[(.cons (.int .u8 (.ofNat 0)) ud0)]
def r137_0:KV:=(.pk .u8 32 49335936114469730489519566754954389822356494958623753279784912804745734766010)
theorem m137_0:RnD ESD0 137 a137_0 r137_0:=of_eq_true (by kernel_rfl)
theorem c137_0:KCS Tryz.prog 137 (kcon a137_0 r137_0):=kconRD okESD0 m137_0
def a137_1:List KV:=[(.cons (.int .u8 (.ofNat 1)) ud0)]
def r137_1:KV:=(.pk .u8 32 57061694406932542387411442672345176105610110515719100098405207664887830735945)
theorem m137_1:RnD ESD0 137 a137_1 r137_1:=of_eq_true (by kernel_rfl)
theorem c137_1:KCS Tryz.prog 137 (kcon a137_1 r137_1):=kconRD okESD0 m137_1
def a137_2:List KV:=[(.cons (.int .u8 (.ofNat 2)) ud0)]
def r137_2:KV:=(.pk .u8 32 115399759593875984660863525549135131536212492063992582793881239684100504995277)
theorem m137_2:RnD ESD0 137 a137_2 r137_2:=of_eq_true (by kernel_rfl)
theorem c137_2:KCS Tryz.prog 137 (kcon a137_2 r137_2):=kconRD okESD0 m137_2
end
end Go.K
set_option maxRecDepth 10000
namespace Go.K
open Go.Ab Go.RowKit Go.Y Go.Proofs
noncomputable section
def tab137:List (List KV×KV):=[(a137_0,r137_0),(a137_1,r137_1),(a137_2,r137_2)]
theorem PM137:∃ fn,Tryz.prog.funcs[137]?=some fn∧(fn.name == "runtime.NumGoroutine")=false∧fn.body.isNone=false:=⟨Tryz.f137,Tryz.func137,(fnsL.get Tryz.func137).1,by kernel_rfl⟩
theorem kcsT137:KCS Tryz.prog 137 (sMem tab137):=sMem_s PM137 ⟨c137_0,by kernel_rfl,⟨c137_1,by kernel_rfl,⟨c137_2,by kernel_rfl,trivial⟩⟩⟩
end
end Go.K
