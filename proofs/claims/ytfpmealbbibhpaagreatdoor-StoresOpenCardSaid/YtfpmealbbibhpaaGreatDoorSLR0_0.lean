/- Closed runs. No condition. Closed runs. No condition. Closed runs. No condition. Tables of contracts. No condition. An environment. No condition. -/
import Derived.Test.YtfpmealbbibhpaaGreatDoorSLD
set_option linter.unusedVariables false
set_option maxRecDepth 10000
namespace Go.K
open Go.Ab Go.RowKit Go.Y Go.Proofs
noncomputable section
attribute [local irreducible] krun callR
def a301_0:List KV:=[ul40]
def r301_0:KV:=(.ar 11 (.pk .u8 16 0) (.tn ul40 (.tn (.pk .u8 16 244692293552090773766680630154488570858) (.tn (.pk .u8 16 61132672119512215617363851101547982835) .te .te .te .te) (.tn (.pk .u8 16 51218315296579856550623947364140516558) .te .te .te .te) .te .te) (.tn (.pk .u8 16 58491611582941221459543738777256174723) (.tn (.pk .u8 16 191207780473449731179334106468058315653) .te .te .te .te) (.tn (.pk .u8 16 192979569781932640817133899787071701187) .te .te .te .te) .te .te) (.tn (.pk .u8 16 115385780611071547392706572118041614586) (.tn (.pk .u8 16 8958250179811866084448752772281634405) .te .te .te .te) .te .te .te) (.tn (.pk .u8 16 80377965771783626294549381498756223745) (.tn (.pk .u8 16 83862117454716127209800860701131994198) .te .te .te .te) .te .te .te)))
theorem m301_0:RunL ESL0 301 a301_0 r301_0:=of_eq_true (by kernel_rfl)
theorem c301_0:KCS Tryz.prog 301 (kcon a301_0 r301_0):=kconRL okESL0 m301_0
def a233_0:List KV:=[(.ro false true .sc 0 32 ul41),(.ro false true .sc 0 48 (.pk .u8 48 26464969476652766383992873185600320893435902743876880075764690502436910089532100723981241347275582189081289826500608)),ul29]
def r233_0:KV:=ul2
theorem m233_0:RunL ESL0 233 a233_0 r233_0:=of_eq_true (by kernel_rfl)
theorem c233_0:KCS Tryz.prog 233 (kcon a233_0 r233_0):=kconRL okESL0 m233_0
def a116_0:List KV:=[(.pk .u8 32 0)]
def r116_0:KV:=ul42
theorem m116_0:RunL ESL0 116 a116_0 r116_0:=of_eq_true (by kernel_rfl)
theorem c116_0:KCS Tryz.prog 116 (kcon a116_0 r116_0):=kconRL okESL0 m116_0
def a73_0:List KV:=[ul38,ul8,ul12,ul29]
def r73_0:KV:=(.tup (.cons ul48 (.cons ul8 ul9)))
theorem m73_0:RubL ESL0 73 a73_0 r73_0:=of_eq_true (by kernel_rfl)
theorem c73_0:KCSb Tryz.prog 73 (kcon a73_0 r73_0):=kconRbL okESL0 m73_0
def a73_1:List KV:=[ul48,ul8,(.cons ul11 ul23),ul46]
def r73_1:KV:=(.tup (.cons ul49 (.cons ul8 ul9)))
theorem m73_1:RubL ESL0 73 a73_1 r73_1:=of_eq_true (by kernel_rfl)
theorem c73_1:KCSb Tryz.prog 73 (kcon a73_1 r73_1):=kconRbL okESL0 m73_1
def a15_0:List KV:=[ul48,(.cons ul5 (.cons ul6 ul23))]
def r15_0:KV:=(.tup (.cons ul50 (.cons ul28 ul9)))
theorem m15_0:RubL ESL0 15 a15_0 r15_0:=of_eq_true (by kernel_rfl)
theorem c15_0:KCSb Tryz.prog 15 (kcon a15_0 r15_0):=kconRbL okESL0 m15_0
def a81_0:List KV:=[ul4,ul8,(.ro true true .sc 0 32 ul20)]
def r81_0:KV:=(.tup (.cons ul22 ul9))
theorem m81_0:RubL ESL0 81 a81_0 r81_0:=of_eq_true (by kernel_rfl)
theorem c81_0:KCSb Tryz.prog 81 (kcon a81_0 r81_0):=kconRbL okESL0 m81_0
def a81_1:List KV:=[ul22,ul8,(.ro true true .sc 0 32 ul45)]
def r81_1:KV:=(.tup (.cons (.cons ul1 (.cons ul24 (.cons (.ro true true .sc 0 1 (.ar 1 .nilp (.tn (.ref true (.arr 64 .sc) (.ar 64 .nilp (.tn (.ref true (.cons .sc (.cons .sc (.cons .sc (.cons .sc .nl)))) (.cons ul2 (.cons (.ro true false .sc 0 32 ul45) (.cons (.int .i64 (.ofNat 2)) (.cons ul21 .nl))))) .te ul3 .te .te))) .te .te .te .te))) .nl))) ul9))
theorem m81_1:RubL ESL0 81 a81_1 r81_1:=of_eq_true (by kernel_rfl)
theorem c81_1:KCSb Tryz.prog 81 (kcon a81_1 r81_1):=kconRbL okESL0 m81_1
def a81_2:List KV:=[ul22,ul24,(.ro true true .sc 0 185 ul25)]
def r81_2:KV:=(.tup (.cons ul27 ul9))
theorem m81_2:RubL ESL0 81 a81_2 r81_2:=of_eq_true (by kernel_rfl)
theorem c81_2:KCSb Tryz.prog 81 (kcon a81_2 r81_2):=kconRbL okESL0 m81_2
def a30_0:List KV:=[ul27,ul8]
def r30_0:KV:=(.tup (.cons ul34 ul9))
theorem m30_0:RubL ESL0 30 a30_0 r30_0:=of_eq_true (by kernel_rfl)
theorem c30_0:KCSb Tryz.prog 30 (kcon a30_0 r30_0):=kconRbL okESL0 m30_0
end
end Go.K
set_option maxRecDepth 10000
namespace Go.K
open Go.Ab Go.RowKit Go.Y Go.Proofs
noncomputable section
attribute [local irreducible] krun callR
def a32_0:List KV:=[ul0,ul4,ul7]
def r32_0:KV:=ul19
theorem m32_0:RubL ESL0 32 a32_0 r32_0:=of_eq_true (by kernel_rfl)
theorem c32_0:KCSb Tryz.prog 32 (kcon a32_0 r32_0):=kconRbL okESL0 m32_0
def a32_1:List KV:=[ul0,ul22,(.cons ul5 (.cons ul6 ul23))]
def r32_1:KV:=ul19
theorem m32_1:RubL ESL0 32 a32_1 r32_1:=of_eq_true (by kernel_rfl)
theorem c32_1:KCSb Tryz.prog 32 (kcon a32_1 r32_1):=kconRbL okESL0 m32_1
def a32_2:List KV:=[ul0,ul27,ul28]
def r32_2:KV:=ul32
theorem m32_2:RubL ESL0 32 a32_2 r32_2:=of_eq_true (by kernel_rfl)
theorem c32_2:KCSb Tryz.prog 32 (kcon a32_2 r32_2):=kconRbL okESL0 m32_2
def a32_3:List KV:=[ul0,ul34,ul28]
def r32_3:KV:=ul32
theorem m32_3:RubL ESL0 32 a32_3 r32_3:=of_eq_true (by kernel_rfl)
theorem c32_3:KCSb Tryz.prog 32 (kcon a32_3 r32_3):=kconRbL okESL0 m32_3
end
end Go.K
set_option maxRecDepth 10000
namespace Go.K
open Go.Ab Go.RowKit Go.Y Go.Proofs
noncomputable section
attribute [local irreducible] krun callR
def a32_4:List KV:=[ul0,ul35,ul28]
def r32_4:KV:=ul32
theorem m32_4:RubL ESL0 32 a32_4 r32_4:=of_eq_true (by kernel_rfl)
theorem c32_4:KCSb Tryz.prog 32 (kcon a32_4 r32_4):=kconRbL okESL0 m32_4
def a130_0:List KV:=[ul48]
def r130_0:KV:=(.tup (.cons ul39 ul9))
theorem m130_0:RubL ESL0 130 a130_0 r130_0:=of_eq_true (by kernel_rfl)
theorem c130_0:KCSb Tryz.prog 130 (kcon a130_0 r130_0):=kconRbL okESL0 m130_0
def a141_0:List KV:=[ul34,ul8,ul0]
def r141_0:KV:=(.tup (.cons ul35 ul9))
theorem m141_0:RubL ESL0 141 a141_0 r141_0:=of_eq_true (by kernel_rfl)
theorem c141_0:KCSb Tryz.prog 141 (kcon a141_0 r141_0):=kconRbL okESL0 m141_0
end
end Go.K
set_option maxRecDepth 10000
namespace Go.K
open Go.Ab Go.RowKit Go.Y Go.Proofs
noncomputable section
def tab301:List (List KV×KV):=[(a301_0,r301_0)]
theorem PM301:∃ fn,Tryz.prog.funcs[301]?=some fn∧(fn.name == "runtime.NumGoroutine")=false∧fn.body.isNone=false:=⟨Tryz.f301,Tryz.func301,(fnsL.get Tryz.func301).1,by kernel_rfl⟩
theorem kcsT301:KCS Tryz.prog 301 (sMem tab301):=sMem_s PM301 ⟨c301_0,by kernel_rfl,trivial⟩
def tab233:List (List KV×KV):=[(a233_0,r233_0)]
theorem PM233:∃ fn,Tryz.prog.funcs[233]?=some fn∧(fn.name == "runtime.NumGoroutine")=false∧fn.body.isNone=false:=⟨Tryz.f233,Tryz.func233,(fnsL.get Tryz.func233).1,by kernel_rfl⟩
theorem kcsT233:KCS Tryz.prog 233 (sMem tab233):=sMem_s PM233 ⟨c233_0,by kernel_rfl,trivial⟩
def tab116:List (List KV×KV):=[(a116_0,r116_0)]
theorem PM116:∃ fn,Tryz.prog.funcs[116]?=some fn∧(fn.name == "runtime.NumGoroutine")=false∧fn.body.isNone=false:=⟨Tryz.f116,Tryz.func116,(fnsL.get Tryz.func116).1,by kernel_rfl⟩
theorem kcsT116:KCS Tryz.prog 116 (sMem tab116):=sMem_s PM116 ⟨c116_0,by kernel_rfl,trivial⟩
def tab73:List (List KV×KV):=[(a73_0,r73_0),(a73_1,r73_1)]
theorem PM73:∃ fn,Tryz.prog.funcs[73]?=some fn∧(fn.name == "runtime.NumGoroutine")=false∧fn.body.isNone=false:=⟨Tryz.f73,Tryz.func73,(fnsL.get Tryz.func73).1,by kernel_rfl⟩
theorem kcsT73:KCSb Tryz.prog 73 (sMem tab73):=sMemb_s PM73 ⟨c73_0,by kernel_rfl,⟨c73_1,by kernel_rfl,trivial⟩⟩
def tab15:List (List KV×KV):=[(a15_0,r15_0)]
theorem PM15:∃ fn,Tryz.prog.funcs[15]?=some fn∧(fn.name == "runtime.NumGoroutine")=false∧fn.body.isNone=false:=⟨Tryz.f15,Tryz.func15,(fnsL.get Tryz.func15).1,by kernel_rfl⟩
theorem kcsT15:KCSb Tryz.prog 15 (sMem tab15):=sMemb_s PM15 ⟨c15_0,by kernel_rfl,trivial⟩
def tab81:List (List KV×KV):=[(a81_0,r81_0),(a81_1,r81_1),(a81_2,r81_2)]
theorem PM81:∃ fn,Tryz.prog.funcs[81]?=some fn∧(fn.name == "runtime.NumGoroutine")=false∧fn.body.isNone=false:=⟨Tryz.f81,Tryz.func81,(fnsL.get Tryz.func81).1,by kernel_rfl⟩
theorem kcsT81:KCSb Tryz.prog 81 (sMem tab81):=sMemb_s PM81 ⟨c81_0,by kernel_rfl,⟨c81_1,by kernel_rfl,⟨c81_2,by kernel_rfl,trivial⟩⟩⟩
def tab30:List (List KV×KV):=[(a30_0,r30_0)]
theorem PM30:∃ fn,Tryz.prog.funcs[30]?=some fn∧(fn.name == "runtime.NumGoroutine")=false∧fn.body.isNone=false:=⟨Tryz.f30,Tryz.func30,(fnsL.get Tryz.func30).1,by kernel_rfl⟩
theorem kcsT30:KCSb Tryz.prog 30 (sMem tab30):=sMemb_s PM30 ⟨c30_0,by kernel_rfl,trivial⟩
def tab32:List (List KV×KV):=[(a32_0,r32_0),(a32_1,r32_1),(a32_2,r32_2),(a32_3,r32_3),(a32_4,r32_4)]
theorem PM32:∃ fn,Tryz.prog.funcs[32]?=some fn∧(fn.name == "runtime.NumGoroutine")=false∧fn.body.isNone=false:=⟨Tryz.f32,Tryz.func32,(fnsL.get Tryz.func32).1,by kernel_rfl⟩
theorem kcsT32:KCSb Tryz.prog 32 (sMem tab32):=sMemb_s PM32 ⟨c32_0,by kernel_rfl,⟨c32_1,by kernel_rfl,⟨c32_2,by kernel_rfl,⟨c32_3,by kernel_rfl,⟨c32_4,by kernel_rfl,trivial⟩⟩⟩⟩⟩
def tab130:List (List KV×KV):=[(a130_0,r130_0)]
theorem PM130:∃ fn,Tryz.prog.funcs[130]?=some fn∧(fn.name == "runtime.NumGoroutine")=false∧fn.body.isNone=false:=⟨Tryz.f130,Tryz.func130,(fnsL.get Tryz.func130).1,by kernel_rfl⟩
theorem kcsT130:KCSb Tryz.prog 130 (sMem tab130):=sMemb_s PM130 ⟨c130_0,by kernel_rfl,trivial⟩
def tab141:List (List KV×KV):=[(a141_0,r141_0)]
theorem PM141:∃ fn,Tryz.prog.funcs[141]?=some fn∧(fn.name == "runtime.NumGoroutine")=false∧fn.body.isNone=false:=⟨Tryz.f141,Tryz.func141,(fnsL.get Tryz.func141).1,by kernel_rfl⟩
theorem kcsT141:KCSb Tryz.prog 141 (sMem tab141):=sMemb_s PM141 ⟨c141_0,by kernel_rfl,trivial⟩
end
end Go.K
set_option maxRecDepth 10000
namespace Go.K
open Go.Ab Go.RowKit Go.Y Go.Proofs
noncomputable section
def ESL1b:KEnv:=E0s.tab [(273,sCompS),(314,sTab1 sbN),(302,sEnc),(210,sIs 2147483896 2147483648 9117368320),(301,sMem tab301),(233,sMem tab233),(116,sMem tab116)]
theorem okESL1b:KOk ESL1b:=ok0s.tab ⟨kcs273,kcsSub,kcsEnc.cls,kcs210,kcsT301,kcsT233,kcsT116,trivial⟩
def ESL1a:KEnv:=ESL1b.tabB [(73,sMem tab73),(15,sMem tab15),(81,sMem tab81),(30,sMem tab30),(32,sMem tab32),(130,sMem tab130),(141,sMem tab141)]
theorem okESL1a:KOk ESL1a:=okESL1b.tabB ⟨kcsT73,kcsT15,kcsT81,kcsT30,kcsT32,kcsT130,kcsT141,trivial⟩
def ESL1:KEnv:=ESL1a.olo (fun f=>false)
theorem okESL1:KOk ESL1:=okESL1a.olo _
end
end Go.K
