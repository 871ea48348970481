/- Closed runs. No condition. Closed runs. No condition. Tables of contracts. No condition. An environment. No condition. Closed runs. No condition. Tables of contracts. No condition. An environment. No condition. Closed runs. No condition. Tables of contracts. No condition. An environment. No condition. Closed runs. No condition. Tables of contracts. No condition. -/
import Derived.Test.YtfpmealbbibhpaaGreatDoorSLR0_0
set_option linter.unusedVariables false
set_option maxRecDepth 10000
namespace Go.K
open Go.Ab Go.RowKit Go.Y Go.Proofs
noncomputable section
attribute [local irreducible] krun callR
def a220_0:List KV:=[ul40,ul12,ul8,(.ro false true .sc 0 32 ul43)]
def r220_0:KV:=(.tup (.cons (.ro true true .sc 0 32 ul20) ul9))
theorem m220_0:RunL ESL1 220 a220_0 r220_0:=of_eq_true (by kernel_rfl)
theorem c220_0:KCS Tryz.prog 220 (kcon a220_0 r220_0):=kconRL okESL1 m220_0
def a220_1:List KV:=[ul40,(.cons ul11 ul23),ul8,(.ro false true .sc 0 32 ul44)]
def r220_1:KV:=(.tup (.cons (.ro true true .sc 0 32 ul45) ul9))
theorem m220_1:RunL ESL1 220 a220_1 r220_1:=of_eq_true (by kernel_rfl)
theorem c220_1:KCS Tryz.prog 220 (kcon a220_1 r220_1):=kconRL okESL1 m220_1
def a220_2:List KV:=[ul40,ul12,ul8,(.ro false true .sc 0 32 ul20)]
def r220_2:KV:=(.tup (.cons (.ro true true .sc 0 32 ul43) ul9))
theorem m220_2:RunL ESL1 220 a220_2 r220_2:=of_eq_true (by kernel_rfl)
theorem c220_2:KCS Tryz.prog 220 (kcon a220_2 r220_2):=kconRL okESL1 m220_2
def a16_0:List KV:=[ul22,ul50,ul0]
def r16_0:KV:=(.tup (.cons ul27 ul9))
theorem m16_0:RubL ESL1 16 a16_0 r16_0:=of_eq_true (by kernel_rfl)
theorem c16_0:KCSb Tryz.prog 16 (kcon a16_0 r16_0):=kconRbL okESL1 m16_0
def a20_0:List KV:=[ul0]
def r20_0:KV:=(.tup (.cons ul4 (.cons ul7 ul9)))
theorem m20_0:RubL ESL1 20 a20_0 r20_0:=of_eq_true (by kernel_rfl)
theorem c20_0:KCSb Tryz.prog 20 (kcon a20_0 r20_0):=kconRbL okESL1 m20_0
def a35_0:List KV:=[ul0,ul4,ul7]
def r35_0:KV:=(.tup (.cons ul38 ul18))
theorem m35_0:RubL ESL1 35 a35_0 r35_0:=of_eq_true (by kernel_rfl)
theorem c35_0:KCSb Tryz.prog 35 (kcon a35_0 r35_0):=kconRbL okESL1 m35_0
def a35_1:List KV:=[ul0,ul22,(.cons ul5 (.cons ul6 ul23))]
def r35_1:KV:=(.tup (.cons ul38 ul18))
theorem m35_1:RubL ESL1 35 a35_1 r35_1:=of_eq_true (by kernel_rfl)
theorem c35_1:KCSb Tryz.prog 35 (kcon a35_1 r35_1):=kconRbL okESL1 m35_1
def a35_2:List KV:=[ul0,ul27,ul28]
def r35_2:KV:=(.tup (.cons ul39 ul18))
theorem m35_2:RubL ESL1 35 a35_2 r35_2:=of_eq_true (by kernel_rfl)
theorem c35_2:KCSb Tryz.prog 35 (kcon a35_2 r35_2):=kconRbL okESL1 m35_2
def a35_3:List KV:=[ul0,ul34,ul28]
def r35_3:KV:=(.tup (.cons ul39 ul18))
theorem m35_3:RubL ESL1 35 a35_3 r35_3:=of_eq_true (by kernel_rfl)
theorem c35_3:KCSb Tryz.prog 35 (kcon a35_3 r35_3):=kconRbL okESL1 m35_3
end
end Go.K
set_option maxRecDepth 10000
namespace Go.K
open Go.Ab Go.RowKit Go.Y Go.Proofs
noncomputable section
attribute [local irreducible] krun callR
def a35_4:List KV:=[ul0,ul35,ul28]
def r35_4:KV:=(.tup (.cons ul39 ul18))
theorem m35_4:RubL ESL1 35 a35_4 r35_4:=of_eq_true (by kernel_rfl)
theorem c35_4:KCSb Tryz.prog 35 (kcon a35_4 r35_4):=kconRbL okESL1 m35_4
end
end Go.K
set_option maxRecDepth 10000
namespace Go.K
open Go.Ab Go.RowKit Go.Y Go.Proofs
noncomputable section
def tab220:List (List KV×KV):=[(a220_0,r220_0),(a220_1,r220_1),(a220_2,r220_2)]
theorem PM220:∃ fn,Tryz.prog.funcs[220]?=some fn∧(fn.name == "runtime.NumGoroutine")=false∧fn.body.isNone=false:=⟨Tryz.f220,Tryz.func220,(fnsL.get Tryz.func220).1,by kernel_rfl⟩
theorem kcsT220:KCS Tryz.prog 220 (sMem tab220):=sMem_s PM220 ⟨c220_0,by kernel_rfl,⟨c220_1,by kernel_rfl,⟨c220_2,by kernel_rfl,trivial⟩⟩⟩
def tab16:List (List KV×KV):=[(a16_0,r16_0)]
theorem PM16:∃ fn,Tryz.prog.funcs[16]?=some fn∧(fn.name == "runtime.NumGoroutine")=false∧fn.body.isNone=false:=⟨Tryz.f16,Tryz.func16,(fnsL.get Tryz.func16).1,by kernel_rfl⟩
theorem kcsT16:KCSb Tryz.prog 16 (sMem tab16):=sMemb_s PM16 ⟨c16_0,by kernel_rfl,trivial⟩
def tab20:List (List KV×KV):=[(a20_0,r20_0)]
theorem PM20:∃ fn,Tryz.prog.funcs[20]?=some fn∧(fn.name == "runtime.NumGoroutine")=false∧fn.body.isNone=false:=⟨Tryz.f20,Tryz.func20,(fnsL.get Tryz.func20).1,by kernel_rfl⟩
theorem kcsT20:KCSb Tryz.prog 20 (sMem tab20):=sMemb_s PM20 ⟨c20_0,by kernel_rfl,trivial⟩
def tab35:List (List KV×KV):=[(a35_0,r35_0),(a35_1,r35_1),(a35_2,r35_2),(a35_3,r35_3),(a35_4,r35_4)]
theorem PM35:∃ fn,Tryz.prog.funcs[35]?=some fn∧(fn.name == "runtime.NumGoroutine")=false∧fn.body.isNone=false:=⟨Tryz.f35,Tryz.func35,(fnsL.get Tryz.func35).1,by kernel_rfl⟩
theorem kcsT35:KCSb Tryz.prog 35 (sMem tab35):=sMemb_s PM35 ⟨c35_0,by kernel_rfl,⟨c35_1,by kernel_rfl,⟨c35_2,by kernel_rfl,⟨c35_3,by kernel_rfl,⟨c35_4,by kernel_rfl,trivial⟩⟩⟩⟩⟩
end
end Go.K
set_option maxRecDepth 10000
namespace Go.K
open Go.Ab Go.RowKit Go.Y Go.Proofs
noncomputable section
def ESL2b:KEnv:=E0s.tab [(273,sCompS),(314,sTab1 sbN),(302,sEnc),(210,sIs 2147483896 2147483648 9117368320),(301,sMem tab301),(233,sMem tab233),(116,sMem tab116),(220,sMem tab220)]
theorem okESL2b:KOk ESL2b:=ok0s.tab ⟨kcs273,kcsSub,kcsEnc.cls,kcs210,kcsT301,kcsT233,kcsT116,kcsT220,trivial⟩
def ESL2a:KEnv:=ESL2b.tabB [(73,sMem tab73),(15,sMem tab15),(81,sMem tab81),(30,sMem tab30),(32,sMem tab32),(130,sMem tab130),(141,sMem tab141),(16,sMem tab16),(20,sMem tab20),(35,sMem tab35)]
theorem okESL2a:KOk ESL2a:=okESL2b.tabB ⟨kcsT73,kcsT15,kcsT81,kcsT30,kcsT32,kcsT130,kcsT141,kcsT16,kcsT20,kcsT35,trivial⟩
def ESL2:KEnv:=ESL2a.olo (fun f=>false)
theorem okESL2:KOk ESL2:=okESL2a.olo _
end
end Go.K
set_option maxRecDepth 10000
namespace Go.K
open Go.Ab Go.RowKit Go.Y Go.Proofs
noncomputable section
attribute [local irreducible] krun callR
def a175_0:List KV:=[ul42,ul8,ul12,ul20,ul29]
def r175_0:KV:=(.tup (.cons ul43 ul9))
theorem m175_0:RunL ESL2 175 a175_0 r175_0:=of_eq_true (by kernel_rfl)
theorem c175_0:KCS Tryz.prog 175 (kcon a175_0 r175_0):=kconRL okESL2 m175_0
def a72_0:List KV:=[ul42,ul8,ul12,ul43]
def r72_0:KV:=(.tup (.cons ul20 (.cons ul29 ul9)))
theorem m72_0:RunL ESL2 72 a72_0 r72_0:=of_eq_true (by kernel_rfl)
theorem c72_0:KCS Tryz.prog 72 (kcon a72_0 r72_0):=kconRL okESL2 m72_0
def a72_1:List KV:=[ul42,ul8,(.cons ul11 ul23),ul44]
def r72_1:KV:=(.tup (.cons ul45 (.cons ul46 ul9)))
theorem m72_1:RunL ESL2 72 a72_1 r72_1:=of_eq_true (by kernel_rfl)
theorem c72_1:KCS Tryz.prog 72 (kcon a72_1 r72_1):=kconRL okESL2 m72_1
def a38_0:List KV:=[(.cons ul0 (.cons ul0 (.cons ul8 (.cons ul8 (.cons (.int .u64 (.ofNat 2)) (.cons (.int .u64 (.ofNat 1)) (.cons (.pk .u8 32 0) (.cons ul10 .nl))))))))]
def r38_0:KV:=(.tup (.cons (.cons ul0 (.cons ul42 (.cons ul4 (.cons (.ro true false (.cons (.arr 32 .sc) (.cons .sc (.cons .sc .nl))) 0 1 (.ar 1 (.cons (.pk .u8 32 0) (.cons ul6 (.cons ul6 .nl))) (.tn ul7 .te .te .te .te))) (.cons (.cons (.ro true true .sc 0 1 (.pk .u64 1 0)) (.cons ul6 (.cons (.int .u64 (.ofNat 2)) ul23))) (.cons ul38 (.cons (.cons .nils .nl) (.cons (.bool false) .nl)))))))) ul9))
theorem m38_0:RubL ESL2 38 a38_0 r38_0:=of_eq_true (by kernel_rfl)
theorem c38_0:KCSb Tryz.prog 38 (kcon a38_0 r38_0):=kconRbL okESL2 m38_0
end
end Go.K
set_option maxRecDepth 10000
namespace Go.K
open Go.Ab Go.RowKit Go.Y Go.Proofs
noncomputable section
def tab175:List (List KV×KV):=[(a175_0,r175_0)]
theorem PM175:∃ fn,Tryz.prog.funcs[175]?=some fn∧(fn.name == "runtime.NumGoroutine")=false∧fn.body.isNone=false:=⟨Tryz.f175,Tryz.func175,(fnsL.get Tryz.func175).1,by kernel_rfl⟩
theorem kcsT175:KCS Tryz.prog 175 (sMem tab175):=sMem_s PM175 ⟨c175_0,by kernel_rfl,trivial⟩
def tab72:List (List KV×KV):=[(a72_0,r72_0),(a72_1,r72_1)]
theorem PM72:∃ fn,Tryz.prog.funcs[72]?=some fn∧(fn.name == "runtime.NumGoroutine")=false∧fn.body.isNone=false:=⟨Tryz.f72,Tryz.func72,(fnsL.get Tryz.func72).1,by kernel_rfl⟩
theorem kcsT72:KCS Tryz.prog 72 (sMem tab72):=sMem_s PM72 ⟨c72_0,by kernel_rfl,⟨c72_1,by kernel_rfl,trivial⟩⟩
def tab38:List (List KV×KV):=[(a38_0,r38_0)]
theorem PM38:∃ fn,Tryz.prog.funcs[38]?=some fn∧(fn.name == "runtime.NumGoroutine")=false∧fn.body.isNone=false:=⟨Tryz.f38,Tryz.func38,(fnsL.get Tryz.func38).1,by kernel_rfl⟩
theorem kcsT38:KCSb Tryz.prog 38 (sMem tab38):=sMemb_s PM38 ⟨c38_0,by kernel_rfl,trivial⟩
end
end Go.K
set_option maxRecDepth 10000
namespace Go.K
open Go.Ab Go.RowKit Go.Y Go.Proofs
noncomputable section
def ESL3b:KEnv:=E0s.tab [(273,sCompS),(314,sTab1 sbN),(302,sEnc),(210,sIs 2147483896 2147483648 9117368320),(301,sMem tab301),(233,sMem tab233),(116,sMem tab116),(220,sMem tab220),(175,sMem tab175),(72,sMem tab72)]
theorem okESL3b:KOk ESL3b:=ok0s.tab ⟨kcs273,kcsSub,kcsEnc.cls,kcs210,kcsT301,kcsT233,kcsT116,kcsT220,kcsT175,kcsT72,trivial⟩
def ESL3a:KEnv:=ESL3b.tabB [(73,sMem tab73),(15,sMem tab15),(81,sMem tab81),(30,sMem tab30),(32,sMem tab32),(130,sMem tab130),(141,sMem tab141),(16,sMem tab16),(20,sMem tab20),(35,sMem tab35),(38,sMem tab38)]
theorem okESL3a:KOk ESL3a:=okESL3b.tabB ⟨kcsT73,kcsT15,kcsT81,kcsT30,kcsT32,kcsT130,kcsT141,kcsT16,kcsT20,kcsT35,kcsT38,trivial⟩
def ESL3:KEnv:=ESL3a.olo (fun f=>false)
theorem okESL3:KOk ESL3:=okESL3a.olo _
end
end Go.K
set_option maxRecDepth 10000
namespace Go.K
open Go.Ab Go.RowKit Go.Y Go.Proofs
noncomputable section
attribute [local irreducible] krun callR
def a12_0:List KV:=[ul38,ul42,ul8,ul12,ul43]
def r12_0:KV:=(.tup (.cons ul48 (.cons (.cons ul8 (.cons (.ro true true .sc 0 32 ul20) .nl)) ul9)))
theorem m12_0:RubL ESL3 12 a12_0 r12_0:=of_eq_true (by kernel_rfl)
theorem c12_0:KCSb Tryz.prog 12 (kcon a12_0 r12_0):=kconRbL okESL3 m12_0
def a12_1:List KV:=[ul48,ul42,ul8,(.cons ul11 ul23),ul44]
def r12_1:KV:=(.tup (.cons ul49 (.cons (.cons ul8 (.cons (.ro true true .sc 0 32 ul45) .nl)) ul9)))
theorem m12_1:RubL ESL3 12 a12_1 r12_1:=of_eq_true (by kernel_rfl)
theorem c12_1:KCSb Tryz.prog 12 (kcon a12_1 r12_1):=kconRbL okESL3 m12_1
def a84_0:List KV:=[ul0,ul22,ul42,ul8,ul13]
def r84_0:KV:=(.tup (.cons (.pk .u8 32 0) ul18))
theorem m84_0:RubL ESL3 84 a84_0 r84_0:=of_eq_true (by kernel_rfl)
theorem c84_0:KCSb Tryz.prog 84 (kcon a84_0 r84_0):=kconRbL okESL3 m84_0
def a84_1:List KV:=[ul0,ul27,ul42,ul8,ul30]
def r84_1:KV:=(.tup (.cons ul43 ul18))
theorem m84_1:RubL ESL3 84 a84_1 r84_1:=of_eq_true (by kernel_rfl)
theorem c84_1:KCSb Tryz.prog 84 (kcon a84_1 r84_1):=kconRbL okESL3 m84_1
def a84_2:List KV:=[ul0,ul34,ul42,ul8,ul30]
def r84_2:KV:=(.tup (.cons (.pk .u8 32 0) (.cons (.cons ul8 (.cons (.int .u8 (.ofNat 1)) .nl)) (.cons (.int .i64 (.ofNat 9)) .nl))))
theorem m84_2:RubL ESL3 84 a84_2 r84_2:=of_eq_true (by kernel_rfl)
theorem c84_2:KCSb Tryz.prog 84 (kcon a84_2 r84_2):=kconRbL okESL3 m84_2
def a84_3:List KV:=[ul0,ul35,ul42,ul8,ul30]
def r84_3:KV:=(.tup (.cons ul43 ul18))
theorem m84_3:RubL ESL3 84 a84_3 r84_3:=of_eq_true (by kernel_rfl)
theorem c84_3:KCSb Tryz.prog 84 (kcon a84_3 r84_3):=kconRbL okESL3 m84_3
end
end Go.K
set_option maxRecDepth 10000
namespace Go.K
open Go.Ab Go.RowKit Go.Y Go.Proofs
noncomputable section
def tab12:List (List KV×KV):=[(a12_0,r12_0),(a12_1,r12_1)]
theorem PM12:∃ fn,Tryz.prog.funcs[12]?=some fn∧(fn.name == "runtime.NumGoroutine")=false∧fn.body.isNone=false:=⟨Tryz.f12,Tryz.func12,(fnsL.get Tryz.func12).1,by kernel_rfl⟩
theorem kcsT12:KCSb Tryz.prog 12 (sMem tab12):=sMemb_s PM12 ⟨c12_0,by kernel_rfl,⟨c12_1,by kernel_rfl,trivial⟩⟩
def tab84:List (List KV×KV):=[(a84_0,r84_0),(a84_1,r84_1),(a84_2,r84_2),(a84_3,r84_3)]
theorem PM84:∃ fn,Tryz.prog.funcs[84]?=some fn∧(fn.name == "runtime.NumGoroutine")=false∧fn.body.isNone=false:=⟨Tryz.f84,Tryz.func84,(fnsL.get Tryz.func84).1,by kernel_rfl⟩
theorem kcsT84:KCSb Tryz.prog 84 (sMem tab84):=sMemb_s PM84 ⟨c84_0,by kernel_rfl,⟨c84_1,by kernel_rfl,⟨c84_2,by kernel_rfl,⟨c84_3,by kernel_rfl,trivial⟩⟩⟩⟩
end
end Go.K
set_option maxRecDepth 10000
namespace Go.K
open Go.Ab Go.RowKit Go.Y Go.Proofs
noncomputable section
def ESL4b:KEnv:=E0s.tab [(273,sCompS),(314,sTab1 sbN),(302,sEnc),(210,sIs 2147483896 2147483648 9117368320),(301,sMem tab301),(233,sMem tab233),(116,sMem tab116),(220,sMem tab220),(175,sMem tab175),(72,sMem tab72)]
theorem okESL4b:KOk ESL4b:=ok0s.tab ⟨kcs273,kcsSub,kcsEnc.cls,kcs210,kcsT301,kcsT233,kcsT116,kcsT220,kcsT175,kcsT72,trivial⟩
def ESL4a:KEnv:=ESL4b.tabB [(73,sMem tab73),(15,sMem tab15),(81,sMem tab81),(30,sMem tab30),(32,sMem tab32),(130,sMem tab130),(141,sMem tab141),(16,sMem tab16),(20,sMem tab20),(35,sMem tab35),(38,sMem tab38),(12,sMem tab12),(84,sMem tab84)]
theorem okESL4a:KOk ESL4a:=okESL4b.tabB ⟨kcsT73,kcsT15,kcsT81,kcsT30,kcsT32,kcsT130,kcsT141,kcsT16,kcsT20,kcsT35,kcsT38,kcsT12,kcsT84,trivial⟩
def ESL4:KEnv:=ESL4a.olo (fun f=>false)
theorem okESL4:KOk ESL4:=okESL4a.olo _
end
end Go.K
set_option maxRecDepth 10000
namespace Go.K
open Go.Ab Go.RowKit Go.Y Go.Proofs
noncomputable section
attribute [local irreducible] krun callR
def a45_0:List KV:=[]
def r45_0:KV:=ul2
theorem m45_0:RunL ESL4 45 a45_0 r45_0:=of_eq_true (by kernel_rfl)
theorem c45_0:KCS Tryz.prog 45 (kcon a45_0 r45_0):=kconRL okESL4 m45_0
end
end Go.K
set_option maxRecDepth 10000
namespace Go.K
open Go.Ab Go.RowKit Go.Y Go.Proofs
noncomputable section
def tab45:List (List KV×KV):=[(a45_0,r45_0)]
theorem PM45:∃ fn,Tryz.prog.funcs[45]?=some fn∧(fn.name == "runtime.NumGoroutine")=false∧fn.body.isNone=false:=⟨Tryz.f45,Tryz.func45,(fnsL.get Tryz.func45).1,by kernel_rfl⟩
theorem kcsT45:KCS Tryz.prog 45 (sMem tab45):=sMem_s PM45 ⟨c45_0,by kernel_rfl,trivial⟩
end
end Go.K
