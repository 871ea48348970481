/- Tables of contracts. No condition. -/
import Derived.Test.YtkllahedaiddgaaGreatDoorMC
import Derived.Test.YtkllahedaiddgaaGreatDoorK21
set_option linter.unusedSimpArgs false
set_option linter.unusedVariables false
set_option maxRecDepth 10000
namespace Go.K
open Go.Ab Go.RowKit Go.Y Go.Proofs
noncomputable section
def RnM (E:KEnv) (f:Nat) (a:List KV) (r:KV):Prop:=zo E (zp E 1000000) 0 f a .e 0 0 (fun x zm _ _=>tK (fzB zm 60 x r))
theorem xp {E:KEnv}{f:Nat}{a:List KV}{r:KV}(hE:KOk E) (h:RnM E f a r):KCS E.P f (xm a r):=zkf hE h
def u0:KV:=(.pk .u8 32 27342162514947653583937906222160396351575366345600806056086070088289311440504)
def u1:KV:=(.pk .u8 32 918395647173819365373735878896344643108083295023627920875243912625669619961)
def u2:KV:=(.pk .u8 32 32964475149327106443761119737132610979723272928706672007876046231495031425136)
def u3:KV:=(.pk .u8 32 49335936114469730489519566754954389822356494958623753279784912804745734766010)
def u4:KV:=(.pk .u8 32 42224713879204023466108653541345754264002120359733472579832652548952497193728)
def u5:KV:=(.pk .u8 16 125900742916195838709135468801027031289)
def u6:KV:=(.int .u8 (.ofNat 0))
def u7:KV:=(.int .i64 (.ofNat 1))
def u8:KV:=(.bool false)
def u9:KV:=(.cons u8 (.cons (.str 0 0) .nl))
def u10:KV:=(.ro true false (.cons .sc (.cons .sc .nl)) 0 1 (.ar 1 u9 (.tn u9 .te .te .te .te)))
def u11:KV:=(.int .u32 (.ofNat 0))
def u12:KV:=(.cons (.int .u64 (.ofNat 0)) .nl)
def u13:KV:=(.cons u6 (.cons (.cons u11 u12) (.cons (.pk .u8 32 0) .nl)))
def u14:KV:=(.ro true false (.cons .sc (.cons (.cons .sc (.cons .sc .nl)) (.cons (.arr 32 .sc) .nl))) 0 1 (.ar 1 u13 (.tn u13 .te .te .te .te)))
def u15:KV:=(.cons (.ro true false .sc 0 1 (.pk .i64 1 0)) .nl)
def u16:KV:=(.cons u14 (.cons (.ro true true .sc 0 1 (.ar 1 u8 .te)) u15))
def u17:KV:=(.cons (.ar 4 (.cons u6 (.cons (.pk .u8 32 0) .nl)) .te) .nl)
def u18:KV:=(.int .i64 (.ofNat 0))
def u19:KV:=(.cons (.cons u6 (.cons u11 (.cons (.ar 4 u13 .te) u17))) (.cons u18 (.cons u8 (.cons (.ar 4 u8 .te) .nl))))
def zwA:KV:=(.cons u6 (.cons u11 (.cons (.ar 4 u13 (.tn u13 .te .te .te .te)) u17)))
def u21:KV:=(.cons u7 (.cons (.ro true false (.cons (.cons .sc (.cons .sc (.cons (.arr 4 (.cons .sc (.cons (.cons .sc (.cons .sc .nl)) (.cons (.arr 32 .sc) .nl)))) (.cons (.arr 4 (.cons .sc (.cons (.arr 32 .sc) .nl))) .nl)))) (.cons .sc (.cons .sc (.cons (.arr 4 .sc) .nl)))) 0 1 (.ar 1 u19 (.tn (.cons zwA (.cons u18 (.cons u8 (.cons (.ar 4 u8 (.tn u8 .te .te .te .te)) .nl)))) .te .te .te .te))) .nl))
def u22:KV:=(.cons u18 .nl)
def zll:KV:=(.cons u11 (.cons (.int .u64 (.ofNat 1)) .nl))
def u24:KV:=(.pk .u8 32 35860280783614881728396713324440587946675328474378991360757621235300248670077)
def u25:KV:=(.cons u6 (.cons u11 (.cons (.ar 4 u13 (.tn (.cons (.int .u8 (.ofNat 1)) (.cons zll (.cons u24 .nl))) .te .te .te .te)) u17)))
def u26:KV:=(.pk .u8 32 91069160870447631625781895594131259893949853831593969626282307065470936561168)
def u27:KV:=(.cons u7 (.cons (.ro true true (.cons (.cons .sc (.cons .sc (.cons (.arr 4 (.cons .sc (.cons (.cons .sc (.cons .sc .nl)) (.cons (.arr 32 .sc) .nl)))) (.cons (.arr 4 (.cons .sc (.cons (.arr 32 .sc) .nl))) .nl)))) (.cons .sc (.cons .sc (.cons (.arr 4 .sc) .nl)))) 0 1 (.ar 1 u19 (.tn (.cons u25 (.cons u18 (.cons (.bool true) (.cons (.ar 4 u8 (.tn (.bool true) .te .te .te .te)) .nl)))) .te .te .te .te))) .nl))
def u28:KV:=(.ro true true (.cons .sc (.cons .sc .nl)) 0 1 (.ar 1 (.cons u18 (.cons .nils .nl)) (.tn (.cons (.int .i64 (.ofNat 3)) (.cons (.ro true true .sc 0 185 (.pk .u8 185 0)) .nl)) .te .te .te .te)))
def u29:KV:=(.cons (.int .u64 (.ofNat 1)) u12)
def u30:KV:=(.pk .u8 32 72644956254307023334172677176923078829283337553784033986769275503311282178565)
def u31:KV:=(.pk .u8 32 92843029935034982619735682310687812758405920811659628743660729675282379229344)
def zmN:KEnv:=E0.tab [(276,yv),(190,yw),(311,X8 sbN),(296,za2)]
theorem zlb:KOk zmN:=ok0.tab ⟨Z1,Z2,yC,VD.cls,trivial⟩
def ZY:KEnv:=zmN.olo (fun f=>false)
theorem jb:KOk ZY:=zlb.olo _
attribute [local irreducible] zp zo
def zbG:List KV:=[u5]
def zbH:KV:=(.ar 11 (.pk .u8 16 0) (.tn u5 (.tn (.pk .u8 16 242869959838438247255521294913263757590) (.tn (.pk .u8 16 269302979424140993974069016523225751305) .te .te .te .te) (.tn (.pk .u8 16 153731746052537013454737986992765978853) .te .te .te .te) .te .te) (.tn (.pk .u8 16 36452185410163263461495545261998948547) (.tn (.pk .u8 16 143683860380804260022767831412741255476) .te .te .te .te) (.tn (.pk .u8 16 3446989684286966896826725208741876753) .te .te .te .te) .te .te) (.tn (.pk .u8 16 310732588913209192371438187212391845999) (.tn (.pk .u8 16 262627799441842258676587090763300248696) .te .te .te .te) .te .te .te) (.tn (.pk .u8 16 260079654999987094214484817601803717774) (.tn (.pk .u8 16 277889940091674990717689742084919705250) .te .te .te .te) .te .te .te)))
theorem zqN:RnM ZY 295 zbG zbH:=of_eq_true (by kernel_rfl)
theorem zqO:KCS Tryz.prog 295 (xm zbG zbH):=xp jb zqN
def zbI:List KV:=[(.cons u6 (.cons u11 (.cons (.ar 4 u13 .te) u17)))]
def zbJ:KV:=(.tup (.cons u3 u22))
theorem zqP:RnM ZY 158 zbI zbJ:=of_eq_true (by kernel_rfl)
theorem zqQ:KCS Tryz.prog 158 (xm zbI zbJ):=xp jb zqP
def zbK:List KV:=[zwA]
def zbL:KV:=(.tup (.cons u3 u22))
theorem zqR:RnM ZY 158 zbK zbL:=of_eq_true (by kernel_rfl)
theorem zqS:KCS Tryz.prog 158 (xm zbK zbL):=xp jb zqR
def zbM:List KV:=[u25]
def zbN:KV:=(.tup (.cons u26 u22))
theorem zqT:RnM ZY 158 zbM zbN:=of_eq_true (by kernel_rfl)
theorem zqU:KCS Tryz.prog 158 (xm zbM zbN):=xp jb zqT
def zbO:List KV:=[(.ro false false .sc 0 96 (.pk .u8 96 566140853589148946870474457984203930645925124765414994899334131882717726875810282989457506122591293999806059006249493316186701702744726243540111755036458229892576425066561221106338302745878930532932689132329488446838558131425859413))]
def zbP:KV:=(.pk .u8 32 51314546588194500245496713354475835515053996139652615115337665443308122487181)
theorem zqV:RnM ZY 121 zbO zbP:=of_eq_true (by kernel_rfl)
theorem zqW:KCS Tryz.prog 121 (xm zbO zbP):=xp jb zqV
def zbQ:List KV:=[(.ro false false .sc 0 96 (.pk .u8 96 688015584666603060965751595949963440405175841450582860755834911129447913877030568651307597196816925910052446164881308270410465852353004736958104646169201008524190362377247000914732383695186791069844364534703266017882044942477770047))]
def zbR:KV:=u0
theorem zqX:RnM ZY 121 zbQ zbR:=of_eq_true (by kernel_rfl)
theorem zqY:KCS Tryz.prog 121 (xm zbQ zbR):=xp jb zqX
def zbS:List KV:=[(.ro false false .sc 0 72 (.pk .u8 72 1405572124243336061622624760095183804805309463977374002555153978857162711183959504002246151411558205493006087567439383400803080786438210279884765064841486790619670261827662))]
def zbT:KV:=(.pk .u8 32 50940835804170272399380056419503170475086328462446399257374090826364225489358)
theorem zqZ:RnM ZY 121 zbS zbT:=of_eq_true (by kernel_rfl)
theorem zq0:KCS Tryz.prog 121 (xm zbS zbT):=xp jb zqZ
def zbU:List KV:=[(.ro false false .sc 0 96 (.pk .u8 96 683004942253057953621385319192670512702545455895727067926180408021608221538843022958878836316253632595874312860062922794781857693136048816561284730578868300346414502099951402303505789371996187404170390043893294151916867475897508388))]
def zbV:KV:=u1
theorem zq1:RnM ZY 121 zbU zbV:=of_eq_true (by kernel_rfl)
theorem zq2:KCS Tryz.prog 121 (xm zbU zbV):=xp jb zq1
def zbW:List KV:=[(.ro false false .sc 0 68 (.pk .u8 68 312270812653216106574411551506944053538697194602955954693919173508113134852519467594446421840967648827979808733620170268552590897790078653924877002294343776372814))]
def zbX:KV:=(.pk .u8 32 3969945945791653932291547731018762908483065712675008024070712448958024695356)
theorem zq3:RnM ZY 121 zbW zbX:=of_eq_true (by kernel_rfl)
theorem zq4:KCS Tryz.prog 121 (xm zbW zbX):=xp jb zq3
def zbY:List KV:=[(.ro false false .sc 0 96 (.pk .u8 96 53228272733428801309371515277035644141752636185350295293054706299452662709095345271004281184081271719232965432843787059339989538127523648523803988466268794823497781096775605508315492702685521684968876191667691147443137551913116196))]
def zbZ:KV:=u2
theorem zq5:RnM ZY 121 zbY zbZ:=of_eq_true (by kernel_rfl)
theorem zq6:KCS Tryz.prog 121 (xm zbY zbZ):=xp jb zq5
def zb0:List KV:=[(.ro false false .sc 0 185 (.pk .u8 185 0))]
def zb1:KV:=u3
theorem zq7:RnM ZY 121 zb0 zb1:=of_eq_true (by kernel_rfl)
theorem zq8:KCS Tryz.prog 121 (xm zb0 zb1):=xp jb zq7
def ziJ:List KV:=[u14,(.ro true false .sc 0 1 (.pk .i64 1 0))]
def ziK:KV:=u16
theorem zv5:RnM ZY 61 ziJ ziK:=of_eq_true (by kernel_rfl)
theorem zv6:KCS Tryz.prog 61 (xm ziJ ziK):=xp jb zv5
end
end Go.K
set_option maxRecDepth 10000
namespace Go.K
open Go.Ab Go.RowKit Go.Y Go.Proofs
noncomputable section
def VF:List (List KV×KV):=[(zbG,zbH)]
theorem zty:∃ fn,Tryz.prog.funcs[295]?=some fn∧(fn.name == "runtime.NumGoroutine")=false∧fn.body.isNone=false:=⟨Tryz.f295,Tryz.func295,(wj.get Tryz.func295).1,by kernel_rfl⟩
theorem Xy:KCS Tryz.prog 295 (zZ VF):=vu zty ⟨zqO,by kernel_rfl,trivial⟩
def VG:List (List KV×KV):=[(zbI,zbJ),(zbK,zbL),(zbM,zbN)]
theorem ztz:∃ fn,Tryz.prog.funcs[158]?=some fn∧(fn.name == "runtime.NumGoroutine")=false∧fn.body.isNone=false:=⟨Tryz.f158,Tryz.func158,(wj.get Tryz.func158).1,by kernel_rfl⟩
theorem Xz:KCS Tryz.prog 158 (zZ VG):=vu ztz ⟨zqQ,by kernel_rfl,⟨zqS,by kernel_rfl,⟨zqU,by kernel_rfl,trivial⟩⟩⟩
def VH:List (List KV×KV):=[(zbO,zbP),(zbQ,zbR),(zbS,zbT),(zbU,zbV),(zbW,zbX),(zbY,zbZ),(zb0,zb1)]
theorem ztA:∃ fn,Tryz.prog.funcs[121]?=some fn∧(fn.name == "runtime.NumGoroutine")=false∧fn.body.isNone=false:=⟨Tryz.f121,Tryz.func121,(wj.get Tryz.func121).1,by kernel_rfl⟩
theorem XA:KCS Tryz.prog 121 (zZ VH):=vu ztA ⟨zqW,by kernel_rfl,⟨zqY,by kernel_rfl,⟨zq0,by kernel_rfl,⟨zq2,by kernel_rfl,⟨zq4,by kernel_rfl,⟨zq6,by kernel_rfl,⟨zq8,by kernel_rfl,trivial⟩⟩⟩⟩⟩⟩⟩
def YO:List (List KV×KV):=[(ziJ,ziK)]
theorem zxh:∃ fn,Tryz.prog.funcs[61]?=some fn∧(fn.name == "runtime.NumGoroutine")=false∧fn.body.isNone=false:=⟨Tryz.f61,Tryz.func61,(wj.get Tryz.func61).1,by kernel_rfl⟩
theorem Wc:KCS Tryz.prog 61 (zZ YO):=vu zxh ⟨zv6,by kernel_rfl,trivial⟩
def zmw:KEnv:=E0.tab [(276,yv),(190,yw),(311,X8 sbN),(296,za2),(295,zZ VF),(158,zZ VG),(121,zZ VH),(61,zZ YO)]
theorem zkM:KOk zmw:=ok0.tab ⟨Z1,Z2,yC,VD.cls,Xy,Xz,XA,Wc,trivial⟩
def YY:KEnv:=zmw.olo (fun f=>false)
theorem yz:KOk YY:=zkM.olo _
attribute [local irreducible] zp zo
def za3:List KV:=[u5,zll,u18,(.ro false true .sc 0 32 u30)]
def za4:KV:=(.tup (.cons (.ro true true .sc 0 32 u31) u22))
theorem zoq:RnM YY 226 za3 za4:=of_eq_true (by kernel_rfl)
theorem zor:KCS Tryz.prog 226 (xm za3 za4):=xp yz zoq
def zgV:List KV:=[u21]
def zgW:KV:=(.tup (.cons u3 u22))
theorem zth:RnM YY 89 zgV zgW:=of_eq_true (by kernel_rfl)
theorem zti:KCS Tryz.prog 89 (xm zgV zgW):=xp yz zth
def zgX:List KV:=[u27]
def zgY:KV:=(.tup (.cons u26 u22))
theorem ztj:RnM YY 89 zgX zgY:=of_eq_true (by kernel_rfl)
theorem ztk:KCS Tryz.prog 89 (xm zgX zgY):=xp yz ztj
def zgZ:List KV:=[u16]
def zg0:KV:=u21
theorem ztl:RnM YY 16 zgZ zg0:=of_eq_true (by kernel_rfl)
theorem ztm:KCS Tryz.prog 16 (xm zgZ zg0):=xp yz ztl
def za5:List KV:=[(.ro true false .sc 0 7 (.pk .u8 7 31084789086380387)),(.ro false true .sc 0 32 u4)]
def za6:KV:=u0
theorem zos:RnM YY 108 za5 za6:=of_eq_true (by kernel_rfl)
theorem zot:KCS Tryz.prog 108 (xm za5 za6):=xp yz zos
def za7:List KV:=[(.ro false true .sc 0 32 u0),(.ro false false .sc 0 8 (.pk .u8 8 104832358248836709))]
def za8:KV:=u1
theorem zou:RnM YY 108 za7 za8:=of_eq_true (by kernel_rfl)
theorem zov:KCS Tryz.prog 108 (xm za7 za8):=xp yz zou
def za9:List KV:=[(.ro false true .sc 0 32 u0),(.ro false false .sc 0 4 (.pk .u8 4 23290221))]
def zba:KV:=u2
theorem zow:RnM YY 108 za9 zba:=of_eq_true (by kernel_rfl)
theorem zox:KCS Tryz.prog 108 (xm za9 zba):=xp yz zow
end
end Go.K
set_option maxRecDepth 10000
namespace Go.K
open Go.Ab Go.RowKit Go.Y Go.Proofs
noncomputable section
def Wj:List (List KV×KV):=[(za3,za4)]
theorem ztH:∃ fn,Tryz.prog.funcs[226]?=some fn∧(fn.name == "runtime.NumGoroutine")=false∧fn.body.isNone=false:=⟨Tryz.f226,Tryz.func226,(wj.get Tryz.func226).1,by kernel_rfl⟩
theorem Wk:KCS Tryz.prog 226 (zZ Wj):=vu ztH ⟨zor,by kernel_rfl,trivial⟩
def zdj:List (List KV×KV):=[(zgV,zgW),(zgX,zgY)]
theorem zxm:∃ fn,Tryz.prog.funcs[89]?=some fn∧(fn.name == "runtime.NumGoroutine")=false∧fn.body.isNone=false:=⟨Tryz.f89,Tryz.func89,(wj.get Tryz.func89).1,by kernel_rfl⟩
theorem zbh:KCS Tryz.prog 89 (zZ zdj):=vu zxm ⟨zti,by kernel_rfl,⟨ztk,by kernel_rfl,trivial⟩⟩
def zdk:List (List KV×KV):=[(zgZ,zg0)]
theorem zxn:∃ fn,Tryz.prog.funcs[16]?=some fn∧(fn.name == "runtime.NumGoroutine")=false∧fn.body.isNone=false:=⟨Tryz.f16,Tryz.func16,(wj.get Tryz.func16).1,by kernel_rfl⟩
theorem zbi:KCS Tryz.prog 16 (zZ zdk):=vu zxn ⟨ztm,by kernel_rfl,trivial⟩
def Wl:List (List KV×KV):=[(za5,za6),(za7,za8),(za9,zba)]
theorem ztI:∃ fn,Tryz.prog.funcs[108]?=some fn∧(fn.name == "runtime.NumGoroutine")=false∧fn.body.isNone=false:=⟨Tryz.f108,Tryz.func108,(wj.get Tryz.func108).1,by kernel_rfl⟩
theorem Wm:KCS Tryz.prog 108 (zZ Wl):=vu ztI ⟨zot,by kernel_rfl,⟨zov,by kernel_rfl,⟨zox,by kernel_rfl,trivial⟩⟩⟩
def zmS:KEnv:=E0.tab [(276,yv),(190,yw),(311,X8 sbN),(296,za2),(295,zZ VF),(158,zZ VG),(121,zZ VH),(61,zZ YO),(226,zZ Wj),(89,zZ zdj),(16,zZ zdk),(108,zZ Wl)]
theorem zld:KOk zmS:=ok0.tab ⟨Z1,Z2,yC,VD.cls,Xy,Xz,XA,Wc,Wk,zbh,zbi,Wm,trivial⟩
def zbD:KEnv:=zmS.olo (fun f=>false)
theorem Z0:KOk zbD:=zld.olo _
attribute [local irreducible] zp zo
def zbj:List KV:=[(.cons u5 (.cons u2 .nl)),u18,zll,u30]
def zbk:KV:=(.tup (.cons u31 (.cons u24 u22)))
theorem zoT:RnM zbD 105 zbj zbk:=of_eq_true (by kernel_rfl)
theorem zoU:KCS Tryz.prog 105 (xm zbj zbk):=xp Z0 zoT
def zhg:List KV:=[u21,(.cons u3 (.cons (.int .u64 (.ofNat 0)) u12))]
def zhh:KV:=(.tup (.cons u28 (.cons (.cons u3 u29) u22)))
theorem ztN:RnM zbD 18 zhg zhh:=of_eq_true (by kernel_rfl)
theorem ztO:KCS Tryz.prog 18 (xm zhg zhh):=xp Z0 ztN
def zhi:List KV:=[u27,(.cons u3 (.cons (.int .u64 (.ofNat 0)) u12))]
def zhj:KV:=(.tup (.cons (.ro true true (.cons .sc (.cons .sc .nl)) 0 1 (.ar 1 (.cons u18 (.cons .nils .nl)) (.tn (.cons (.int .i64 (.ofNat 3)) (.cons (.ro true true .sc 0 185 (.pk .u8 185 799710984503159545631635622464149826613173906079449110236953305915494650450222306259514379269095367506477004418180972544)) .nl)) .te .te .te .te))) (.cons (.cons u26 u29) u22)))
theorem ztP:RnM zbD 18 zhi zhj:=of_eq_true (by kernel_rfl)
theorem ztQ:KCS Tryz.prog 18 (xm zhi zhj):=xp Z0 ztP
def zhk:List KV:=[u21,(.cons (.pk .u8 32 0) u29)]
def zhl:KV:=(.tup (.cons .nils (.cons (.cons (.pk .u8 32 0) (.cons (.int .u64 (.ofNat 0)) u12)) (.cons u7 .nl))))
theorem ztR:RnM zbD 18 zhk zhl:=of_eq_true (by kernel_rfl)
theorem ztS:KCS Tryz.prog 18 (xm zhk zhl):=xp Z0 ztR
def zhm:List KV:=[u21,(.cons (.pk .u8 32 0) (.cons (.int .u64 (.ofNat 18446744073709551614)) u12))]
def zhn:KV:=(.tup (.cons u28 (.cons (.cons u3 (.cons (.int .u64 (.ofNat 18446744073709551615)) u12)) u22)))
theorem ztT:RnM zbD 18 zhm zhn:=of_eq_true (by kernel_rfl)
theorem ztU:KCS Tryz.prog 18 (xm zhm zhn):=xp Z0 ztT
def zbl:List KV:=[u4]
def zbm:KV:=(.tup (.cons u5 (.cons u2 .nl)))
theorem zoV:RnM zbD 101 zbl zbm:=of_eq_true (by kernel_rfl)
theorem zoW:KCS Tryz.prog 101 (xm zbl zbm):=xp Z0 zoV
end
end Go.K
set_option maxRecDepth 10000
namespace Go.K
open Go.Ab Go.RowKit Go.Y Go.Proofs
noncomputable section
def zbs:List (List KV×KV):=[(zbj,zbk)]
theorem zuB:∃ fn,Tryz.prog.funcs[105]?=some fn∧(fn.name == "runtime.NumGoroutine")=false∧fn.body.isNone=false:=⟨Tryz.f105,Tryz.func105,(wj.get Tryz.func105).1,by kernel_rfl⟩
theorem zds:KCS Tryz.prog 105 (zZ zbs):=vu zuB ⟨zoU,by kernel_rfl,trivial⟩
def zhJ:List (List KV×KV):=[(zhg,zhh),(zhi,zhj),(zhk,zhl),(zhm,zhn)]
theorem zxM:∃ fn,Tryz.prog.funcs[18]?=some fn∧(fn.name == "runtime.NumGoroutine")=false∧fn.body.isNone=false:=⟨Tryz.f18,Tryz.func18,(wj.get Tryz.func18).1,by kernel_rfl⟩
theorem zhK:KCS Tryz.prog 18 (zZ zhJ):=vu zxM ⟨ztO,by kernel_rfl,⟨ztQ,by kernel_rfl,⟨ztS,by kernel_rfl,⟨ztU,by kernel_rfl,trivial⟩⟩⟩⟩
def zbt:List (List KV×KV):=[(zbl,zbm)]
theorem zuC:∃ fn,Tryz.prog.funcs[101]?=some fn∧(fn.name == "runtime.NumGoroutine")=false∧fn.body.isNone=false:=⟨Tryz.f101,Tryz.func101,(wj.get Tryz.func101).1,by kernel_rfl⟩
theorem zdt:KCS Tryz.prog 101 (zZ zbt):=vu zuC ⟨zoW,by kernel_rfl,trivial⟩
def zmE:KEnv:=E0.tab [(276,yv),(190,yw),(311,X8 sbN),(296,za2),(295,zZ VF),(158,zZ VG),(121,zZ VH),(61,zZ YO),(226,zZ Wj),(89,zZ zdj),(16,zZ zdk),(108,zZ Wl),(105,zZ zbs),(18,zZ zhJ),(101,zZ zbt)]
theorem zk1:KOk zmE:=ok0.tab ⟨Z1,Z2,yC,VD.cls,Xy,Xz,XA,Wc,Wk,zbh,zbi,Wm,zds,zhK,zdt,trivial⟩
def zqk:KEnv:=zmE.olo (fun f=>false)
theorem zic:KOk zqk:=zk1.olo _
attribute [local irreducible] zp zo
def zhv:List KV:=[u21,(.cons u5 (.cons u2 .nl)),u18,zll,u30]
def zhw:KV:=(.tup (.cons u27 (.cons (.cons u18 (.cons (.ro true true .sc 0 32 u31) .nl)) u22)))
theorem zui:RnM zqk 32 zhv zhw:=of_eq_true (by kernel_rfl)
theorem zuj:KCS Tryz.prog 32 (xm zhv zhw):=xp zic zui
def zhx:List KV:=[(.cons u6 (.cons .nils (.cons .nils (.cons u6 (.cons u6 .nl)))))]
def zhy:KV:=(.cons u7 (.cons u5 (.cons u2 (.cons (.cons (.ro true false .sc 0 4 (.ar 4 .nils (.tn u10 (.tn u10 .te .te .te .te) (.tn (.ro true false (.cons .sc (.cons .sc .nl)) 0 2 (.ar 2 u9 (.tn u9 (.tn (.cons (.bool true) (.cons (.str 185 0) .nl)) .te .te .te .te) .te .te .te))) .te .te .te .te) (.tn u10 .te .te .te .te) .te))) .nl) (.cons (.cons u3 (.cons (.int .u64 (.ofNat 0)) (.cons (.int .u64 (.ofNat 1000)) .nl))) (.cons (.ro true false (.arr 32 .sc) 0 1 (.ar 1 (.pk .u8 32 0) (.tn (.pk .u8 32 0) .te .te .te .te))) (.cons u14 u15)))))))
theorem zuk:RnM zqk 30 zhx zhy:=of_eq_true (by kernel_rfl)
theorem zul:KCS Tryz.prog 30 (xm zhx zhy):=xp zic zuk
end
end Go.K
set_option maxRecDepth 10000
namespace Go.K
open Go.Ab Go.RowKit Go.Y Go.Proofs
noncomputable section
def zmC:List (List KV×KV):=[(zhv,zhw)]
theorem zx3:∃ fn,Tryz.prog.funcs[32]?=some fn∧(fn.name == "runtime.NumGoroutine")=false∧fn.body.isNone=false:=⟨Tryz.f32,Tryz.func32,(wj.get Tryz.func32).1,by kernel_rfl⟩
theorem zp4:KCS Tryz.prog 32 (zZ zmC):=vu zx3 ⟨zuj,by kernel_rfl,trivial⟩
def zmD:List (List KV×KV):=[(zhx,zhy)]
theorem zx4:∃ fn,Tryz.prog.funcs[30]?=some fn∧(fn.name == "runtime.NumGoroutine")=false∧fn.body.isNone=false:=⟨Tryz.f30,Tryz.func30,(wj.get Tryz.func30).1,by kernel_rfl⟩
theorem zp5:KCS Tryz.prog 30 (zZ zmD):=vu zx4 ⟨zul,by kernel_rfl,trivial⟩
def zmi:KEnv:=E0.tab [(276,yv),(190,yw),(311,X8 sbN),(296,za2),(295,zZ VF),(158,zZ VG),(121,zZ VH),(61,zZ YO),(226,zZ Wj),(89,zZ zdj),(16,zZ zdk),(108,zZ Wl),(105,zZ zbs),(18,zZ zhJ),(101,zZ zbt),(32,zZ zmC),(30,zZ zmD)]
theorem zkD:KOk zmi:=ok0.tab ⟨Z1,Z2,yC,VD.cls,Xy,Xz,XA,Wc,Wk,zbh,zbi,Wm,zds,zhK,zdt,zp4,zp5,trivial⟩
def ztV:KEnv:=zmi.olo (fun f=>false)
theorem zo0:KOk ztV:=zkD.olo _
attribute [local irreducible] zp zo
def zmI:List KV:=[]
def zmJ:KV:=(.bool true)
theorem zvE:RnM ztV 22 zmI zmJ:=of_eq_true (by kernel_rfl)
theorem zvF:KCS Tryz.prog 22 (xm zmI zmJ):=xp zo0 zvE
end
end Go.K
set_option maxRecDepth 10000
namespace Go.K
open Go.Ab Go.RowKit Go.Y Go.Proofs
noncomputable section
end
end Go.K
