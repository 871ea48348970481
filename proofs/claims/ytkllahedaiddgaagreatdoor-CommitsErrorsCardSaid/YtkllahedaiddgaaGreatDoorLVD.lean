/- Tables of contracts. No condition. -/
import Derived.Test.YtkllahedaiddgaaGreatDoorMC
import Derived.Test.YtkllahedaiddgaaGreatDoorK21
set_option linter.unusedVariables false
set_option maxRecDepth 10000
namespace Go.K
open Go.Ab Go.RowKit Go.Y Go.Proofs
noncomputable section
def RnM (E:KEnv) (f:Nat) (a:List KV) (r:KV):Prop:=zn E (zu E 1000000) 0 f a .e 0 0 (fun x zm _ _=>tK (fzB zm 60 x r))
theorem xO {E:KEnv}{f:Nat}{a:List KV}{r:KV}(hE:KOk E) (h:RnM E f a r):KCS E.P f (xL a r):=zpr hE h
def u0:KV:=(.pk .u8 32 27342162514947653583937906222160396351575366345600806056086070088289311440504)
def u1:KV:=(.pk .u8 32 918395647173819365373735878896344643108083295023627920875243912625669619961)
def u2:KV:=(.pk .u8 32 32964475149327106443761119737132610979723272928706672007876046231495031425136)
def u3:KV:=(.pk .u8 32 49335936114469730489519566754954389822356494958623753279784912804745734766010)
def u4:KV:=(.pk .u8 32 42224713879204023466108653541345754264002120359733472579832652548952497193728)
def u5:KV:=(.pk .u8 16 125900742916195838709135468801027031289)
def u6:KV:=(.int .u8 (.ofNat 0))
def u7:KV:=(.int .i64 (.ofNat 1))
def u8:KV:=(.bool false)
def u9:KV:=(.cons u8 (.cons (.str 0 0) .nl))
def u10:KV:=(.ro true false (.cons .sc (.cons .sc .nl)) 0 1 (.ar 1 u9 (.tn u9 .te .te .te .te)))
def u11:KV:=(.int .u32 (.ofNat 0))
def u12:KV:=(.cons (.int .u64 (.ofNat 0)) .nl)
def u13:KV:=(.cons u6 (.cons (.cons u11 u12) (.cons (.pk .u8 32 0) .nl)))
def u14:KV:=(.ro true false (.cons .sc (.cons (.cons .sc (.cons .sc .nl)) (.cons (.arr 32 .sc) .nl))) 0 1 (.ar 1 u13 (.tn u13 .te .te .te .te)))
def u15:KV:=(.cons (.ro true false .sc 0 1 (.pk .i64 1 0)) .nl)
def u16:KV:=(.cons u14 (.cons (.ro true true .sc 0 1 (.ar 1 u8 .te)) u15))
def u17:KV:=(.cons (.ar 4 (.cons u6 (.cons (.pk .u8 32 0) .nl)) .te) .nl)
def u18:KV:=(.int .i64 (.ofNat 0))
def u19:KV:=(.cons (.cons u6 (.cons u11 (.cons (.ar 4 u13 .te) u17))) (.cons u18 (.cons u8 (.cons (.ar 4 u8 .te) .nl))))
def u20:KV:=(.cons u6 (.cons u11 (.cons (.ar 4 u13 (.tn u13 .te .te .te .te)) u17)))
def u21:KV:=(.cons u7 (.cons (.ro true false (.cons (.cons .sc (.cons .sc (.cons (.arr 4 (.cons .sc (.cons (.cons .sc (.cons .sc .nl)) (.cons (.arr 32 .sc) .nl)))) (.cons (.arr 4 (.cons .sc (.cons (.arr 32 .sc) .nl))) .nl)))) (.cons .sc (.cons .sc (.cons (.arr 4 .sc) .nl)))) 0 1 (.ar 1 u19 (.tn (.cons u20 (.cons u18 (.cons u8 (.cons (.ar 4 u8 (.tn u8 .te .te .te .te)) .nl)))) .te .te .te .te))) .nl))
def u22:KV:=(.cons u18 .nl)
def u23:KV:=(.cons u11 (.cons (.int .u64 (.ofNat 1)) .nl))
def u24:KV:=(.pk .u8 32 35860280783614881728396713324440587946675328474378991360757621235300248670077)
def u25:KV:=(.cons u6 (.cons u11 (.cons (.ar 4 u13 (.tn (.cons (.int .u8 (.ofNat 1)) (.cons u23 (.cons u24 .nl))) .te .te .te .te)) u17)))
def u26:KV:=(.pk .u8 32 91069160870447631625781895594131259893949853831593969626282307065470936561168)
def u27:KV:=(.cons u7 (.cons (.ro true true (.cons (.cons .sc (.cons .sc (.cons (.arr 4 (.cons .sc (.cons (.cons .sc (.cons .sc .nl)) (.cons (.arr 32 .sc) .nl)))) (.cons (.arr 4 (.cons .sc (.cons (.arr 32 .sc) .nl))) .nl)))) (.cons .sc (.cons .sc (.cons (.arr 4 .sc) .nl)))) 0 1 (.ar 1 u19 (.tn (.cons u25 (.cons u18 (.cons (.bool true) (.cons (.ar 4 u8 (.tn (.bool true) .te .te .te .te)) .nl)))) .te .te .te .te))) .nl))
def u28:KV:=(.ro true true (.cons .sc (.cons .sc .nl)) 0 1 (.ar 1 (.cons u18 (.cons .nils .nl)) (.tn (.cons (.int .i64 (.ofNat 3)) (.cons (.ro true true .sc 0 185 (.pk .u8 185 0)) .nl)) .te .te .te .te)))
def u29:KV:=(.cons (.int .u64 (.ofNat 1)) u12)
def u30:KV:=(.pk .u8 32 72644956254307023334172677176923078829283337553784033986769275503311282178565)
def u31:KV:=(.pk .u8 32 92843029935034982619735682310687812758405920811659628743660729675282379229344)
def ztv:KEnv:=E0.tab [(276,Zg),(190,Zh),(311,Ja sbN),(296,zck)]
theorem zrH:KOk ztv:=ok0.tab ⟨XU,XV,Zo,JF.cls,trivial⟩
def XR:KEnv:=ztv.olo (fun f=>false)
theorem jD:KOk XR:=zrH.olo _
attribute [local irreducible] zu zn
def zc2:List KV:=[u5]
def zc3:KV:=(.ar 11 (.pk .u8 16 0) (.tn u5 (.tn (.pk .u8 16 242869959838438247255521294913263757590) (.tn (.pk .u8 16 269302979424140993974069016523225751305) .te .te .te .te) (.tn (.pk .u8 16 153731746052537013454737986992765978853) .te .te .te .te) .te .te) (.tn (.pk .u8 16 36452185410163263461495545261998948547) (.tn (.pk .u8 16 143683860380804260022767831412741255476) .te .te .te .te) (.tn (.pk .u8 16 3446989684286966896826725208741876753) .te .te .te .te) .te .te) (.tn (.pk .u8 16 310732588913209192371438187212391845999) (.tn (.pk .u8 16 262627799441842258676587090763300248696) .te .te .te .te) .te .te .te) (.tn (.pk .u8 16 260079654999987094214484817601803717774) (.tn (.pk .u8 16 277889940091674990717689742084919705250) .te .te .te .te) .te .te .te)))
theorem zyb:RnM XR 295 zc2 zc3:=of_eq_true (by kernel_rfl)
theorem zyc:KCS Tryz.prog 295 (xL zc2 zc3):=xO jD zyb
def zc4:List KV:=[(.cons u6 (.cons u11 (.cons (.ar 4 u13 .te) u17)))]
def zc5:KV:=(.tup (.cons u3 u22))
theorem zyd:RnM XR 158 zc4 zc5:=of_eq_true (by kernel_rfl)
theorem zye:KCS Tryz.prog 158 (xL zc4 zc5):=xO jD zyd
def zc6:List KV:=[u20]
def zc7:KV:=(.tup (.cons u3 u22))
theorem zyf:RnM XR 158 zc6 zc7:=of_eq_true (by kernel_rfl)
theorem zyg:KCS Tryz.prog 158 (xL zc6 zc7):=xO jD zyf
def zc8:List KV:=[u25]
def zc9:KV:=(.tup (.cons u26 u22))
theorem zyh:RnM XR 158 zc8 zc9:=of_eq_true (by kernel_rfl)
theorem zyi:KCS Tryz.prog 158 (xL zc8 zc9):=xO jD zyh
def zda:List KV:=[(.ro false false .sc 0 96 (.pk .u8 96 566140853589148946870474457984203930645925124765414994899334131882717726875810282989457506122591293999806059006249493316186701702744726243540111755036458229892576425066561221106338302745878930532932689132329488446838558131425859413))]
def zdb:KV:=(.pk .u8 32 51314546588194500245496713354475835515053996139652615115337665443308122487181)
theorem zyj:RnM XR 121 zda zdb:=of_eq_true (by kernel_rfl)
theorem zyk:KCS Tryz.prog 121 (xL zda zdb):=xO jD zyj
def zdc:List KV:=[(.ro false false .sc 0 96 (.pk .u8 96 688015584666603060965751595949963440405175841450582860755834911129447913877030568651307597196816925910052446164881308270410465852353004736958104646169201008524190362377247000914732383695186791069844364534703266017882044942477770047))]
def zdd:KV:=u0
theorem zyl:RnM XR 121 zdc zdd:=of_eq_true (by kernel_rfl)
theorem zym:KCS Tryz.prog 121 (xL zdc zdd):=xO jD zyl
def zde:List KV:=[(.ro false false .sc 0 72 (.pk .u8 72 1405572124243336061622624760095183804805309463977374002555153978857162711183959504002246151411558205493006087567439383400803080786438210279884765064841486790619670261827662))]
def zdf:KV:=(.pk .u8 32 50940835804170272399380056419503170475086328462446399257374090826364225489358)
theorem zyn:RnM XR 121 zde zdf:=of_eq_true (by kernel_rfl)
theorem zyo:KCS Tryz.prog 121 (xL zde zdf):=xO jD zyn
def zdg:List KV:=[(.ro false false .sc 0 96 (.pk .u8 96 683004942253057953621385319192670512702545455895727067926180408021608221538843022958878836316253632595874312860062922794781857693136048816561284730578868300346414502099951402303505789371996187404170390043893294151916867475897508388))]
def zdh:KV:=u1
theorem zyp:RnM XR 121 zdg zdh:=of_eq_true (by kernel_rfl)
theorem zyq:KCS Tryz.prog 121 (xL zdg zdh):=xO jD zyp
def zdi:List KV:=[(.ro false false .sc 0 68 (.pk .u8 68 312270812653216106574411551506944053538697194602955954693919173508113134852519467594446421840967648827979808733620170268552590897790078653924877002294343776372814))]
def zdj:KV:=(.pk .u8 32 3969945945791653932291547731018762908483065712675008024070712448958024695356)
theorem zyr:RnM XR 121 zdi zdj:=of_eq_true (by kernel_rfl)
theorem zys:KCS Tryz.prog 121 (xL zdi zdj):=xO jD zyr
def zdk:List KV:=[(.ro false false .sc 0 96 (.pk .u8 96 53228272733428801309371515277035644141752636185350295293054706299452662709095345271004281184081271719232965432843787059339989538127523648523803988466268794823497781096775605508315492702685521684968876191667691147443137551913116196))]
def zdl:KV:=u2
theorem zyt:RnM XR 121 zdk zdl:=of_eq_true (by kernel_rfl)
theorem zyu:KCS Tryz.prog 121 (xL zdk zdl):=xO jD zyt
def zdm:List KV:=[(.ro false false .sc 0 185 (.pk .u8 185 0))]
def zdn:KV:=u3
theorem zyv:RnM XR 121 zdm zdn:=of_eq_true (by kernel_rfl)
theorem zyw:KCS Tryz.prog 121 (xL zdm zdn):=xO jD zyv
def zn8:List KV:=[u14,(.ro true false .sc 0 1 (.pk .i64 1 0))]
def zn9:KV:=u16
theorem zDh:RnM XR 61 zn8 zn9:=of_eq_true (by kernel_rfl)
theorem zDi:KCS Tryz.prog 61 (xL zn8 zn9):=xO jD zDh
end
end Go.K
set_option maxRecDepth 10000
namespace Go.K
open Go.Ab Go.RowKit Go.Y Go.Proofs
noncomputable section
def JG:List (List KV×KV):=[(zc2,zc3)]
theorem zAn:∃ fn,Tryz.prog.funcs[295]?=some fn∧(fn.name == "runtime.NumGoroutine")=false∧fn.body.isNone=false:=⟨Tryz.f295,Tryz.func295,(yj.get Tryz.func295).1,by kernel_rfl⟩
theorem Vz:KCS Tryz.prog 295 (xk JG):=v4 zAn ⟨zyc,by kernel_rfl,trivial⟩
def JH:List (List KV×KV):=[(zc4,zc5),(zc6,zc7),(zc8,zc9)]
theorem zAo:∃ fn,Tryz.prog.funcs[158]?=some fn∧(fn.name == "runtime.NumGoroutine")=false∧fn.body.isNone=false:=⟨Tryz.f158,Tryz.func158,(yj.get Tryz.func158).1,by kernel_rfl⟩
theorem VA:KCS Tryz.prog 158 (xk JH):=v4 zAo ⟨zye,by kernel_rfl,⟨zyg,by kernel_rfl,⟨zyi,by kernel_rfl,trivial⟩⟩⟩
def JI:List (List KV×KV):=[(zda,zdb),(zdc,zdd),(zde,zdf),(zdg,zdh),(zdi,zdj),(zdk,zdl),(zdm,zdn)]
theorem zAp:∃ fn,Tryz.prog.funcs[121]?=some fn∧(fn.name == "runtime.NumGoroutine")=false∧fn.body.isNone=false:=⟨Tryz.f121,Tryz.func121,(yj.get Tryz.func121).1,by kernel_rfl⟩
theorem VB:KCS Tryz.prog 121 (xk JI):=v4 zAp ⟨zyk,by kernel_rfl,⟨zym,by kernel_rfl,⟨zyo,by kernel_rfl,⟨zyq,by kernel_rfl,⟨zys,by kernel_rfl,⟨zyu,by kernel_rfl,⟨zyw,by kernel_rfl,trivial⟩⟩⟩⟩⟩⟩⟩
def zbk:List (List KV×KV):=[(zn8,zn9)]
theorem zEo:∃ fn,Tryz.prog.funcs[61]?=some fn∧(fn.name == "runtime.NumGoroutine")=false∧fn.body.isNone=false:=⟨Tryz.f61,Tryz.func61,(yj.get Tryz.func61).1,by kernel_rfl⟩
theorem Yz:KCS Tryz.prog 61 (xk zbk):=v4 zEo ⟨zDi,by kernel_rfl,trivial⟩
def zta:KEnv:=E0.tab [(276,Zg),(190,Zh),(311,Ja sbN),(296,zck),(295,xk JG),(158,xk JH),(121,xk JI),(61,xk zbk)]
theorem zqA:KOk zta:=ok0.tab ⟨XU,XV,Zo,JF.cls,Vz,VA,VB,Yz,trivial⟩
def zbr:KEnv:=zta.olo (fun f=>false)
theorem Zn:KOk zbr:=zqA.olo _
attribute [local irreducible] zu zn
def zcm:List KV:=[u5,u23,u18,(.ro false true .sc 0 32 u30)]
def zcn:KV:=(.tup (.cons (.ro true true .sc 0 32 u31) u22))
theorem zuS:RnM zbr 226 zcm zcn:=of_eq_true (by kernel_rfl)
theorem zuT:KCS Tryz.prog 226 (xL zcm zcn):=xO Zn zuS
def ziu:List KV:=[u21]
def ziv:KV:=(.tup (.cons u3 u22))
theorem zzX:RnM zbr 89 ziu ziv:=of_eq_true (by kernel_rfl)
theorem zzY:KCS Tryz.prog 89 (xL ziu ziv):=xO Zn zzX
def ziw:List KV:=[u27]
def zix:KV:=(.tup (.cons u26 u22))
theorem zzZ:RnM zbr 89 ziw zix:=of_eq_true (by kernel_rfl)
theorem zz0:KCS Tryz.prog 89 (xL ziw zix):=xO Zn zzZ
def ziy:List KV:=[u16]
def ziz:KV:=u21
theorem zz1:RnM zbr 16 ziy ziz:=of_eq_true (by kernel_rfl)
theorem zz2:KCS Tryz.prog 16 (xL ziy ziz):=xO Zn zz1
def zco:List KV:=[(.ro true false .sc 0 7 (.pk .u8 7 31084789086380387)),(.ro false true .sc 0 32 u4)]
def zcp:KV:=u0
theorem zuU:RnM zbr 108 zco zcp:=of_eq_true (by kernel_rfl)
theorem zuV:KCS Tryz.prog 108 (xL zco zcp):=xO Zn zuU
def zcq:List KV:=[(.ro false true .sc 0 32 u0),(.ro false false .sc 0 8 (.pk .u8 8 104832358248836709))]
def zcr:KV:=u1
theorem zuW:RnM zbr 108 zcq zcr:=of_eq_true (by kernel_rfl)
theorem zuX:KCS Tryz.prog 108 (xL zcq zcr):=xO Zn zuW
def zcs:List KV:=[(.ro false true .sc 0 32 u0),(.ro false false .sc 0 4 (.pk .u8 4 23290221))]
def zct:KV:=u2
theorem zuY:RnM zbr 108 zcs zct:=of_eq_true (by kernel_rfl)
theorem zuZ:KCS Tryz.prog 108 (xL zcs zct):=xO Zn zuY
end
end Go.K
set_option maxRecDepth 10000
namespace Go.K
open Go.Ab Go.RowKit Go.Y Go.Proofs
noncomputable section
def YH:List (List KV×KV):=[(zcm,zcn)]
theorem zAH:∃ fn,Tryz.prog.funcs[226]?=some fn∧(fn.name == "runtime.NumGoroutine")=false∧fn.body.isNone=false:=⟨Tryz.f226,Tryz.func226,(yj.get Tryz.func226).1,by kernel_rfl⟩
theorem YI:KCS Tryz.prog 226 (xk YH):=v4 zAH ⟨zuT,by kernel_rfl,trivial⟩
def zeA:List (List KV×KV):=[(ziu,ziv),(ziw,zix)]
theorem zEB:∃ fn,Tryz.prog.funcs[89]?=some fn∧(fn.name == "runtime.NumGoroutine")=false∧fn.body.isNone=false:=⟨Tryz.f89,Tryz.func89,(yj.get Tryz.func89).1,by kernel_rfl⟩
theorem zcC:KCS Tryz.prog 89 (xk zeA):=v4 zEB ⟨zzY,by kernel_rfl,⟨zz0,by kernel_rfl,trivial⟩⟩
def zeB:List (List KV×KV):=[(ziy,ziz)]
theorem zEC:∃ fn,Tryz.prog.funcs[16]?=some fn∧(fn.name == "runtime.NumGoroutine")=false∧fn.body.isNone=false:=⟨Tryz.f16,Tryz.func16,(yj.get Tryz.func16).1,by kernel_rfl⟩
theorem zcD:KCS Tryz.prog 16 (xk zeB):=v4 zEC ⟨zz2,by kernel_rfl,trivial⟩
def YJ:List (List KV×KV):=[(zco,zcp),(zcq,zcr),(zcs,zct)]
theorem zAI:∃ fn,Tryz.prog.funcs[108]?=some fn∧(fn.name == "runtime.NumGoroutine")=false∧fn.body.isNone=false:=⟨Tryz.f108,Tryz.func108,(yj.get Tryz.func108).1,by kernel_rfl⟩
theorem YK:KCS Tryz.prog 108 (xk YJ):=v4 zAI ⟨zuV,by kernel_rfl,⟨zuX,by kernel_rfl,⟨zuZ,by kernel_rfl,trivial⟩⟩⟩
def ztw:KEnv:=E0.tab [(276,Zg),(190,Zh),(311,Ja sbN),(296,zck),(295,xk JG),(158,xk JH),(121,xk JI),(61,xk zbk),(226,xk YH),(89,xk zeA),(16,xk zeB),(108,xk YJ)]
theorem zrJ:KOk ztw:=ok0.tab ⟨XU,XV,Zo,JF.cls,Vz,VA,VB,Yz,YI,zcC,zcD,YK,trivial⟩
def zcZ:KEnv:=ztw.olo (fun f=>false)
theorem XT:KOk zcZ:=zrJ.olo _
attribute [local irreducible] zu zn
def zcE:List KV:=[(.cons u5 (.cons u2 .nl)),u18,u23,u30]
def zcF:KV:=(.tup (.cons u31 (.cons u24 u22)))
theorem zvS:RnM zcZ 105 zcE zcF:=of_eq_true (by kernel_rfl)
theorem zvT:KCS Tryz.prog 105 (xL zcE zcF):=xO XT zvS
def zjQ:List KV:=[u21,(.cons u3 (.cons (.int .u64 (.ofNat 0)) u12))]
def zjR:KV:=(.tup (.cons u28 (.cons (.cons u3 u29) u22)))
theorem zAJ:RnM zcZ 18 zjQ zjR:=of_eq_true (by kernel_rfl)
theorem zAK:KCS Tryz.prog 18 (xL zjQ zjR):=xO XT zAJ
def zjS:List KV:=[u27,(.cons u3 (.cons (.int .u64 (.ofNat 0)) u12))]
def zjT:KV:=(.tup (.cons (.ro true true (.cons .sc (.cons .sc .nl)) 0 1 (.ar 1 (.cons u18 (.cons .nils .nl)) (.tn (.cons (.int .i64 (.ofNat 3)) (.cons (.ro true true .sc 0 185 (.pk .u8 185 799710984503159545631635622464149826613173906079449110236953305915494650450222306259514379269095367506477004418180972544)) .nl)) .te .te .te .te))) (.cons (.cons u26 u29) u22)))
theorem zAL:RnM zcZ 18 zjS zjT:=of_eq_true (by kernel_rfl)
theorem zAM:KCS Tryz.prog 18 (xL zjS zjT):=xO XT zAL
def zjU:List KV:=[u21,(.cons (.pk .u8 32 0) u29)]
def zjV:KV:=(.tup (.cons .nils (.cons (.cons (.pk .u8 32 0) (.cons (.int .u64 (.ofNat 0)) u12)) (.cons u7 .nl))))
theorem zAN:RnM zcZ 18 zjU zjV:=of_eq_true (by kernel_rfl)
theorem zAO:KCS Tryz.prog 18 (xL zjU zjV):=xO XT zAN
def zjW:List KV:=[u21,(.cons (.pk .u8 32 0) (.cons (.int .u64 (.ofNat 18446744073709551614)) u12))]
def zjX:KV:=(.tup (.cons u28 (.cons (.cons u3 (.cons (.int .u64 (.ofNat 18446744073709551615)) u12)) u22)))
theorem zAP:RnM zcZ 18 zjW zjX:=of_eq_true (by kernel_rfl)
theorem zAQ:KCS Tryz.prog 18 (xL zjW zjX):=xO XT zAP
def zcG:List KV:=[u4]
def zcH:KV:=(.tup (.cons u5 (.cons u2 .nl)))
theorem zvU:RnM zcZ 101 zcG zcH:=of_eq_true (by kernel_rfl)
theorem zvV:KCS Tryz.prog 101 (xL zcG zcH):=xO XT zvU
end
end Go.K
set_option maxRecDepth 10000
namespace Go.K
open Go.Ab Go.RowKit Go.Y Go.Proofs
noncomputable section
def zcM:List (List KV×KV):=[(zcE,zcF)]
theorem zBF:∃ fn,Tryz.prog.funcs[105]?=some fn∧(fn.name == "runtime.NumGoroutine")=false∧fn.body.isNone=false:=⟨Tryz.f105,Tryz.func105,(yj.get Tryz.func105).1,by kernel_rfl⟩
theorem zeJ:KCS Tryz.prog 105 (xk zcM):=v4 zBF ⟨zvT,by kernel_rfl,trivial⟩
def zke:List (List KV×KV):=[(zjQ,zjR),(zjS,zjT),(zjU,zjV),(zjW,zjX)]
theorem zEX:∃ fn,Tryz.prog.funcs[18]?=some fn∧(fn.name == "runtime.NumGoroutine")=false∧fn.body.isNone=false:=⟨Tryz.f18,Tryz.func18,(yj.get Tryz.func18).1,by kernel_rfl⟩
theorem zkf:KCS Tryz.prog 18 (xk zke):=v4 zEX ⟨zAK,by kernel_rfl,⟨zAM,by kernel_rfl,⟨zAO,by kernel_rfl,⟨zAQ,by kernel_rfl,trivial⟩⟩⟩⟩
def zcN:List (List KV×KV):=[(zcG,zcH)]
theorem zBG:∃ fn,Tryz.prog.funcs[101]?=some fn∧(fn.name == "runtime.NumGoroutine")=false∧fn.body.isNone=false:=⟨Tryz.f101,Tryz.func101,(yj.get Tryz.func101).1,by kernel_rfl⟩
theorem zeK:KCS Tryz.prog 101 (xk zcN):=v4 zBG ⟨zvV,by kernel_rfl,trivial⟩
def ztj:KEnv:=E0.tab [(276,Zg),(190,Zh),(311,Ja sbN),(296,zck),(295,xk JG),(158,xk JH),(121,xk JI),(61,xk zbk),(226,xk YH),(89,xk zeA),(16,xk zeB),(108,xk YJ),(105,xk zcM),(18,xk zke),(101,xk zcN)]
theorem zq6:KOk ztj:=ok0.tab ⟨XU,XV,Zo,JF.cls,Vz,VA,VB,Yz,YI,zcC,zcD,YK,zeJ,zkf,zeK,trivial⟩
def zxo:KEnv:=ztj.olo (fun f=>false)
theorem zlA:KOk zxo:=zq6.olo _
attribute [local irreducible] zu zn
def zj6:List KV:=[u21,(.cons u5 (.cons u2 .nl)),u18,u23,u30]
def zj7:KV:=(.tup (.cons u27 (.cons (.cons u18 (.cons (.ro true true .sc 0 32 u31) .nl)) u22)))
theorem zBc:RnM zxo 32 zj6 zj7:=of_eq_true (by kernel_rfl)
theorem zBd:KCS Tryz.prog 32 (xL zj6 zj7):=xO zlA zBc
def zj8:List KV:=[(.cons u6 (.cons .nils (.cons .nils (.cons u6 (.cons u6 .nl)))))]
def zj9:KV:=(.cons u7 (.cons u5 (.cons u2 (.cons (.cons (.ro true false .sc 0 4 (.ar 4 .nils (.tn u10 (.tn u10 .te .te .te .te) (.tn (.ro true false (.cons .sc (.cons .sc .nl)) 0 2 (.ar 2 u9 (.tn u9 (.tn (.cons (.bool true) (.cons (.str 185 0) .nl)) .te .te .te .te) .te .te .te))) .te .te .te .te) (.tn u10 .te .te .te .te) .te))) .nl) (.cons (.cons u3 (.cons (.int .u64 (.ofNat 0)) (.cons (.int .u64 (.ofNat 1000)) .nl))) (.cons (.ro true false (.arr 32 .sc) 0 1 (.ar 1 (.pk .u8 32 0) (.tn (.pk .u8 32 0) .te .te .te .te))) (.cons u14 u15)))))))
theorem zBe:RnM zxo 30 zj8 zj9:=of_eq_true (by kernel_rfl)
theorem zBf:KCS Tryz.prog 30 (xL zj8 zj9):=xO zlA zBe
end
end Go.K
set_option maxRecDepth 10000
namespace Go.K
open Go.Ab Go.RowKit Go.Y Go.Proofs
noncomputable section
def ztf:List (List KV×KV):=[(zj6,zj7)]
theorem zFi:∃ fn,Tryz.prog.funcs[32]?=some fn∧(fn.name == "runtime.NumGoroutine")=false∧fn.body.isNone=false:=⟨Tryz.f32,Tryz.func32,(yj.get Tryz.func32).1,by kernel_rfl⟩
theorem zw6:KCS Tryz.prog 32 (xk ztf):=v4 zFi ⟨zBd,by kernel_rfl,trivial⟩
def ztg:List (List KV×KV):=[(zj8,zj9)]
theorem zFj:∃ fn,Tryz.prog.funcs[30]?=some fn∧(fn.name == "runtime.NumGoroutine")=false∧fn.body.isNone=false:=⟨Tryz.f30,Tryz.func30,(yj.get Tryz.func30).1,by kernel_rfl⟩
theorem zw7:KCS Tryz.prog 30 (xk ztg):=v4 zFj ⟨zBf,by kernel_rfl,trivial⟩
def zsU:KEnv:=E0.tab [(276,Zg),(190,Zh),(311,Ja sbN),(296,zck),(295,xk JG),(158,xk JH),(121,xk JI),(61,xk zbk),(226,xk YH),(89,xk zeA),(16,xk zeB),(108,xk YJ),(105,xk zcM),(18,xk zke),(101,xk zcN),(32,xk ztf),(30,xk ztg)]
theorem zqm:KOk zsU:=ok0.tab ⟨XU,XV,Zo,JF.cls,Vz,VA,VB,Yz,YI,zcC,zcD,YK,zeJ,zkf,zeK,zw6,zw7,trivial⟩
def zAR:KEnv:=zsU.olo (fun f=>false)
theorem zv1:KOk zAR:=zqm.olo _
attribute [local irreducible] zu zn
def ztt:List KV:=[]
def ztu:KV:=(.bool true)
theorem zCI:RnM zAR 22 ztt ztu:=of_eq_true (by kernel_rfl)
theorem zCJ:KCS Tryz.prog 22 (xL ztt ztu):=xO zv1 zCI
end
end Go.K
set_option maxRecDepth 10000
namespace Go.K
open Go.Ab Go.RowKit Go.Y Go.Proofs
noncomputable section
end
end Go.K
