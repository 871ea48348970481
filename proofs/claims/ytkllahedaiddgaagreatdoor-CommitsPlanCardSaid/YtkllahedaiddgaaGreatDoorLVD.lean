/- Tables of contracts. No condition. -/
import Derived.Test.YtkllahedaiddgaaGreatDoorMC
import Derived.Test.YtkllahedaiddgaaGreatDoorK13
set_option linter.unusedSimpArgs false
set_option linter.unusedVariables false
set_option maxRecDepth 10000
namespace Go.K
open Go.Ab Go.RowKit Go.Y Go.Proofs
noncomputable section
def RnM (E:KEnv) (f:Nat) (a:List KV) (r:KV):Prop:=zk E (zp E 1000000) 0 f a .e 0 0 (fun x zm _ _=>tK (fzB zm 60 x r))
theorem xN {E:KEnv}{f:Nat}{a:List KV}{r:KV}(hE:KOk E) (h:RnM E f a r):KCS E.P f (xG a r):=zov hE h
def u0:KV:=(.pk .u8 32 27342162514947653583937906222160396351575366345600806056086070088289311440504)
def u1:KV:=(.pk .u8 32 918395647173819365373735878896344643108083295023627920875243912625669619961)
def u2:KV:=(.pk .u8 32 32964475149327106443761119737132610979723272928706672007876046231495031425136)
def u3:KV:=(.pk .u8 32 49335936114469730489519566754954389822356494958623753279784912804745734766010)
def u4:KV:=(.pk .u8 32 42224713879204023466108653541345754264002120359733472579832652548952497193728)
def u5:KV:=(.pk .u8 16 125900742916195838709135468801027031289)
def u6:KV:=(.int .u8 (.ofNat 0))
def u7:KV:=(.int .i64 (.ofNat 1))
def u8:KV:=(.bool false)
def u9:KV:=(.cons u8 (.cons (.str 0 0) .nl))
def u10:KV:=(.ro true false (.cons .sc (.cons .sc .nl)) 0 1 (.ar 1 u9 (.tn u9 .te .te .te .te)))
def u11:KV:=(.int .u32 (.ofNat 0))
def u12:KV:=(.cons (.int .u64 (.ofNat 0)) .nl)
def u13:KV:=(.cons u6 (.cons (.cons u11 u12) (.cons (.pk .u8 32 0) .nl)))
def u14:KV:=(.ro true false (.cons .sc (.cons (.cons .sc (.cons .sc .nl)) (.cons (.arr 32 .sc) .nl))) 0 1 (.ar 1 u13 (.tn u13 .te .te .te .te)))
def u15:KV:=(.cons (.ro true false .sc 0 1 (.pk .i64 1 0)) .nl)
def u16:KV:=(.cons u14 (.cons (.ro true true .sc 0 1 (.ar 1 u8 .te)) u15))
def u17:KV:=(.cons (.ar 4 (.cons u6 (.cons (.pk .u8 32 0) .nl)) .te) .nl)
def u18:KV:=(.int .i64 (.ofNat 0))
def u19:KV:=(.cons (.cons u6 (.cons u11 (.cons (.ar 4 u13 .te) u17))) (.cons u18 (.cons u8 (.cons (.ar 4 u8 .te) .nl))))
def zF4:KV:=(.cons u6 (.cons u11 (.cons (.ar 4 u13 (.tn u13 .te .te .te .te)) u17)))
def u21:KV:=(.cons u7 (.cons (.ro true false (.cons (.cons .sc (.cons .sc (.cons (.arr 4 (.cons .sc (.cons (.cons .sc (.cons .sc .nl)) (.cons (.arr 32 .sc) .nl)))) (.cons (.arr 4 (.cons .sc (.cons (.arr 32 .sc) .nl))) .nl)))) (.cons .sc (.cons .sc (.cons (.arr 4 .sc) .nl)))) 0 1 (.ar 1 u19 (.tn (.cons zF4 (.cons u18 (.cons u8 (.cons (.ar 4 u8 (.tn u8 .te .te .te .te)) .nl)))) .te .te .te .te))) .nl))
def u22:KV:=(.cons u18 .nl)
def zrJ:KV:=(.cons u11 (.cons (.int .u64 (.ofNat 1)) .nl))
def u24:KV:=(.pk .u8 32 35860280783614881728396713324440587946675328474378991360757621235300248670077)
def u25:KV:=(.cons u6 (.cons u11 (.cons (.ar 4 u13 (.tn (.cons (.int .u8 (.ofNat 1)) (.cons zrJ (.cons u24 .nl))) .te .te .te .te)) u17)))
def u26:KV:=(.pk .u8 32 91069160870447631625781895594131259893949853831593969626282307065470936561168)
def u27:KV:=(.cons u7 (.cons (.ro true true (.cons (.cons .sc (.cons .sc (.cons (.arr 4 (.cons .sc (.cons (.cons .sc (.cons .sc .nl)) (.cons (.arr 32 .sc) .nl)))) (.cons (.arr 4 (.cons .sc (.cons (.arr 32 .sc) .nl))) .nl)))) (.cons .sc (.cons .sc (.cons (.arr 4 .sc) .nl)))) 0 1 (.ar 1 u19 (.tn (.cons u25 (.cons u18 (.cons (.bool true) (.cons (.ar 4 u8 (.tn (.bool true) .te .te .te .te)) .nl)))) .te .te .te .te))) .nl))
def u28:KV:=(.ro true true (.cons .sc (.cons .sc .nl)) 0 1 (.ar 1 (.cons u18 (.cons .nils .nl)) (.tn (.cons (.int .i64 (.ofNat 3)) (.cons (.ro true true .sc 0 185 (.pk .u8 185 0)) .nl)) .te .te .te .te)))
def u29:KV:=(.cons (.int .u64 (.ofNat 1)) u12)
def u30:KV:=(.pk .u8 32 72644956254307023334172677176923078829283337553784033986769275503311282178565)
def u31:KV:=(.pk .u8 32 92843029935034982619735682310687812758405920811659628743660729675282379229344)
def ztx:KEnv:=E0.tab [(276,y6),(190,y7),(311,VQ sbN),(296,zb1)]
theorem zqS:KOk ztx:=ok0.tab ⟨XF,XG,Ze,Jn.cls,trivial⟩
def XC:KEnv:=ztx.olo (fun f=>false)
theorem jz:KOk XC:=zqS.olo _
attribute [local irreducible] zp zk
def zcN:List KV:=[u5]
def zcO:KV:=(.ar 11 (.pk .u8 16 0) (.tn u5 (.tn (.pk .u8 16 242869959838438247255521294913263757590) (.tn (.pk .u8 16 269302979424140993974069016523225751305) .te .te .te .te) (.tn (.pk .u8 16 153731746052537013454737986992765978853) .te .te .te .te) .te .te) (.tn (.pk .u8 16 36452185410163263461495545261998948547) (.tn (.pk .u8 16 143683860380804260022767831412741255476) .te .te .te .te) (.tn (.pk .u8 16 3446989684286966896826725208741876753) .te .te .te .te) .te .te) (.tn (.pk .u8 16 310732588913209192371438187212391845999) (.tn (.pk .u8 16 262627799441842258676587090763300248696) .te .te .te .te) .te .te .te) (.tn (.pk .u8 16 260079654999987094214484817601803717774) (.tn (.pk .u8 16 277889940091674990717689742084919705250) .te .te .te .te) .te .te .te)))
theorem zzb:RnM XC 295 zcN zcO:=of_eq_true (by kernel_rfl)
theorem zzc:KCS Tryz.prog 295 (xG zcN zcO):=xN jz zzb
def zcP:List KV:=[(.cons u6 (.cons u11 (.cons (.ar 4 u13 .te) u17)))]
def zcQ:KV:=(.tup (.cons u3 u22))
theorem zzd:RnM XC 158 zcP zcQ:=of_eq_true (by kernel_rfl)
theorem zze:KCS Tryz.prog 158 (xG zcP zcQ):=xN jz zzd
def zcR:List KV:=[zF4]
def zcS:KV:=(.tup (.cons u3 u22))
theorem zzf:RnM XC 158 zcR zcS:=of_eq_true (by kernel_rfl)
theorem zzg:KCS Tryz.prog 158 (xG zcR zcS):=xN jz zzf
def zcT:List KV:=[u25]
def zcU:KV:=(.tup (.cons u26 u22))
theorem zzh:RnM XC 158 zcT zcU:=of_eq_true (by kernel_rfl)
theorem zzi:KCS Tryz.prog 158 (xG zcT zcU):=xN jz zzh
def zcV:List KV:=[(.ro false false .sc 0 96 (.pk .u8 96 566140853589148946870474457984203930645925124765414994899334131882717726875810282989457506122591293999806059006249493316186701702744726243540111755036458229892576425066561221106338302745878930532932689132329488446838558131425859413))]
def zcW:KV:=(.pk .u8 32 51314546588194500245496713354475835515053996139652615115337665443308122487181)
theorem zzj:RnM XC 121 zcV zcW:=of_eq_true (by kernel_rfl)
theorem zzk:KCS Tryz.prog 121 (xG zcV zcW):=xN jz zzj
def zcX:List KV:=[(.ro false false .sc 0 96 (.pk .u8 96 688015584666603060965751595949963440405175841450582860755834911129447913877030568651307597196816925910052446164881308270410465852353004736958104646169201008524190362377247000914732383695186791069844364534703266017882044942477770047))]
def zcY:KV:=u0
theorem zzl:RnM XC 121 zcX zcY:=of_eq_true (by kernel_rfl)
theorem zzm:KCS Tryz.prog 121 (xG zcX zcY):=xN jz zzl
def zcZ:List KV:=[(.ro false false .sc 0 72 (.pk .u8 72 1405572124243336061622624760095183804805309463977374002555153978857162711183959504002246151411558205493006087567439383400803080786438210279884765064841486790619670261827662))]
def zc0:KV:=(.pk .u8 32 50940835804170272399380056419503170475086328462446399257374090826364225489358)
theorem zzn:RnM XC 121 zcZ zc0:=of_eq_true (by kernel_rfl)
theorem zzo:KCS Tryz.prog 121 (xG zcZ zc0):=xN jz zzn
def zc1:List KV:=[(.ro false false .sc 0 96 (.pk .u8 96 683004942253057953621385319192670512702545455895727067926180408021608221538843022958878836316253632595874312860062922794781857693136048816561284730578868300346414502099951402303505789371996187404170390043893294151916867475897508388))]
def zc2:KV:=u1
theorem zzp:RnM XC 121 zc1 zc2:=of_eq_true (by kernel_rfl)
theorem zzq:KCS Tryz.prog 121 (xG zc1 zc2):=xN jz zzp
def zc3:List KV:=[(.ro false false .sc 0 68 (.pk .u8 68 312270812653216106574411551506944053538697194602955954693919173508113134852519467594446421840967648827979808733620170268552590897790078653924877002294343776372814))]
def zc4:KV:=(.pk .u8 32 3969945945791653932291547731018762908483065712675008024070712448958024695356)
theorem zzr:RnM XC 121 zc3 zc4:=of_eq_true (by kernel_rfl)
theorem zzs:KCS Tryz.prog 121 (xG zc3 zc4):=xN jz zzr
def zc5:List KV:=[(.ro false false .sc 0 96 (.pk .u8 96 53228272733428801309371515277035644141752636185350295293054706299452662709095345271004281184081271719232965432843787059339989538127523648523803988466268794823497781096775605508315492702685521684968876191667691147443137551913116196))]
def zc6:KV:=u2
theorem zzt:RnM XC 121 zc5 zc6:=of_eq_true (by kernel_rfl)
theorem zzu:KCS Tryz.prog 121 (xG zc5 zc6):=xN jz zzt
def zc7:List KV:=[(.ro false false .sc 0 185 (.pk .u8 185 0))]
def zc8:KV:=u3
theorem zzv:RnM XC 121 zc7 zc8:=of_eq_true (by kernel_rfl)
theorem zzw:KCS Tryz.prog 121 (xG zc7 zc8):=xN jz zzv
def zmk:List KV:=[u14,(.ro true false .sc 0 1 (.pk .i64 1 0))]
def zml:KV:=u16
theorem zFy:RnM XC 61 zmk zml:=of_eq_true (by kernel_rfl)
theorem zFz:KCS Tryz.prog 61 (xG zmk zml):=xN jz zFy
end
end Go.K
set_option maxRecDepth 10000
namespace Go.K
open Go.Ab Go.RowKit Go.Y Go.Proofs
noncomputable section
def Jo:List (List KV×KV):=[(zcN,zcO)]
theorem zBt:∃ fn,Tryz.prog.funcs[295]?=some fn∧(fn.name == "runtime.NumGoroutine")=false∧fn.body.isNone=false:=⟨Tryz.f295,Tryz.func295,(w5.get Tryz.func295).1,by kernel_rfl⟩
theorem Vk:KCS Tryz.prog 295 (xt Jo):=vW zBt ⟨zzc,by kernel_rfl,trivial⟩
def Jp:List (List KV×KV):=[(zcP,zcQ),(zcR,zcS),(zcT,zcU)]
theorem zBu:∃ fn,Tryz.prog.funcs[158]?=some fn∧(fn.name == "runtime.NumGoroutine")=false∧fn.body.isNone=false:=⟨Tryz.f158,Tryz.func158,(w5.get Tryz.func158).1,by kernel_rfl⟩
theorem Vl:KCS Tryz.prog 158 (xt Jp):=vW zBu ⟨zze,by kernel_rfl,⟨zzg,by kernel_rfl,⟨zzi,by kernel_rfl,trivial⟩⟩⟩
def Jq:List (List KV×KV):=[(zcV,zcW),(zcX,zcY),(zcZ,zc0),(zc1,zc2),(zc3,zc4),(zc5,zc6),(zc7,zc8)]
theorem zBv:∃ fn,Tryz.prog.funcs[121]?=some fn∧(fn.name == "runtime.NumGoroutine")=false∧fn.body.isNone=false:=⟨Tryz.f121,Tryz.func121,(w5.get Tryz.func121).1,by kernel_rfl⟩
theorem Vm:KCS Tryz.prog 121 (xt Jq):=vW zBv ⟨zzk,by kernel_rfl,⟨zzm,by kernel_rfl,⟨zzo,by kernel_rfl,⟨zzq,by kernel_rfl,⟨zzs,by kernel_rfl,⟨zzu,by kernel_rfl,⟨zzw,by kernel_rfl,trivial⟩⟩⟩⟩⟩⟩⟩
def za1:List (List KV×KV):=[(zmk,zml)]
theorem zG4:∃ fn,Tryz.prog.funcs[61]?=some fn∧(fn.name == "runtime.NumGoroutine")=false∧fn.body.isNone=false:=⟨Tryz.f61,Tryz.func61,(w5.get Tryz.func61).1,by kernel_rfl⟩
theorem W9:KCS Tryz.prog 61 (xt za1):=vW zG4 ⟨zFz,by kernel_rfl,trivial⟩
def zs6:KEnv:=E0.tab [(276,y6),(190,y7),(311,VQ sbN),(296,zb1),(295,xt Jo),(158,xt Jp),(121,xt Jq),(61,xt za1)]
theorem zp4:KOk zs6:=ok0.tab ⟨XF,XG,Ze,Jn.cls,Vk,Vl,Vm,W9,trivial⟩
def za8:KEnv:=zs6.olo (fun f=>false)
theorem Zd:KOk za8:=zp4.olo _
attribute [local irreducible] zp zk
def zb2:List KV:=[u5,zrJ,u18,(.ro false true .sc 0 32 u30)]
def zb3:KV:=(.tup (.cons (.ro true true .sc 0 32 u31) u22))
theorem zvj:RnM za8 226 zb2 zb3:=of_eq_true (by kernel_rfl)
theorem zvk:KCS Tryz.prog 226 (xG zb2 zb3):=xN Zd zvj
def zh0:List KV:=[u21]
def zh1:KV:=(.tup (.cons u3 u22))
theorem zA2:RnM za8 89 zh0 zh1:=of_eq_true (by kernel_rfl)
theorem zA3:KCS Tryz.prog 89 (xG zh0 zh1):=xN Zd zA2
def zh2:List KV:=[u27]
def zh3:KV:=(.tup (.cons u26 u22))
theorem zA4:RnM za8 89 zh2 zh3:=of_eq_true (by kernel_rfl)
theorem zA5:KCS Tryz.prog 89 (xG zh2 zh3):=xN Zd zA4
def zh4:List KV:=[u16]
def zh5:KV:=u21
theorem zA6:RnM za8 16 zh4 zh5:=of_eq_true (by kernel_rfl)
theorem zA7:KCS Tryz.prog 16 (xG zh4 zh5):=xN Zd zA6
def zb4:List KV:=[(.ro true false .sc 0 7 (.pk .u8 7 31084789086380387)),(.ro false true .sc 0 32 u4)]
def zb5:KV:=u0
theorem zvl:RnM za8 108 zb4 zb5:=of_eq_true (by kernel_rfl)
theorem zvm:KCS Tryz.prog 108 (xG zb4 zb5):=xN Zd zvl
def zb6:List KV:=[(.ro false true .sc 0 32 u0),(.ro false false .sc 0 8 (.pk .u8 8 104832358248836709))]
def zb7:KV:=u1
theorem zvn:RnM za8 108 zb6 zb7:=of_eq_true (by kernel_rfl)
theorem zvo:KCS Tryz.prog 108 (xG zb6 zb7):=xN Zd zvn
def zb8:List KV:=[(.ro false true .sc 0 32 u0),(.ro false false .sc 0 4 (.pk .u8 4 23290221))]
def zb9:KV:=u2
theorem zvp:RnM za8 108 zb8 zb9:=of_eq_true (by kernel_rfl)
theorem zvq:KCS Tryz.prog 108 (xG zb8 zb9):=xN Zd zvp
end
end Go.K
set_option maxRecDepth 10000
namespace Go.K
open Go.Ab Go.RowKit Go.Y Go.Proofs
noncomputable section
def Yf:List (List KV×KV):=[(zb2,zb3)]
theorem zB7:∃ fn,Tryz.prog.funcs[226]?=some fn∧(fn.name == "runtime.NumGoroutine")=false∧fn.body.isNone=false:=⟨Tryz.f226,Tryz.func226,(w5.get Tryz.func226).1,by kernel_rfl⟩
theorem Yg:KCS Tryz.prog 226 (xt Yf):=vW zB7 ⟨zvk,by kernel_rfl,trivial⟩
def zeh:List (List KV×KV):=[(zh0,zh1),(zh2,zh3)]
theorem zHm:∃ fn,Tryz.prog.funcs[89]?=some fn∧(fn.name == "runtime.NumGoroutine")=false∧fn.body.isNone=false:=⟨Tryz.f89,Tryz.func89,(w5.get Tryz.func89).1,by kernel_rfl⟩
theorem zcg:KCS Tryz.prog 89 (xt zeh):=vW zHm ⟨zA3,by kernel_rfl,⟨zA5,by kernel_rfl,trivial⟩⟩
def zei:List (List KV×KV):=[(zh4,zh5)]
theorem zHn:∃ fn,Tryz.prog.funcs[16]?=some fn∧(fn.name == "runtime.NumGoroutine")=false∧fn.body.isNone=false:=⟨Tryz.f16,Tryz.func16,(w5.get Tryz.func16).1,by kernel_rfl⟩
theorem zch:KCS Tryz.prog 16 (xt zei):=vW zHn ⟨zA7,by kernel_rfl,trivial⟩
def Yh:List (List KV×KV):=[(zb4,zb5),(zb6,zb7),(zb8,zb9)]
theorem zB8:∃ fn,Tryz.prog.funcs[108]?=some fn∧(fn.name == "runtime.NumGoroutine")=false∧fn.body.isNone=false:=⟨Tryz.f108,Tryz.func108,(w5.get Tryz.func108).1,by kernel_rfl⟩
theorem Yi:KCS Tryz.prog 108 (xt Yh):=vW zB8 ⟨zvm,by kernel_rfl,⟨zvo,by kernel_rfl,⟨zvq,by kernel_rfl,trivial⟩⟩⟩
def ztz:KEnv:=E0.tab [(276,y6),(190,y7),(311,VQ sbN),(296,zb1),(295,xt Jo),(158,xt Jp),(121,xt Jq),(61,xt za1),(226,xt Yf),(89,xt zeh),(16,xt zei),(108,xt Yh)]
theorem zq5:KOk ztz:=ok0.tab ⟨XF,XG,Ze,Jn.cls,Vk,Vl,Vm,W9,Yg,zcg,zch,Yi,trivial⟩
def zcH:KEnv:=ztz.olo (fun f=>false)
theorem XE:KOk zcH:=zq5.olo _
attribute [local irreducible] zp zk
def zci:List KV:=[(.cons u5 (.cons u2 .nl)),u18,zrJ,u30]
def zcj:KV:=(.tup (.cons u31 (.cons u24 u22)))
theorem zv5:RnM zcH 105 zci zcj:=of_eq_true (by kernel_rfl)
theorem zv6:KCS Tryz.prog 105 (xG zci zcj):=xN XE zv5
def zir:List KV:=[u21,(.cons u3 (.cons (.int .u64 (.ofNat 0)) u12))]
def zis:KV:=(.tup (.cons u28 (.cons (.cons u3 u29) u22)))
theorem zB9:RnM zcH 18 zir zis:=of_eq_true (by kernel_rfl)
theorem zCa:KCS Tryz.prog 18 (xG zir zis):=xN XE zB9
def zit:List KV:=[u27,(.cons u3 (.cons (.int .u64 (.ofNat 0)) u12))]
def ziu:KV:=(.tup (.cons (.ro true true (.cons .sc (.cons .sc .nl)) 0 1 (.ar 1 (.cons u18 (.cons .nils .nl)) (.tn (.cons (.int .i64 (.ofNat 3)) (.cons (.ro true true .sc 0 185 (.pk .u8 185 799710984503159545631635622464149826613173906079449110236953305915494650450222306259514379269095367506477004418180972544)) .nl)) .te .te .te .te))) (.cons (.cons u26 u29) u22)))
theorem zCb:RnM zcH 18 zit ziu:=of_eq_true (by kernel_rfl)
theorem zCc:KCS Tryz.prog 18 (xG zit ziu):=xN XE zCb
def ziv:List KV:=[u21,(.cons (.pk .u8 32 0) u29)]
def ziw:KV:=(.tup (.cons .nils (.cons (.cons (.pk .u8 32 0) (.cons (.int .u64 (.ofNat 0)) u12)) (.cons u7 .nl))))
theorem zCd:RnM zcH 18 ziv ziw:=of_eq_true (by kernel_rfl)
theorem zCe:KCS Tryz.prog 18 (xG ziv ziw):=xN XE zCd
def zix:List KV:=[u21,(.cons (.pk .u8 32 0) (.cons (.int .u64 (.ofNat 18446744073709551614)) u12))]
def ziy:KV:=(.tup (.cons u28 (.cons (.cons u3 (.cons (.int .u64 (.ofNat 18446744073709551615)) u12)) u22)))
theorem zCf:RnM zcH 18 zix ziy:=of_eq_true (by kernel_rfl)
theorem zCg:KCS Tryz.prog 18 (xG zix ziy):=xN XE zCf
def zck:List KV:=[u4]
def zcl:KV:=(.tup (.cons u5 (.cons u2 .nl)))
theorem zv7:RnM zcH 101 zck zcl:=of_eq_true (by kernel_rfl)
theorem zv8:KCS Tryz.prog 101 (xG zck zcl):=xN XE zv7
end
end Go.K
set_option maxRecDepth 10000
namespace Go.K
open Go.Ab Go.RowKit Go.Y Go.Proofs
noncomputable section
def zcp:List (List KV×KV):=[(zci,zcj)]
theorem zC6:∃ fn,Tryz.prog.funcs[105]?=some fn∧(fn.name == "runtime.NumGoroutine")=false∧fn.body.isNone=false:=⟨Tryz.f105,Tryz.func105,(w5.get Tryz.func105).1,by kernel_rfl⟩
theorem zes:KCS Tryz.prog 105 (xt zcp):=vW zC6 ⟨zv6,by kernel_rfl,trivial⟩
def ziY:List (List KV×KV):=[(zir,zis),(zit,ziu),(ziv,ziw),(zix,ziy)]
theorem zHS:∃ fn,Tryz.prog.funcs[18]?=some fn∧(fn.name == "runtime.NumGoroutine")=false∧fn.body.isNone=false:=⟨Tryz.f18,Tryz.func18,(w5.get Tryz.func18).1,by kernel_rfl⟩
theorem ziZ:KCS Tryz.prog 18 (xt ziY):=vW zHS ⟨zCa,by kernel_rfl,⟨zCc,by kernel_rfl,⟨zCe,by kernel_rfl,⟨zCg,by kernel_rfl,trivial⟩⟩⟩⟩
def zcq:List (List KV×KV):=[(zck,zcl)]
theorem zC7:∃ fn,Tryz.prog.funcs[101]?=some fn∧(fn.name == "runtime.NumGoroutine")=false∧fn.body.isNone=false:=⟨Tryz.f101,Tryz.func101,(w5.get Tryz.func101).1,by kernel_rfl⟩
theorem zet:KCS Tryz.prog 101 (xt zcq):=vW zC7 ⟨zv8,by kernel_rfl,trivial⟩
def ztm:KEnv:=E0.tab [(276,y6),(190,y7),(311,VQ sbN),(296,zb1),(295,xt Jo),(158,xt Jp),(121,xt Jq),(61,xt za1),(226,xt Yf),(89,xt zeh),(16,xt zei),(108,xt Yh),(105,xt zcp),(18,xt ziY),(101,xt zcq)]
theorem zqG:KOk ztm:=ok0.tab ⟨XF,XG,Ze,Jn.cls,Vk,Vl,Vm,W9,Yg,zcg,zch,Yi,zes,ziZ,zet,trivial⟩
def zyi:KEnv:=ztm.olo (fun f=>false)
theorem zk8:KOk zyi:=zqG.olo _
attribute [local irreducible] zp zk
def ziI:List KV:=[u21,(.cons u5 (.cons u2 .nl)),u18,zrJ,u30]
def ziJ:KV:=(.tup (.cons u27 (.cons (.cons u18 (.cons (.ro true true .sc 0 32 u31) .nl)) u22)))
theorem zCF:RnM zyi 32 ziI ziJ:=of_eq_true (by kernel_rfl)
theorem zCG:KCS Tryz.prog 32 (xG ziI ziJ):=xN zk8 zCF
def ziK:List KV:=[(.cons u6 (.cons .nils (.cons .nils (.cons u6 (.cons u6 .nl)))))]
def ziL:KV:=(.cons u7 (.cons u5 (.cons u2 (.cons (.cons (.ro true false .sc 0 4 (.ar 4 .nils (.tn u10 (.tn u10 .te .te .te .te) (.tn (.ro true false (.cons .sc (.cons .sc .nl)) 0 2 (.ar 2 u9 (.tn u9 (.tn (.cons (.bool true) (.cons (.str 185 0) .nl)) .te .te .te .te) .te .te .te))) .te .te .te .te) (.tn u10 .te .te .te .te) .te))) .nl) (.cons (.cons u3 (.cons (.int .u64 (.ofNat 0)) (.cons (.int .u64 (.ofNat 1000)) .nl))) (.cons (.ro true false (.arr 32 .sc) 0 1 (.ar 1 (.pk .u8 32 0) (.tn (.pk .u8 32 0) .te .te .te .te))) (.cons u14 u15)))))))
theorem zCH:RnM zyi 30 ziK ziL:=of_eq_true (by kernel_rfl)
theorem zCI:KCS Tryz.prog 30 (xG ziK ziL):=xN zk8 zCH
end
end Go.K
set_option maxRecDepth 10000
namespace Go.K
open Go.Ab Go.RowKit Go.Y Go.Proofs
noncomputable section
def ztf:List (List KV×KV):=[(ziI,ziJ)]
theorem zIe:∃ fn,Tryz.prog.funcs[32]?=some fn∧(fn.name == "runtime.NumGoroutine")=false∧fn.body.isNone=false:=⟨Tryz.f32,Tryz.func32,(w5.get Tryz.func32).1,by kernel_rfl⟩
theorem zxI:KCS Tryz.prog 32 (xt ztf):=vW zIe ⟨zCG,by kernel_rfl,trivial⟩
def ztg:List (List KV×KV):=[(ziK,ziL)]
theorem zIf:∃ fn,Tryz.prog.funcs[30]?=some fn∧(fn.name == "runtime.NumGoroutine")=false∧fn.body.isNone=false:=⟨Tryz.f30,Tryz.func30,(w5.get Tryz.func30).1,by kernel_rfl⟩
theorem zxJ:KCS Tryz.prog 30 (xt ztg):=vW zIf ⟨zCI,by kernel_rfl,trivial⟩
def zsQ:KEnv:=E0.tab [(276,y6),(190,y7),(311,VQ sbN),(296,zb1),(295,xt Jo),(158,xt Jp),(121,xt Jq),(61,xt za1),(226,xt Yf),(89,xt zeh),(16,xt zei),(108,xt Yh),(105,xt zcp),(18,xt ziY),(101,xt zcq),(32,xt ztf),(30,xt ztg)]
theorem zo5:KOk zsQ:=ok0.tab ⟨XF,XG,Ze,Jn.cls,Vk,Vl,Vm,W9,Yg,zcg,zch,Yi,zes,ziZ,zet,zxI,zxJ,trivial⟩
def zCk:KEnv:=zsQ.olo (fun f=>false)
theorem zwi:KOk zCk:=zo5.olo _
attribute [local irreducible] zp zk
def ztu:List KV:=[]
def ztv:KV:=(.bool true)
theorem zEU:RnM zCk 22 ztu ztv:=of_eq_true (by kernel_rfl)
theorem zEV:KCS Tryz.prog 22 (xG ztu ztv):=xN zwi zEU
end
end Go.K
set_option maxRecDepth 10000
namespace Go.K
open Go.Ab Go.RowKit Go.Y Go.Proofs
noncomputable section
end
end Go.K
