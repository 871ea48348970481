/- An environment. No condition. Closed runs. No condition. Tables of contracts. No condition. An environment. No condition. Closed runs. No condition. Tables of contracts. No condition. An environment. No condition. Closed runs. No condition. -/
import Derived.Test.YtlaekgadfkpbdaaGreatDoorMD
set_option linter.unusedVariables false
set_option maxRecDepth 10000
namespace Go.K
open Go.Ab Go.RowKit Go.Y Go.Proofs
noncomputable section
def EM0 : KEnv := (E0.tab [(139, sCompS), (84, sCompR), (159, sTab1 sbN), (154, kcon [] (.pk .u8 256 sbN)), (144, sEnc), (136, sEncR), (12, kcon [] (.bool true))])
theorem okEM0 : KOk EM0 := (ok0.tab ⟨kcs139, kcs84, kcsSub, kcsTab, kcsEnc.cls, kcsEncR.cls, lives_s, trivial⟩)
end
end Go.K
set_option linter.unusedVariables false
set_option maxRecDepth 10000
namespace Go.K
open Go.Ab Go.RowKit Go.Y Go.Proofs
noncomputable section
attribute [local irreducible] krun callR
def a137_0 : List KV := [(.pk .u8 16 122111693778896634516562977860146646389)]
def r137_0 : KV := bigV0
theorem m137_0 : Rn EM0 137 a137_0 r137_0 := of_eq_true (by kernel_rfl)
theorem c137_0 : KCS Tryz.prog 137 (kcon a137_0 r137_0) := kconR okEM0 m137_0
end
end Go.K
set_option linter.unusedVariables false
set_option maxRecDepth 10000
namespace Go.K
open Go.Ab Go.RowKit Go.Y Go.Proofs
noncomputable section
def tab137 : List (List KV × KV) := [(a137_0, r137_0)]
theorem PM137 : ∃ fn, Tryz.prog.funcs[137]? = some fn ∧ (fn.name == "runtime.NumGoroutine") = false ∧ fn.body.isNone = false := ⟨Tryz.f137, Tryz.func137, (fnsL.get Tryz.func137).1, by kernel_rfl⟩
theorem kcsT137 : KCS Tryz.prog 137 (sMem tab137) := sMem_s PM137 ⟨c137_0, by kernel_rfl, trivial⟩
end
end Go.K
set_option linter.unusedVariables false
set_option maxRecDepth 10000
namespace Go.K
open Go.Ab Go.RowKit Go.Y Go.Proofs
noncomputable section
def EM1 : KEnv := (E0.tab [(139, sCompS), (84, sCompR), (159, sTab1 sbN), (154, kcon [] (.pk .u8 256 sbN)), (144, sEnc), (136, sEncR), (12, kcon [] (.bool true)), (137, sMem tab137)])
theorem okEM1 : KOk EM1 := (ok0.tab ⟨kcs139, kcs84, kcsSub, kcsTab, kcsEnc.cls, kcsEncR.cls, lives_s, kcsT137, trivial⟩)
end
end Go.K
set_option linter.unusedVariables false
set_option maxRecDepth 10000
namespace Go.K
open Go.Ab Go.RowKit Go.Y Go.Proofs
noncomputable section
attribute [local irreducible] krun callR
def a143_0 : List KV := [(.pk .u8 16 122111693778896634516562977860146646389)]
def r143_0 : KV := bigV32
theorem m143_0 : Rn EM1 143 a143_0 r143_0 := of_eq_true (by kernel_rfl)
theorem c143_0 : KCS Tryz.prog 143 (kcon a143_0 r143_0) := kconR okEM1 m143_0
end
end Go.K
set_option linter.unusedVariables false
set_option maxRecDepth 10000
namespace Go.K
open Go.Ab Go.RowKit Go.Y Go.Proofs
noncomputable section
def tab143 : List (List KV × KV) := [(a143_0, r143_0)]
theorem PM143 : ∃ fn, Tryz.prog.funcs[143]? = some fn ∧ (fn.name == "runtime.NumGoroutine") = false ∧ fn.body.isNone = false := ⟨Tryz.f143, Tryz.func143, (fnsL.get Tryz.func143).1, by kernel_rfl⟩
theorem kcsT143 : KCS Tryz.prog 143 (sMem tab143) := sMem_s PM143 ⟨c143_0, by kernel_rfl, trivial⟩
end
end Go.K
set_option linter.unusedVariables false
set_option maxRecDepth 10000
namespace Go.K
open Go.Ab Go.RowKit Go.Y Go.Proofs
noncomputable section
def EM2 : KEnv := (E0.tab [(139, sCompS), (84, sCompR), (159, sTab1 sbN), (154, kcon [] (.pk .u8 256 sbN)), (144, sEnc), (136, sEncR), (12, kcon [] (.bool true)), (137, sMem tab137), (143, sMem tab143)])
theorem okEM2 : KOk EM2 := (ok0.tab ⟨kcs139, kcs84, kcsSub, kcsTab, kcsEnc.cls, kcsEncR.cls, lives_s, kcsT137, kcsT143, trivial⟩)
end
end Go.K
set_option linter.unusedVariables false
set_option maxRecDepth 10000
namespace Go.K
open Go.Ab Go.RowKit Go.Y Go.Proofs
noncomputable section
attribute [local irreducible] krun callR
def a44_0 : List KV := [(.ro true false .sc 0 7 (.pk .u8 7 31084789086380387)), (.ro false true .sc 0 32 (.pk .u8 32 43586973752584214000503606306153847297570002532270420392061565301986769307139))]
def r44_0 : KV := (.pk .u8 32 55755917311096653390498129427085800243803696715998833615580615767661287271463)
theorem m44_0 : Rn EM2 44 a44_0 r44_0 := of_eq_true (by kernel_rfl)
theorem c44_0 : KCS Tryz.prog 44 (kcon a44_0 r44_0) := kconR okEM2 m44_0
def a44_1 : List KV := [(.ro false true .sc 0 32 (.pk .u8 32 55755917311096653390498129427085800243803696715998833615580615767661287271463)), (.ro false false .sc 0 8 (.pk .u8 8 104832358248836709))]
def r44_1 : KV := (.pk .u8 32 3665036074854576775286246413562665978249970819078462968749327552560765291893)
theorem m44_1 : Rn EM2 44 a44_1 r44_1 := of_eq_true (by kernel_rfl)
theorem c44_1 : KCS Tryz.prog 44 (kcon a44_1 r44_1) := kconR okEM2 m44_1
def a44_2 : List KV := [(.ro false true .sc 0 32 (.pk .u8 32 55755917311096653390498129427085800243803696715998833615580615767661287271463)), (.ro false false .sc 0 4 (.pk .u8 4 23290221))]
def r44_2 : KV := (.pk .u8 32 94283451785434318667656929874792115387405470269934704811045279456282858383942)
theorem m44_2 : Rn EM2 44 a44_2 r44_2 := of_eq_true (by kernel_rfl)
theorem c44_2 : KCS Tryz.prog 44 (kcon a44_2 r44_2) := kconR okEM2 m44_2
def a44_3 : List KV := [(.ro false true .sc 0 32 (.pk .u8 32 94283451785434318667656929874792115387405470269934704811045279456282858383942)), (.ro false false .sc 0 48 (.pk .u8 48 36083655076973688708967467190649661093429901475952774512893378465537030545174428164437275493774405543767279012937728))]
def r44_3 : KV := (.pk .u8 32 107225446182594299378196076536905116705715667399002822781808613045331058512166)
theorem m44_3 : Rn EM2 44 a44_3 r44_3 := of_eq_true (by kernel_rfl)
theorem c44_3 : KCS Tryz.prog 44 (kcon a44_3 r44_3) := kconR okEM2 m44_3
def a44_4 : List KV := [(.ro false true .sc 0 32 (.pk .u8 32 94283451785434318667656929874792115387405470269934704811045279456282858383942)), (.ro false false .sc 0 48 (.pk .u8 48 19071834328966674585845722392500950326311625004196739065137682666156053923446268332087599410363284577963463367720960))]
def r44_4 : KV := (.pk .u8 32 41061759712525892820931514277035754148929874806568785421389367246005220347737)
theorem m44_4 : Rn EM2 44 a44_4 r44_4 := of_eq_true (by kernel_rfl)
theorem c44_4 : KCS Tryz.prog 44 (kcon a44_4 r44_4) := kconR okEM2 m44_4
def a44_5 : List KV := [(.ro false true .sc 0 32 (.pk .u8 32 94283451785434318667656929874792115387405470269934704811045279456282858383942)), (.ro false false .sc 0 48 (.pk .u8 48 39062606987643074765385678861910325926301100429959718096098983916139109545951625732016932691085655127637570120318976))]
def r44_5 : KV := (.pk .u8 32 47626396704992124117483072941223088845648000959484410505664376566042547332169)
theorem m44_5 : Rn EM2 44 a44_5 r44_5 := of_eq_true (by kernel_rfl)
theorem c44_5 : KCS Tryz.prog 44 (kcon a44_5 r44_5) := kconR okEM2 m44_5
def a44_6 : List KV := [(.ro false true .sc 0 32 (.pk .u8 32 94283451785434318667656929874792115387405470269934704811045279456282858383942)), (.ro false false .sc 0 48 (.pk .u8 48 34556808327492674301593460475740083460073835644373273241315834519407230424306442398289606344154874689121673623371776))]
def r44_6 : KV := (.pk .u8 32 96437339063595905587385855405469218286893269008429960411176649114150846693762)
theorem m44_6 : Rn EM2 44 a44_6 r44_6 := of_eq_true (by kernel_rfl)
theorem c44_6 : KCS Tryz.prog 44 (kcon a44_6 r44_6) := kconR okEM2 m44_6
def a44_7 : List KV := [(.ro false true .sc 0 32 (.pk .u8 32 94283451785434318667656929874792115387405470269934704811045279456282858383942)), (.ro false false .sc 0 48 (.pk .u8 48 1489847303727730219811774744854750765130375263377807582834900096353465906233490939718765354037581218347910434914304))]
def r44_7 : KV := (.pk .u8 32 18593009490773702690686856983214967768219384619631979799421887552296622614556)
theorem m44_7 : Rn EM2 44 a44_7 r44_7 := of_eq_true (by kernel_rfl)
theorem c44_7 : KCS Tryz.prog 44 (kcon a44_7 r44_7) := kconR okEM2 m44_7
def a44_8 : List KV := [(.ro false true .sc 0 32 (.pk .u8 32 94283451785434318667656929874792115387405470269934704811045279456282858383942)), (.ro false false .sc 0 48 (.pk .u8 48 1133811306839244814393604125514327133047090014115361602703238843569713734723790911751575429677733187311324941516800))]
def r44_8 : KV := (.pk .u8 32 49391746762780652552058401728895292801532672686533500964251485050122704295642)
theorem m44_8 : Rn EM2 44 a44_8 r44_8 := of_eq_true (by kernel_rfl)
theorem c44_8 : KCS Tryz.prog 44 (kcon a44_8 r44_8) := kconR okEM2 m44_8
def a44_9 : List KV := [(.ro false true .sc 0 32 (.pk .u8 32 94283451785434318667656929874792115387405470269934704811045279456282858383942)), (.ro false false .sc 0 48 (.pk .u8 48 34897383524928340425477961600594379692759731927585040117089558830499816413687975503246165196670020748474647765319680))]
def r44_9 : KV := (.pk .u8 32 57035903246373994295917692175140917243794491656407273038482449698027344440207)
theorem m44_9 : Rn EM2 44 a44_9 r44_9 := of_eq_true (by kernel_rfl)
theorem c44_9 : KCS Tryz.prog 44 (kcon a44_9 r44_9) := kconR okEM2 m44_9
def a44_10 : List KV := [(.ro false true .sc 0 32 (.pk .u8 32 94283451785434318667656929874792115387405470269934704811045279456282858383942)), (.ro false false .sc 0 48 (.pk .u8 48 18884512175346893010073215046992980890090587573313759640975879185594952640097230996907788156744931593382881730232320))]
def r44_10 : KV := (.pk .u8 32 64630266177772219123657267705379304180096405128534067135906496404240393979221)
theorem m44_10 : Rn EM2 44 a44_10 r44_10 := of_eq_true (by kernel_rfl)
theorem c44_10 : KCS Tryz.prog 44 (kcon a44_10 r44_10) := kconR okEM2 m44_10
def a44_11 : List KV := [(.ro false true .sc 0 32 (.pk .u8 32 94283451785434318667656929874792115387405470269934704811045279456282858383942)), (.ro false false .sc 0 48 (.pk .u8 48 14912653663032471214158363151328609422182097075812428918956169738367265345852736475844397629432209005866183712309248))]
def r44_11 : KV := (.pk .u8 32 5833451862763102061500784184556171248397818496528387498165039113622939179793)
theorem m44_11 : Rn EM2 44 a44_11 r44_11 := of_eq_true (by kernel_rfl)
theorem c44_11 : KCS Tryz.prog 44 (kcon a44_11 r44_11) := kconR okEM2 m44_11
end
end Go.K
