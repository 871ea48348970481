/- Tables of contracts. No condition. An environment. No condition. Closed runs. No condition. Tables of contracts. No condition. An environment. No condition. Closed runs. No condition. Tables of contracts. No condition. An environment. No condition. Closed runs. No condition. Tables of contracts. No condition. An environment. No condition. Closed runs. No condition. Tables of contracts. No condition. An environment. No condition. Closed runs. No condition. Tables of contracts. No condition. The run of the law. No condition. -/
import Derived.Test.YthnhbdidiglcgaaGreatDoorCD
import Derived.Test.YthnhbdidiglcgaaGreatDoorCR0_1
set_option linter.unusedVariables false
set_option maxRecDepth 10000
namespace Go.K
open Go.Ab Go.RowKit Go.Y Go.Proofs
noncomputable section
def tab301 : List (List KV × KV) := [(a301_0, r301_0)]
theorem PM301 : ∃ fn, Tryz.prog.funcs[301]? = some fn ∧ (fn.name == "runtime.NumGoroutine") = false ∧ fn.body.isNone = false := ⟨Tryz.f301, Tryz.func301, (fnsL.get Tryz.func301).1, by kernel_rfl⟩
theorem kcsT301 : KCS Tryz.prog 301 (sMem tab301) := sMem_s PM301 ⟨c301_0, by kernel_rfl, trivial⟩
def tab163 : List (List KV × KV) := [(a163_0, r163_0), (a163_1, r163_1), (a163_2, r163_2), (a163_3, r163_3), (a163_4, r163_4), (a163_5, r163_5), (a163_6, r163_6), (a163_7, r163_7), (a163_8, r163_8), (a163_9, r163_9), (a163_10, r163_10), (a163_11, r163_11), (a163_12, r163_12)]
theorem PM163 : ∃ fn, Tryz.prog.funcs[163]? = some fn ∧ (fn.name == "runtime.NumGoroutine") = false ∧ fn.body.isNone = false := ⟨Tryz.f163, Tryz.func163, (fnsL.get Tryz.func163).1, by kernel_rfl⟩
theorem kcsT163 : KCS Tryz.prog 163 (sMem tab163) := sMem_s PM163 ⟨c163_0, by kernel_rfl, ⟨c163_1, by kernel_rfl, ⟨c163_2, by kernel_rfl, ⟨c163_3, by kernel_rfl, ⟨c163_4, by kernel_rfl, ⟨c163_5, by kernel_rfl, ⟨c163_6, by kernel_rfl, ⟨c163_7, by kernel_rfl, ⟨c163_8, by kernel_rfl, ⟨c163_9, by kernel_rfl, ⟨c163_10, by kernel_rfl, ⟨c163_11, by kernel_rfl, ⟨c163_12, by kernel_rfl, trivial⟩⟩⟩⟩⟩⟩⟩⟩⟩⟩⟩⟩⟩
def tab213 : List (List KV × KV) := [(a213_0, r213_0), (a213_1, r213_1), (a213_2, r213_2), (a213_3, r213_3), (a213_4, r213_4), (a213_5, r213_5), (a213_6, r213_6), (a213_7, r213_7), (a213_8, r213_8), (a213_9, r213_9), (a213_10, r213_10), (a213_11, r213_11), (a213_12, r213_12), (a213_13, r213_13)]
theorem PM213 : ∃ fn, Tryz.prog.funcs[213]? = some fn ∧ (fn.name == "runtime.NumGoroutine") = false ∧ fn.body.isNone = false := ⟨Tryz.f213, Tryz.func213, (fnsL.get Tryz.func213).1, by kernel_rfl⟩
theorem kcsT213 : KCS Tryz.prog 213 (sMem tab213) := sMem_s PM213 ⟨c213_0, by kernel_rfl, ⟨c213_1, by kernel_rfl, ⟨c213_2, by kernel_rfl, ⟨c213_3, by kernel_rfl, ⟨c213_4, by kernel_rfl, ⟨c213_5, by kernel_rfl, ⟨c213_6, by kernel_rfl, ⟨c213_7, by kernel_rfl, ⟨c213_8, by kernel_rfl, ⟨c213_9, by kernel_rfl, ⟨c213_10, by kernel_rfl, ⟨c213_11, by kernel_rfl, ⟨c213_12, by kernel_rfl, ⟨c213_13, by kernel_rfl, trivial⟩⟩⟩⟩⟩⟩⟩⟩⟩⟩⟩⟩⟩⟩
def tab10 : List (List KV × KV) := [(a10_0, r10_0), (a10_1, r10_1)]
theorem PM10 : ∃ fn, Tryz.prog.funcs[10]? = some fn ∧ (fn.name == "runtime.NumGoroutine") = false ∧ fn.body.isNone = false := ⟨Tryz.f10, Tryz.func10, (fnsL.get Tryz.func10).1, by kernel_rfl⟩
theorem kcsT10 : KCS Tryz.prog 10 (sMem tab10) := sMem_s PM10 ⟨c10_0, by kernel_rfl, ⟨c10_1, by kernel_rfl, trivial⟩⟩
def tab313 : List (List KV × KV) := [(a313_0, r313_0)]
theorem PM313 : ∃ fn, Tryz.prog.funcs[313]? = some fn ∧ (fn.name == "runtime.NumGoroutine") = false ∧ fn.body.isNone = false := ⟨Tryz.f313, Tryz.func313, (fnsL.get Tryz.func313).1, by kernel_rfl⟩
theorem kcsT313 : KCS Tryz.prog 313 (sMem tab313) := sMem_s PM313 ⟨c313_0, by kernel_rfl, trivial⟩
def tab233 : List (List KV × KV) := [(a233_0, r233_0), (a233_1, r233_1)]
theorem PM233 : ∃ fn, Tryz.prog.funcs[233]? = some fn ∧ (fn.name == "runtime.NumGoroutine") = false ∧ fn.body.isNone = false := ⟨Tryz.f233, Tryz.func233, (fnsL.get Tryz.func233).1, by kernel_rfl⟩
theorem kcsT233 : KCS Tryz.prog 233 (sMem tab233) := sMem_s PM233 ⟨c233_0, by kernel_rfl, ⟨c233_1, by kernel_rfl, trivial⟩⟩
def tab282 : List (List KV × KV) := [(a282_0, r282_0), (a282_1, r282_1), (a282_2, r282_2), (a282_3, r282_3), (a282_4, r282_4)]
theorem PM282 : ∃ fn, Tryz.prog.funcs[282]? = some fn ∧ (fn.name == "runtime.NumGoroutine") = false ∧ fn.body.isNone = false := ⟨Tryz.f282, Tryz.func282, (fnsL.get Tryz.func282).1, by kernel_rfl⟩
theorem kcsT282 : KCS Tryz.prog 282 (sMem tab282) := sMem_s PM282 ⟨c282_0, by kernel_rfl, ⟨c282_1, by kernel_rfl, ⟨c282_2, by kernel_rfl, ⟨c282_3, by kernel_rfl, ⟨c282_4, by kernel_rfl, trivial⟩⟩⟩⟩⟩
def tab17 : List (List KV × KV) := [(a17_0, r17_0)]
theorem PM17 : ∃ fn, Tryz.prog.funcs[17]? = some fn ∧ (fn.name == "runtime.NumGoroutine") = false ∧ fn.body.isNone = false := ⟨Tryz.f17, Tryz.func17, (fnsL.get Tryz.func17).1, by kernel_rfl⟩
theorem kcsT17 : KCS Tryz.prog 17 (sMem tab17) := sMem_s PM17 ⟨c17_0, by kernel_rfl, trivial⟩
end
end Go.K
set_option linter.unusedVariables false
set_option maxRecDepth 10000
namespace Go.K
open Go.Ab Go.RowKit Go.Y Go.Proofs
noncomputable section
def EC1a : KEnv := E0.tab [(273, sCompS), (261, sCompR), (314, sTab1 sbN), (324, kcon [] (.pk .u8 256 sbN)), (302, sEnc), (312, sEncR), (301, sMem tab301), (163, sMem tab163), (213, sMem tab213), (10, sMem tab10), (313, sMem tab313), (233, sMem tab233), (282, sMem tab282), (17, sMem tab17)]
theorem okEC1a : KOk EC1a := ok0.tab ⟨kcs273, kcs261, kcsSub, kcsTab, kcsEnc.cls, kcsEncR.cls, kcsT301, kcsT163, kcsT213, kcsT10, kcsT313, kcsT233, kcsT282, kcsT17, trivial⟩
def EC1 : KEnv := EC1a.olo (fun f => Nat.beq f 18)
theorem okEC1 : KOk EC1 := okEC1a.olo _
end
end Go.K
set_option linter.unusedVariables false
set_option maxRecDepth 10000
namespace Go.K
open Go.Ab Go.RowKit Go.Y Go.Proofs
noncomputable section
attribute [local irreducible] krun callR
def a75_0 : List KV := [bigV28]
def r75_0 : KV := (.tup (.cons (.pk .u8 32 49230799464221708968998669475763033332336603356928980826927533008011907235056) (.cons (.int .i64 (.ofNat 0)) .nl)))
theorem m75_0 : Rn EC1 75 a75_0 r75_0 := of_eq_true (by kernel_rfl)
theorem c75_0 : KCS Tryz.prog 75 (kcon a75_0 r75_0) := kconR okEC1 m75_0
def a75_1 : List KV := [bigV24]
def r75_1 : KV := (.tup (.cons (.pk .u8 32 6346632085191737359328937567417401054763251970897686723950652454852571578783) (.cons (.int .i64 (.ofNat 0)) .nl)))
theorem m75_1 : Rn EC1 75 a75_1 r75_1 := of_eq_true (by kernel_rfl)
theorem c75_1 : KCS Tryz.prog 75 (kcon a75_1 r75_1) := kconR okEC1 m75_1
def a75_2 : List KV := [bigV25]
def r75_2 : KV := (.tup (.cons (.pk .u8 32 49335936114469730489519566754954389822356494958623753279784912804745734766010) (.cons (.int .i64 (.ofNat 0)) .nl)))
theorem m75_2 : Rn EC1 75 a75_2 r75_2 := of_eq_true (by kernel_rfl)
theorem c75_2 : KCS Tryz.prog 75 (kcon a75_2 r75_2) := kconR okEC1 m75_2
def a75_3 : List KV := [bigV29]
def r75_3 : KV := (.tup (.cons (.pk .u8 32 91069160870447631625781895594131259893949853831593969626282307065470936561168) (.cons (.int .i64 (.ofNat 0)) .nl)))
theorem m75_3 : Rn EC1 75 a75_3 r75_3 := of_eq_true (by kernel_rfl)
theorem c75_3 : KCS Tryz.prog 75 (kcon a75_3 r75_3) := kconR okEC1 m75_3
def a11_0 : List KV := [bigV22]
def r11_0 : KV := bigV24
theorem m11_0 : Rn EC1 11 a11_0 r11_0 := of_eq_true (by kernel_rfl)
theorem c11_0 : KCS Tryz.prog 11 (kcon a11_0 r11_0) := kconR okEC1 m11_0
def a11_1 : List KV := [bigV23]
def r11_1 : KV := bigV25
theorem m11_1 : Rn EC1 11 a11_1 r11_1 := of_eq_true (by kernel_rfl)
theorem c11_1 : KCS Tryz.prog 11 (kcon a11_1 r11_1) := kconR okEC1 m11_1
def a142_0 : List KV := [(.ro true false .sc 0 7 (.pk .u8 7 31084789086380387)), (.ro false true .sc 0 32 (.pk .u8 32 42224713879204023466108653541345754264002120359733472579832652548952497193728))]
def r142_0 : KV := (.pk .u8 32 27342162514947653583937906222160396351575366345600806056086070088289311440504)
theorem m142_0 : Rn EC1 142 a142_0 r142_0 := of_eq_true (by kernel_rfl)
theorem c142_0 : KCS Tryz.prog 142 (kcon a142_0 r142_0) := kconR okEC1 m142_0
def a142_1 : List KV := [(.ro false true .sc 0 32 (.pk .u8 32 27342162514947653583937906222160396351575366345600806056086070088289311440504)), (.ro false false .sc 0 8 (.pk .u8 8 104832358248836709))]
def r142_1 : KV := (.pk .u8 32 918395647173819365373735878896344643108083295023627920875243912625669619961)
theorem m142_1 : Rn EC1 142 a142_1 r142_1 := of_eq_true (by kernel_rfl)
theorem c142_1 : KCS Tryz.prog 142 (kcon a142_1 r142_1) := kconR okEC1 m142_1
def a142_2 : List KV := [(.ro false true .sc 0 32 (.pk .u8 32 27342162514947653583937906222160396351575366345600806056086070088289311440504)), (.ro false false .sc 0 4 (.pk .u8 4 23290221))]
def r142_2 : KV := (.pk .u8 32 32964475149327106443761119737132610979723272928706672007876046231495031425136)
theorem m142_2 : Rn EC1 142 a142_2 r142_2 := of_eq_true (by kernel_rfl)
theorem c142_2 : KCS Tryz.prog 142 (kcon a142_2 r142_2) := kconR okEC1 m142_2
def a142_3 : List KV := [(.ro false true .sc 0 32 (.pk .u8 32 32964475149327106443761119737132610979723272928706672007876046231495031425136)), (.ro false false .sc 0 48 (.pk .u8 48 6307603041761560681261696870352796988672920878678077863687324186281087785948526927698342637866851014515749965266944))]
def r142_3 : KV := (.pk .u8 32 100650798749002691258200660989508745656955523408035475584006859743353366237241)
theorem m142_3 : Rn EC1 142 a142_3 r142_3 := of_eq_true (by kernel_rfl)
theorem c142_3 : KCS Tryz.prog 142 (kcon a142_3 r142_3) := kconR okEC1 m142_3
def a142_4 : List KV := [(.ro false true .sc 0 32 (.pk .u8 32 32964475149327106443761119737132610979723272928706672007876046231495031425136)), (.ro false false .sc 0 48 (.pk .u8 48 20376389787191895909377442609058460681859417064988373962728819511512364599183667758504718771244797899174695531446272))]
def r142_4 : KV := (.pk .u8 32 95035585274343591648304519734895534475800475647020555165784769574361588764947)
theorem m142_4 : Rn EC1 142 a142_4 r142_4 := of_eq_true (by kernel_rfl)
theorem c142_4 : KCS Tryz.prog 142 (kcon a142_4 r142_4) := kconR okEC1 m142_4
end
end Go.K
set_option linter.unusedVariables false
set_option maxRecDepth 10000
namespace Go.K
open Go.Ab Go.RowKit Go.Y Go.Proofs
noncomputable section
def tab75 : List (List KV × KV) := [(a75_0, r75_0), (a75_1, r75_1), (a75_2, r75_2), (a75_3, r75_3)]
theorem PM75 : ∃ fn, Tryz.prog.funcs[75]? = some fn ∧ (fn.name == "runtime.NumGoroutine") = false ∧ fn.body.isNone = false := ⟨Tryz.f75, Tryz.func75, (fnsL.get Tryz.func75).1, by kernel_rfl⟩
theorem kcsT75 : KCS Tryz.prog 75 (sMem tab75) := sMem_s PM75 ⟨c75_0, by kernel_rfl, ⟨c75_1, by kernel_rfl, ⟨c75_2, by kernel_rfl, ⟨c75_3, by kernel_rfl, trivial⟩⟩⟩⟩
def tab11 : List (List KV × KV) := [(a11_0, r11_0), (a11_1, r11_1)]
theorem PM11 : ∃ fn, Tryz.prog.funcs[11]? = some fn ∧ (fn.name == "runtime.NumGoroutine") = false ∧ fn.body.isNone = false := ⟨Tryz.f11, Tryz.func11, (fnsL.get Tryz.func11).1, by kernel_rfl⟩
theorem kcsT11 : KCS Tryz.prog 11 (sMem tab11) := sMem_s PM11 ⟨c11_0, by kernel_rfl, ⟨c11_1, by kernel_rfl, trivial⟩⟩
def tab142 : List (List KV × KV) := [(a142_0, r142_0), (a142_1, r142_1), (a142_2, r142_2), (a142_3, r142_3), (a142_4, r142_4)]
theorem PM142 : ∃ fn, Tryz.prog.funcs[142]? = some fn ∧ (fn.name == "runtime.NumGoroutine") = false ∧ fn.body.isNone = false := ⟨Tryz.f142, Tryz.func142, (fnsL.get Tryz.func142).1, by kernel_rfl⟩
theorem kcsT142 : KCS Tryz.prog 142 (sMem tab142) := sMem_s PM142 ⟨c142_0, by kernel_rfl, ⟨c142_1, by kernel_rfl, ⟨c142_2, by kernel_rfl, ⟨c142_3, by kernel_rfl, ⟨c142_4, by kernel_rfl, trivial⟩⟩⟩⟩⟩
end
end Go.K
set_option linter.unusedVariables false
set_option maxRecDepth 10000
namespace Go.K
open Go.Ab Go.RowKit Go.Y Go.Proofs
noncomputable section
def EC2a : KEnv := E0.tab [(273, sCompS), (261, sCompR), (314, sTab1 sbN), (324, kcon [] (.pk .u8 256 sbN)), (302, sEnc), (312, sEncR), (301, sMem tab301), (163, sMem tab163), (213, sMem tab213), (10, sMem tab10), (313, sMem tab313), (233, sMem tab233), (282, sMem tab282), (17, sMem tab17), (75, sMem tab75), (11, sMem tab11), (142, sMem tab142)]
theorem okEC2a : KOk EC2a := ok0.tab ⟨kcs273, kcs261, kcsSub, kcsTab, kcsEnc.cls, kcsEncR.cls, kcsT301, kcsT163, kcsT213, kcsT10, kcsT313, kcsT233, kcsT282, kcsT17, kcsT75, kcsT11, kcsT142, trivial⟩
def EC2 : KEnv := EC2a.olo (fun f => Nat.beq f 18)
theorem okEC2 : KOk EC2 := okEC2a.olo _
end
end Go.K
set_option linter.unusedVariables false
set_option maxRecDepth 10000
namespace Go.K
open Go.Ab Go.RowKit Go.Y Go.Proofs
noncomputable section
attribute [local irreducible] krun callR
def a72_0 : List KV := [(.cons (.pk .u8 16 125900742916195838709135468801027031289) (.cons (.pk .u8 32 32964475149327106443761119737132610979723272928706672007876046231495031425136) .nl)), (.int .i64 (.ofNat 4)), (.cons (.int .u32 (.ofNat 3)) (.cons (.int .u64 (.ofNat 0)) .nl)), (.pk .u8 32 72516750489154260659101290415611912596455295629238141754847945396699554880077)]
def r72_0 : KV := (.tup (.cons (.pk .u8 32 33356480724439104515174399991451270283884777606592660263776819126365943325850) (.cons (.pk .u8 32 34384870828183588075052960598926578660861531537140770185706204077960219538997) (.cons (.int .i64 (.ofNat 0)) .nl))))
theorem m72_0 : Rn EC2 72 a72_0 r72_0 := of_eq_true (by kernel_rfl)
theorem c72_0 : KCS Tryz.prog 72 (kcon a72_0 r72_0) := kconR okEC2 m72_0
def a72_1 : List KV := [(.cons (.pk .u8 16 125900742916195838709135468801027031289) (.cons (.pk .u8 32 32964475149327106443761119737132610979723272928706672007876046231495031425136) .nl)), (.int .i64 (.ofNat 0)), (.cons (.int .u32 (.ofNat 0)) (.cons (.int .u64 (.ofNat 1)) .nl)), (.pk .u8 32 72644956254307023334172677176923078829283337553784033986769275503311282178565)]
def r72_1 : KV := (.tup (.cons (.pk .u8 32 92843029935034982619735682310687812758405920811659628743660729675282379229344) (.cons (.pk .u8 32 35860280783614881728396713324440587946675328474378991360757621235300248670077) (.cons (.int .i64 (.ofNat 0)) .nl))))
theorem m72_1 : Rn EC2 72 a72_1 r72_1 := of_eq_true (by kernel_rfl)
theorem c72_1 : KCS Tryz.prog 72 (kcon a72_1 r72_1) := kconR okEC2 m72_1
def a15_0 : List KV := [bigV28, (.cons (.pk .u8 32 6346632085191737359328937567417401054763251970897686723950652454852571578783) (.cons (.int .u64 (.ofNat 1)) (.cons (.int .u64 (.ofNat 1000)) .nl)))]
def r15_0 : KV := bigV30
theorem m15_0 : Rn EC2 15 a15_0 r15_0 := of_eq_true (by kernel_rfl)
theorem c15_0 : KCS Tryz.prog 15 (kcon a15_0 r15_0) := kconR okEC2 m15_0
def a15_1 : List KV := [bigV24, (.cons (.pk .u8 32 0) (.cons (.int .u64 (.ofNat 18446744073709551615)) (.cons (.int .u64 (.ofNat 0)) .nl)))]
def r15_1 : KV := (.tup (.cons .nils (.cons (.cons (.pk .u8 32 0) (.cons (.int .u64 (.ofNat 0)) (.cons (.int .u64 (.ofNat 0)) .nl))) (.cons (.int .i64 (.ofNat 3)) .nl))))
theorem m15_1 : Rn EC2 15 a15_1 r15_1 := of_eq_true (by kernel_rfl)
theorem c15_1 : KCS Tryz.prog 15 (kcon a15_1 r15_1) := kconR okEC2 m15_1
def a15_2 : List KV := [bigV25, (.cons (.pk .u8 32 49335936114469730489519566754954389822356494958623753279784912804745734766010) (.cons (.int .u64 (.ofNat 0)) (.cons (.int .u64 (.ofNat 0)) .nl)))]
def r15_2 : KV := bigV31
theorem m15_2 : Rn EC2 15 a15_2 r15_2 := of_eq_true (by kernel_rfl)
theorem c15_2 : KCS Tryz.prog 15 (kcon a15_2 r15_2) := kconR okEC2 m15_2
def a15_3 : List KV := [bigV29, (.cons (.pk .u8 32 49335936114469730489519566754954389822356494958623753279784912804745734766010) (.cons (.int .u64 (.ofNat 0)) (.cons (.int .u64 (.ofNat 0)) .nl)))]
def r15_3 : KV := bigV32
theorem m15_3 : Rn EC2 15 a15_3 r15_3 := of_eq_true (by kernel_rfl)
theorem c15_3 : KCS Tryz.prog 15 (kcon a15_3 r15_3) := kconR okEC2 m15_3
def a15_4 : List KV := [bigV25, (.cons (.pk .u8 32 0) (.cons (.int .u64 (.ofNat 1)) (.cons (.int .u64 (.ofNat 0)) .nl)))]
def r15_4 : KV := (.tup (.cons .nils (.cons (.cons (.pk .u8 32 0) (.cons (.int .u64 (.ofNat 0)) (.cons (.int .u64 (.ofNat 0)) .nl))) (.cons (.int .i64 (.ofNat 1)) .nl))))
theorem m15_4 : Rn EC2 15 a15_4 r15_4 := of_eq_true (by kernel_rfl)
theorem c15_4 : KCS Tryz.prog 15 (kcon a15_4 r15_4) := kconR okEC2 m15_4
def a15_5 : List KV := [bigV25, (.cons (.pk .u8 32 0) (.cons (.int .u64 (.ofNat 18446744073709551614)) (.cons (.int .u64 (.ofNat 0)) .nl)))]
def r15_5 : KV := bigV33
theorem m15_5 : Rn EC2 15 a15_5 r15_5 := of_eq_true (by kernel_rfl)
theorem c15_5 : KCS Tryz.prog 15 (kcon a15_5 r15_5) := kconR okEC2 m15_5
def a58_0 : List KV := [(.pk .u8 16 125900742916195838709135468801027031289), (.pk .u8 32 32964475149327106443761119737132610979723272928706672007876046231495031425136), (.int .i64 (.ofNat 0)), (.cons (.int .u32 (.ofNat 0)) (.cons (.int .u64 (.ofNat 0)) .nl)), (.pk .u8 32 14528991250861404666834535435384615765856667510756806797353855100662256435713)]
def r58_0 : KV := (.tup (.cons (.pk .u8 32 18536379357050479536178529230962239721255819590925034493199826405830626757024) (.cons (.pk .u8 32 100650798749002691258200660989508745656955523408035475584006859743353366237241) .nl)))
theorem m58_0 : Rn EC2 58 a58_0 r58_0 := of_eq_true (by kernel_rfl)
theorem c58_0 : KCS Tryz.prog 58 (kcon a58_0 r58_0) := kconR okEC2 m58_0
def a58_1 : List KV := [(.pk .u8 16 125900742916195838709135468801027031289), (.pk .u8 32 32964475149327106443761119737132610979723272928706672007876046231495031425136), (.int .i64 (.ofNat 4)), (.cons (.int .u32 (.ofNat 1)) (.cons (.int .u64 (.ofNat 4)) .nl)), (.pk .u8 32 14514745423042055014673139017326841703846907118564690894103303941790751199753)]
def r58_1 : KV := (.tup (.cons (.pk .u8 32 59880827712492566966927334264644908284319291024940766089563051165835009550928) (.cons (.pk .u8 32 95035585274343591648304519734895534475800475647020555165784769574361588764947) .nl)))
theorem m58_1 : Rn EC2 58 a58_1 r58_1 := of_eq_true (by kernel_rfl)
theorem c58_1 : KCS Tryz.prog 58 (kcon a58_1 r58_1) := kconR okEC2 m58_1
def a55_0 : List KV := [(.pk .u8 32 42224713879204023466108653541345754264002120359733472579832652548952497193728)]
def r55_0 : KV := (.tup (.cons (.pk .u8 16 125900742916195838709135468801027031289) (.cons (.pk .u8 32 32964475149327106443761119737132610979723272928706672007876046231495031425136) .nl)))
theorem m55_0 : Rn EC2 55 a55_0 r55_0 := of_eq_true (by kernel_rfl)
theorem c55_0 : KCS Tryz.prog 55 (kcon a55_0 r55_0) := kconR okEC2 m55_0
def a175_0 : List KV := [(.cons (.pk .u8 16 125900742916195838709135468801027031289) (.cons (.pk .u8 32 32964475149327106443761119737132610979723272928706672007876046231495031425136) .nl)), (.int .i64 (.ofNat 0)), (.cons (.int .u32 (.ofNat 0)) (.cons (.int .u64 (.ofNat 0)) .nl)), (.pk .u8 32 18536379357050479536178529230962239721255819590925034493199826405830626757024), (.pk .u8 32 100650798749002691258200660989508745656955523408035475584006859743353366237241)]
def r175_0 : KV := (.tup (.cons (.pk .u8 32 14528991250861404666834535435384615765856667510756806797353855100662256435713) (.cons (.int .i64 (.ofNat 0)) .nl)))
theorem m175_0 : Rn EC2 175 a175_0 r175_0 := of_eq_true (by kernel_rfl)
theorem c175_0 : KCS Tryz.prog 175 (kcon a175_0 r175_0) := kconR okEC2 m175_0
def a175_1 : List KV := [(.cons (.pk .u8 16 125900742916195838709135468801027031289) (.cons (.pk .u8 32 32964475149327106443761119737132610979723272928706672007876046231495031425136) .nl)), (.int .i64 (.ofNat 4)), (.cons (.int .u32 (.ofNat 1)) (.cons (.int .u64 (.ofNat 4)) .nl)), (.pk .u8 32 59880827712492566966927334264644908284319291024940766089563051165835009550928), (.pk .u8 32 95035585274343591648304519734895534475800475647020555165784769574361588764947)]
def r175_1 : KV := (.tup (.cons (.pk .u8 32 14514745423042055014673139017326841703846907118564690894103303941790751199753) (.cons (.int .i64 (.ofNat 0)) .nl)))
theorem m175_1 : Rn EC2 175 a175_1 r175_1 := of_eq_true (by kernel_rfl)
theorem c175_1 : KCS Tryz.prog 175 (kcon a175_1 r175_1) := kconR okEC2 m175_1
end
end Go.K
set_option linter.unusedVariables false
set_option maxRecDepth 10000
namespace Go.K
open Go.Ab Go.RowKit Go.Y Go.Proofs
noncomputable section
def tab72 : List (List KV × KV) := [(a72_0, r72_0), (a72_1, r72_1)]
theorem PM72 : ∃ fn, Tryz.prog.funcs[72]? = some fn ∧ (fn.name == "runtime.NumGoroutine") = false ∧ fn.body.isNone = false := ⟨Tryz.f72, Tryz.func72, (fnsL.get Tryz.func72).1, by kernel_rfl⟩
theorem kcsT72 : KCS Tryz.prog 72 (sMem tab72) := sMem_s PM72 ⟨c72_0, by kernel_rfl, ⟨c72_1, by kernel_rfl, trivial⟩⟩
def tab15 : List (List KV × KV) := [(a15_0, r15_0), (a15_1, r15_1), (a15_2, r15_2), (a15_3, r15_3), (a15_4, r15_4), (a15_5, r15_5)]
theorem PM15 : ∃ fn, Tryz.prog.funcs[15]? = some fn ∧ (fn.name == "runtime.NumGoroutine") = false ∧ fn.body.isNone = false := ⟨Tryz.f15, Tryz.func15, (fnsL.get Tryz.func15).1, by kernel_rfl⟩
theorem kcsT15 : KCS Tryz.prog 15 (sMem tab15) := sMem_s PM15 ⟨c15_0, by kernel_rfl, ⟨c15_1, by kernel_rfl, ⟨c15_2, by kernel_rfl, ⟨c15_3, by kernel_rfl, ⟨c15_4, by kernel_rfl, ⟨c15_5, by kernel_rfl, trivial⟩⟩⟩⟩⟩⟩
def tab58 : List (List KV × KV) := [(a58_0, r58_0), (a58_1, r58_1)]
theorem PM58 : ∃ fn, Tryz.prog.funcs[58]? = some fn ∧ (fn.name == "runtime.NumGoroutine") = false ∧ fn.body.isNone = false := ⟨Tryz.f58, Tryz.func58, (fnsL.get Tryz.func58).1, by kernel_rfl⟩
theorem kcsT58 : KCS Tryz.prog 58 (sMem tab58) := sMem_s PM58 ⟨c58_0, by kernel_rfl, ⟨c58_1, by kernel_rfl, trivial⟩⟩
def tab55 : List (List KV × KV) := [(a55_0, r55_0)]
theorem PM55 : ∃ fn, Tryz.prog.funcs[55]? = some fn ∧ (fn.name == "runtime.NumGoroutine") = false ∧ fn.body.isNone = false := ⟨Tryz.f55, Tryz.func55, (fnsL.get Tryz.func55).1, by kernel_rfl⟩
theorem kcsT55 : KCS Tryz.prog 55 (sMem tab55) := sMem_s PM55 ⟨c55_0, by kernel_rfl, trivial⟩
def tab175 : List (List KV × KV) := [(a175_0, r175_0), (a175_1, r175_1)]
theorem PM175 : ∃ fn, Tryz.prog.funcs[175]? = some fn ∧ (fn.name == "runtime.NumGoroutine") = false ∧ fn.body.isNone = false := ⟨Tryz.f175, Tryz.func175, (fnsL.get Tryz.func175).1, by kernel_rfl⟩
theorem kcsT175 : KCS Tryz.prog 175 (sMem tab175) := sMem_s PM175 ⟨c175_0, by kernel_rfl, ⟨c175_1, by kernel_rfl, trivial⟩⟩
end
end Go.K
set_option linter.unusedVariables false
set_option maxRecDepth 10000
namespace Go.K
open Go.Ab Go.RowKit Go.Y Go.Proofs
noncomputable section
def EC3a : KEnv := E0.tab [(273, sCompS), (261, sCompR), (314, sTab1 sbN), (324, kcon [] (.pk .u8 256 sbN)), (302, sEnc), (312, sEncR), (301, sMem tab301), (163, sMem tab163), (213, sMem tab213), (10, sMem tab10), (313, sMem tab313), (233, sMem tab233), (282, sMem tab282), (17, sMem tab17), (75, sMem tab75), (11, sMem tab11), (142, sMem tab142), (72, sMem tab72), (15, sMem tab15), (58, sMem tab58), (55, sMem tab55), (175, sMem tab175)]
theorem okEC3a : KOk EC3a := ok0.tab ⟨kcs273, kcs261, kcsSub, kcsTab, kcsEnc.cls, kcsEncR.cls, kcsT301, kcsT163, kcsT213, kcsT10, kcsT313, kcsT233, kcsT282, kcsT17, kcsT75, kcsT11, kcsT142, kcsT72, kcsT15, kcsT58, kcsT55, kcsT175, trivial⟩
def EC3 : KEnv := EC3a.olo (fun f => Nat.beq f 18)
theorem okEC3 : KOk EC3 := okEC3a.olo _
end
end Go.K
set_option linter.unusedVariables false
set_option maxRecDepth 10000
namespace Go.K
open Go.Ab Go.RowKit Go.Y Go.Proofs
noncomputable section
attribute [local irreducible] krun callR
def a12_0 : List KV := [bigV24, (.cons (.pk .u8 16 125900742916195838709135468801027031289) (.cons (.pk .u8 32 32964475149327106443761119737132610979723272928706672007876046231495031425136) .nl)), (.int .i64 (.ofNat 4)), (.cons (.int .u32 (.ofNat 3)) (.cons (.int .u64 (.ofNat 0)) .nl)), (.pk .u8 32 72516750489154260659101290415611912596455295629238141754847945396699554880077)]
def r12_0 : KV := bigV26
theorem m12_0 : Rn EC3 12 a12_0 r12_0 := of_eq_true (by kernel_rfl)
theorem c12_0 : KCS Tryz.prog 12 (kcon a12_0 r12_0) := kconR okEC3 m12_0
def a12_1 : List KV := [bigV25, (.cons (.pk .u8 16 125900742916195838709135468801027031289) (.cons (.pk .u8 32 32964475149327106443761119737132610979723272928706672007876046231495031425136) .nl)), (.int .i64 (.ofNat 0)), (.cons (.int .u32 (.ofNat 0)) (.cons (.int .u64 (.ofNat 1)) .nl)), (.pk .u8 32 72644956254307023334172677176923078829283337553784033986769275503311282178565)]
def r12_1 : KV := bigV27
theorem m12_1 : Rn EC3 12 a12_1 r12_1 := of_eq_true (by kernel_rfl)
theorem c12_1 : KCS Tryz.prog 12 (kcon a12_1 r12_1) := kconR okEC3 m12_1
def a9_0 : List KV := [(.cons (.int .u8 (.ofNat 4)) (.cons (.ro false false (.arr 2 .sc) 0 5 (.ar 5 (.pk .u8 2 0) (.tn (.pk .u8 2 257) (.tn (.pk .u8 2 0) .te .te .te .te) (.tn (.pk .u8 2 0) .te .te .te .te) (.tn (.pk .u8 2 0) .te .te .te .te) (.tn (.pk .u8 2 2306) .te .te .te .te)))) (.cons .nils (.cons (.int .u8 (.ofNat 1)) (.cons (.int .u8 (.ofNat 0)) .nl)))))]
def r9_0 : KV := bigV18
theorem m9_0 : Rn EC3 9 a9_0 r9_0 := of_eq_true (by kernel_rfl)
theorem c9_0 : KCS Tryz.prog 9 (kcon a9_0 r9_0) := kconR okEC3 m9_0
def a9_1 : List KV := [(.cons (.int .u8 (.ofNat 0)) (.cons .nils (.cons .nils (.cons (.int .u8 (.ofNat 0)) (.cons (.int .u8 (.ofNat 0)) .nl)))))]
def r9_1 : KV := bigV19
theorem m9_1 : Rn EC3 9 a9_1 r9_1 := of_eq_true (by kernel_rfl)
theorem c9_1 : KCS Tryz.prog 9 (kcon a9_1 r9_1) := kconR okEC3 m9_1
end
end Go.K
set_option linter.unusedVariables false
set_option maxRecDepth 10000
namespace Go.K
open Go.Ab Go.RowKit Go.Y Go.Proofs
noncomputable section
def tab12 : List (List KV × KV) := [(a12_0, r12_0), (a12_1, r12_1)]
theorem PM12 : ∃ fn, Tryz.prog.funcs[12]? = some fn ∧ (fn.name == "runtime.NumGoroutine") = false ∧ fn.body.isNone = false := ⟨Tryz.f12, Tryz.func12, (fnsL.get Tryz.func12).1, by kernel_rfl⟩
theorem kcsT12 : KCS Tryz.prog 12 (sMem tab12) := sMem_s PM12 ⟨c12_0, by kernel_rfl, ⟨c12_1, by kernel_rfl, trivial⟩⟩
def tab9 : List (List KV × KV) := [(a9_0, r9_0), (a9_1, r9_1)]
theorem PM9 : ∃ fn, Tryz.prog.funcs[9]? = some fn ∧ (fn.name == "runtime.NumGoroutine") = false ∧ fn.body.isNone = false := ⟨Tryz.f9, Tryz.func9, (fnsL.get Tryz.func9).1, by kernel_rfl⟩
theorem kcsT9 : KCS Tryz.prog 9 (sMem tab9) := sMem_s PM9 ⟨c9_0, by kernel_rfl, ⟨c9_1, by kernel_rfl, trivial⟩⟩
end
end Go.K
set_option linter.unusedVariables false
set_option maxRecDepth 10000
namespace Go.K
open Go.Ab Go.RowKit Go.Y Go.Proofs
noncomputable section
def EC4a : KEnv := E0.tab [(273, sCompS), (261, sCompR), (314, sTab1 sbN), (324, kcon [] (.pk .u8 256 sbN)), (302, sEnc), (312, sEncR), (301, sMem tab301), (163, sMem tab163), (213, sMem tab213), (10, sMem tab10), (313, sMem tab313), (233, sMem tab233), (282, sMem tab282), (17, sMem tab17), (75, sMem tab75), (11, sMem tab11), (142, sMem tab142), (72, sMem tab72), (15, sMem tab15), (58, sMem tab58), (55, sMem tab55), (175, sMem tab175), (12, sMem tab12), (9, sMem tab9)]
theorem okEC4a : KOk EC4a := ok0.tab ⟨kcs273, kcs261, kcsSub, kcsTab, kcsEnc.cls, kcsEncR.cls, kcsT301, kcsT163, kcsT213, kcsT10, kcsT313, kcsT233, kcsT282, kcsT17, kcsT75, kcsT11, kcsT142, kcsT72, kcsT15, kcsT58, kcsT55, kcsT175, kcsT12, kcsT9, trivial⟩
def EC4 : KEnv := EC4a.olo (fun f => Nat.beq f 18)
theorem okEC4 : KOk EC4 := okEC4a.olo _
end
end Go.K
set_option linter.unusedVariables false
set_option maxRecDepth 10000
namespace Go.K
open Go.Ab Go.RowKit Go.Y Go.Proofs
noncomputable section
attribute [local irreducible] krun callR
def a19_0 : List KV := []
def r19_0 : KV := (.bool true)
theorem m19_0 : Rn EC4 19 a19_0 r19_0 := of_eq_true (by kernel_rfl)
theorem c19_0 : KCS Tryz.prog 19 (kcon a19_0 r19_0) := kconR okEC4 m19_0
end
end Go.K
set_option linter.unusedVariables false
set_option maxRecDepth 10000
namespace Go.K
open Go.Ab Go.RowKit Go.Y Go.Proofs
noncomputable section
def tab19 : List (List KV × KV) := [(a19_0, r19_0)]
theorem PM19 : ∃ fn, Tryz.prog.funcs[19]? = some fn ∧ (fn.name == "runtime.NumGoroutine") = false ∧ fn.body.isNone = false := ⟨Tryz.f19, Tryz.func19, (fnsL.get Tryz.func19).1, by kernel_rfl⟩
theorem kcsT19 : KCS Tryz.prog 19 (sMem tab19) := sMem_s PM19 ⟨c19_0, by kernel_rfl, trivial⟩
end
end Go.K
set_option linter.unusedVariables false
set_option maxRecDepth 10000
namespace Go.K
open Go.Ab Go.RowKit Go.Y Go.Proofs
noncomputable section
def EC5a : KEnv := E0.tab [(273, sCompS), (261, sCompR), (314, sTab1 sbN), (324, kcon [] (.pk .u8 256 sbN)), (302, sEnc), (312, sEncR), (301, sMem tab301), (163, sMem tab163), (213, sMem tab213), (10, sMem tab10), (313, sMem tab313), (233, sMem tab233), (282, sMem tab282), (17, sMem tab17), (75, sMem tab75), (11, sMem tab11), (142, sMem tab142), (72, sMem tab72), (15, sMem tab15), (58, sMem tab58), (55, sMem tab55), (175, sMem tab175), (12, sMem tab12), (9, sMem tab9), (19, sMem tab19)]
theorem okEC5a : KOk EC5a := ok0.tab ⟨kcs273, kcs261, kcsSub, kcsTab, kcsEnc.cls, kcsEncR.cls, kcsT301, kcsT163, kcsT213, kcsT10, kcsT313, kcsT233, kcsT282, kcsT17, kcsT75, kcsT11, kcsT142, kcsT72, kcsT15, kcsT58, kcsT55, kcsT175, kcsT12, kcsT9, kcsT19, trivial⟩
def EC5 : KEnv := EC5a.olo (fun f => Nat.beq f 18)
theorem okEC5 : KOk EC5 := okEC5a.olo _
end
end Go.K
set_option linter.unusedVariables false
set_option maxRecDepth 10000
namespace Go.K
open Go.Ab Go.RowKit Go.Y Go.Proofs
noncomputable section
attribute [local irreducible] krun callR
def a3_0 : List KV := []
def r3_0 : KV := (.bool true)
theorem m3_0 : Rn EC5 3 a3_0 r3_0 := of_eq_true (by kernel_rfl)
theorem c3_0 : KCS Tryz.prog 3 (kcon a3_0 r3_0) := kconR okEC5 m3_0
end
end Go.K
set_option linter.unusedVariables false
set_option maxRecDepth 10000
namespace Go.K
open Go.Ab Go.RowKit Go.Y Go.Proofs
noncomputable section
def tab3 : List (List KV × KV) := [(a3_0, r3_0)]
theorem PM3 : ∃ fn, Tryz.prog.funcs[3]? = some fn ∧ (fn.name == "runtime.NumGoroutine") = false ∧ fn.body.isNone = false := ⟨Tryz.f3, Tryz.func3, (fnsL.get Tryz.func3).1, by kernel_rfl⟩
theorem kcsT3 : KCS Tryz.prog 3 (sMem tab3) := sMem_s PM3 ⟨c3_0, by kernel_rfl, trivial⟩
end
end Go.K
namespace Go.K
open Go.Ab Go.RowKit Go.Y Go.Proofs
theorem kcs3 : KCS Tryz.prog 3 (kcon [] (.bool true)) := c3_0
end Go.K
