/- Tables of contracts. No condition. An environment. No condition. Closed runs. No condition. Tables of contracts. No condition. An environment. No condition. Closed runs. No condition. Tables of contracts. No condition. The run of the law. No condition. -/
import Derived.Test.YthnhbdidiglcgaaGreatDoorRKD
import Derived.Test.YthnhbdidiglcgaaGreatDoorRKR3_1
import Derived.Test.YthnhbdidiglcgaaGreatDoorRKR3_2
set_option linter.unusedVariables false
set_option maxRecDepth 10000
namespace Go.K
open Go.Ab Go.RowKit Go.Y Go.Proofs
noncomputable section
def tab9 : List (List KV × KV) := [(a9_0, r9_0)]
theorem PM9 : ∃ fn, Tryz.prog.funcs[9]? = some fn ∧ (fn.name == "runtime.NumGoroutine") = false ∧ fn.body.isNone = false := ⟨Tryz.f9, Tryz.func9, (fnsL.get Tryz.func9).1, by kernel_rfl⟩
theorem kcsT9 : KCSb Tryz.prog 9 (sMem tab9) := sMemb_s PM9 ⟨c9_0, by kernel_rfl, trivial⟩
def tab18 : List (List KV × KV) := [(a18_0, r18_0), (a18_1, r18_1), (a18_2, r18_2), (a18_3, r18_3), (a18_4, r18_4), (a18_5, r18_5), (a18_6, r18_6), (a18_7, r18_7), (a18_8, r18_8), (a18_9, r18_9), (a18_10, r18_10), (a18_11, r18_11), (a18_12, r18_12), (a18_13, r18_13), (a18_14, r18_14), (a18_15, r18_15), (a18_16, r18_16), (a18_17, r18_17), (a18_18, r18_18)]
theorem PM18 : ∃ fn, Tryz.prog.funcs[18]? = some fn ∧ (fn.name == "runtime.NumGoroutine") = false ∧ fn.body.isNone = false := ⟨Tryz.f18, Tryz.func18, (fnsL.get Tryz.func18).1, by kernel_rfl⟩
theorem kcsT18 : KCSb Tryz.prog 18 (sMem tab18) := sMemb_s PM18 ⟨c18_0, by kernel_rfl, ⟨c18_1, by kernel_rfl, ⟨c18_2, by kernel_rfl, ⟨c18_3, by kernel_rfl, ⟨c18_4, by kernel_rfl, ⟨c18_5, by kernel_rfl, ⟨c18_6, by kernel_rfl, ⟨c18_7, by kernel_rfl, ⟨c18_8, by kernel_rfl, ⟨c18_9, by kernel_rfl, ⟨c18_10, by kernel_rfl, ⟨c18_11, by kernel_rfl, ⟨c18_12, by kernel_rfl, ⟨c18_13, by kernel_rfl, ⟨c18_14, by kernel_rfl, ⟨c18_15, by kernel_rfl, ⟨c18_16, by kernel_rfl, ⟨c18_17, by kernel_rfl, ⟨c18_18, by kernel_rfl, trivial⟩⟩⟩⟩⟩⟩⟩⟩⟩⟩⟩⟩⟩⟩⟩⟩⟩⟩⟩
end
end Go.K
set_option maxRecDepth 10000
namespace Go.K
open Go.Ab Go.RowKit Go.Y Go.Proofs
noncomputable section
def ERK4b : KEnv := E0.tab [(273, sCompS), (261, sCompR), (314, sTab1 sbN), (324, kcon [] (.pk .u8 256 sbN)), (302, sEnc), (312, sEncR), (28, kcon [] (.bool true)), (29, kcon [dkF] r29), (313, sMem tab313), (301, sMem tab301), (213, sMem tab213), (233, sMem tab233), (282, sMem tab282), (163, sMem tab163), (142, sMem tab142), (220, sMem tab220), (58, sMem tab58), (55, sMem tab55), (175, sMem tab175)]
theorem okERK4b : KOk ERK4b := ok0.tab ⟨kcs273, kcs261, kcsSub, kcsTab, kcsEnc.cls, kcsEncR.cls, rlives_s, kcs29, kcsT313, kcsT301, kcsT213, kcsT233, kcsT282, kcsT163, kcsT142, kcsT220, kcsT58, kcsT55, kcsT175, trivial⟩
def ERK4a : KEnv := ERK4b.tabB [(17, sMem tab17), (30, sMem tab30), (20, sMem tab20), (24, sMem tab24), (32, sMem tab32), (9, sMem tab9), (18, sMem tab18)]
theorem okERK4a : KOk ERK4a := okERK4b.tabB ⟨kcsT17, kcsT30, kcsT20, kcsT24, kcsT32, kcsT9, kcsT18, trivial⟩
def ERK4 : KEnv := ERK4a.olo (fun f => false)
theorem okERK4 : KOk ERK4 := okERK4a.olo _
end
end Go.K
set_option maxRecDepth 10000
namespace Go.K
open Go.Ab Go.RowKit Go.Y Go.Proofs
noncomputable section
attribute [local irreducible] krun callR
def a25_0 : List KV := [(iN 9), bigV10, (.cons (.pk .u8 32 78083477428683488413805964502381641923023826937822751514877386660815472891500) (.cons (wN 0) (.cons (wN 1000) .nl))), (.cons (.pk .u8 16 125900742916195838709135468801027031289) (.cons (.pk .u8 32 32964475149327106443761119737132610979723272928706672007876046231495031425136) .nl))]
def r25_0 : KV := (.tup (.cons .nils (.cons (iN 1) (.cons (iN 9) .nl))))
theorem m25_0 : Rb ERK4 25 a25_0 r25_0 := of_eq_true (by kernel_rfl)
theorem c25_0 : KCSb Tryz.prog 25 (kcon a25_0 r25_0) := kconRb okERK4 m25_0
def a31_0 : List KV := [(iN 9), bigV10, (.cons (.pk .u8 32 78083477428683488413805964502381641923023826937822751514877386660815472891500) (.cons (wN 0) (.cons (wN 1000) .nl))), (.cons (.pk .u8 16 125900742916195838709135468801027031289) (.cons (.pk .u8 32 32964475149327106443761119737132610979723272928706672007876046231495031425136) .nl))]
def r31_0 : KV := (.tup (.cons (.ro true true .sc 0 1 (.pk .i64 1 1)) (.cons (iN 0) .nl)))
theorem m31_0 : Rb ERK4 31 a31_0 r31_0 := of_eq_true (by kernel_rfl)
theorem c31_0 : KCSb Tryz.prog 31 (kcon a31_0 r31_0) := kconRb okERK4 m31_0
def a31_1 : List KV := [(iN 9), bigV11, (.cons (.pk .u8 32 78083477428683488413805964502381641923023826937822751514877386660815472891500) (.cons (wN 0) (.cons (wN 1000) .nl))), (.cons (.pk .u8 16 125900742916195838709135468801027031289) (.cons (.pk .u8 32 32964475149327106443761119737132610979723272928706672007876046231495031425136) .nl))]
def r31_1 : KV := (.tup (.cons (.ro true true .sc 0 1 (.pk .i64 1 8)) (.cons (iN 0) .nl)))
theorem m31_1 : Rb ERK4 31 a31_1 r31_1 := of_eq_true (by kernel_rfl)
theorem c31_1 : KCSb Tryz.prog 31 (kcon a31_1 r31_1) := kconRb okERK4 m31_1
end
end Go.K
set_option maxRecDepth 10000
namespace Go.K
open Go.Ab Go.RowKit Go.Y Go.Proofs
noncomputable section
def tab25 : List (List KV × KV) := [(a25_0, r25_0)]
theorem PM25 : ∃ fn, Tryz.prog.funcs[25]? = some fn ∧ (fn.name == "runtime.NumGoroutine") = false ∧ fn.body.isNone = false := ⟨Tryz.f25, Tryz.func25, (fnsL.get Tryz.func25).1, by kernel_rfl⟩
theorem kcsT25 : KCSb Tryz.prog 25 (sMem tab25) := sMemb_s PM25 ⟨c25_0, by kernel_rfl, trivial⟩
def tab31 : List (List KV × KV) := [(a31_0, r31_0), (a31_1, r31_1)]
theorem PM31 : ∃ fn, Tryz.prog.funcs[31]? = some fn ∧ (fn.name == "runtime.NumGoroutine") = false ∧ fn.body.isNone = false := ⟨Tryz.f31, Tryz.func31, (fnsL.get Tryz.func31).1, by kernel_rfl⟩
theorem kcsT31 : KCSb Tryz.prog 31 (sMem tab31) := sMemb_s PM31 ⟨c31_0, by kernel_rfl, ⟨c31_1, by kernel_rfl, trivial⟩⟩
end
end Go.K
set_option maxRecDepth 10000
namespace Go.K
open Go.Ab Go.RowKit Go.Y Go.Proofs
noncomputable section
def ERK5b : KEnv := E0.tab [(273, sCompS), (261, sCompR), (314, sTab1 sbN), (324, kcon [] (.pk .u8 256 sbN)), (302, sEnc), (312, sEncR), (28, kcon [] (.bool true)), (29, kcon [dkF] r29), (313, sMem tab313), (301, sMem tab301), (213, sMem tab213), (233, sMem tab233), (282, sMem tab282), (163, sMem tab163), (142, sMem tab142), (220, sMem tab220), (58, sMem tab58), (55, sMem tab55), (175, sMem tab175)]
theorem okERK5b : KOk ERK5b := ok0.tab ⟨kcs273, kcs261, kcsSub, kcsTab, kcsEnc.cls, kcsEncR.cls, rlives_s, kcs29, kcsT313, kcsT301, kcsT213, kcsT233, kcsT282, kcsT163, kcsT142, kcsT220, kcsT58, kcsT55, kcsT175, trivial⟩
def ERK5a : KEnv := ERK5b.tabB [(17, sMem tab17), (30, sMem tab30), (20, sMem tab20), (24, sMem tab24), (32, sMem tab32), (9, sMem tab9), (18, sMem tab18), (25, sMem tab25), (31, sMem tab31)]
theorem okERK5a : KOk ERK5a := okERK5b.tabB ⟨kcsT17, kcsT30, kcsT20, kcsT24, kcsT32, kcsT9, kcsT18, kcsT25, kcsT31, trivial⟩
def ERK5 : KEnv := ERK5a.olo (fun f => false)
theorem okERK5 : KOk ERK5 := okERK5a.olo _
end
end Go.K
set_option maxRecDepth 10000
namespace Go.K
open Go.Ab Go.RowKit Go.Y Go.Proofs
noncomputable section
attribute [local irreducible] krun callR
def a5_0 : List KV := []
def r5_0 : KV := (.bool true)
theorem m5_0 : Rn ERK5 5 a5_0 r5_0 := of_eq_true (by kernel_rfl)
theorem c5_0 : KCS Tryz.prog 5 (kcon a5_0 r5_0) := kconR okERK5 m5_0
end
end Go.K
set_option maxRecDepth 10000
namespace Go.K
open Go.Ab Go.RowKit Go.Y Go.Proofs
noncomputable section
def tab5 : List (List KV × KV) := [(a5_0, r5_0)]
theorem PM5 : ∃ fn, Tryz.prog.funcs[5]? = some fn ∧ (fn.name == "runtime.NumGoroutine") = false ∧ fn.body.isNone = false := ⟨Tryz.f5, Tryz.func5, (fnsL.get Tryz.func5).1, by kernel_rfl⟩
theorem kcsT5 : KCS Tryz.prog 5 (sMem tab5) := sMem_s PM5 ⟨c5_0, by kernel_rfl, trivial⟩
end
end Go.K
namespace Go.K
open Go.Ab Go.RowKit Go.Y Go.Proofs
theorem kcs5 : KCS Tryz.prog 5 (kcon [] (.bool true)) := c5_0
end Go.K
