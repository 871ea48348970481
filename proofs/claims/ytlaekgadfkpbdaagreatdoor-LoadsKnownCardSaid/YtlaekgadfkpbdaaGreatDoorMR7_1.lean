/- Closed runs. No condition. Closed runs. No condition. -/
import Derived.Test.YtlaekgadfkpbdaaGreatDoorMTB3
set_option linter.unusedVariables false
set_option maxRecDepth 10000
namespace Go.K
open Go.Ab Go.RowKit Go.Y Go.Proofs
noncomputable section
attribute [local irreducible] krun callR
def a6_3 : List KV := [(.int .i64 (.ofNat 20)), bigV8, (.cons (.pk .u8 32 95729678451599704995222640826369352695653207307115785760046732572100000245305) (.cons (.int .u64 (.ofNat 7)) (.cons (.int .u64 (.ofNat 1000)) .nl))), (.cons (.pk .u8 16 122111693778896634516562977860146646389) (.cons (.pk .u8 32 94283451785434318667656929874792115387405470269934704811045279456282858383942) .nl)), (.int .i64 (.ofNat 10))]
def r6_3 : KV := (.tup (.cons (.pk .u8 32 43572727897699192400168536610843645072763419932125750348598134928534635877899) (.cons (.cons (.int .i64 (.ofNat 0)) (.cons (.int .u8 (.ofNat 0)) .nl)) (.cons (.int .i64 (.ofNat 0)) .nl))))
theorem m6_3 : Rn EM7 6 a6_3 r6_3 := of_eq_true (by kernel_rfl)
theorem c6_3 : KCS Tryz.prog 6 (kcon a6_3 r6_3) := kconR okEM7 m6_3
def a6_4 : List KV := [(.int .i64 (.ofNat 20)), bigV8, (.cons (.pk .u8 32 95729678451599704995222640826369352695653207307115785760046732572100000245305) (.cons (.int .u64 (.ofNat 7)) (.cons (.int .u64 (.ofNat 1000)) .nl))), (.cons (.pk .u8 16 122111693778896634516562977860146646389) (.cons (.pk .u8 32 94283451785434318667656929874792115387405470269934704811045279456282858383942) .nl)), (.int .i64 (.ofNat 11))]
def r6_4 : KV := (.tup (.cons (.pk .u8 32 58101719148560597066978456336603102498832706493758955304690114032046818203660) (.cons (.cons (.int .i64 (.ofNat 0)) (.cons (.int .u8 (.ofNat 0)) .nl)) (.cons (.int .i64 (.ofNat 0)) .nl))))
theorem m6_4 : Rn EM7 6 a6_4 r6_4 := of_eq_true (by kernel_rfl)
theorem c6_4 : KCS Tryz.prog 6 (kcon a6_4 r6_4) := kconR okEM7 m6_4
def a6_5 : List KV := [(.int .i64 (.ofNat 20)), bigV8, (.cons (.pk .u8 32 95729678451599704995222640826369352695653207307115785760046732572100000245305) (.cons (.int .u64 (.ofNat 7)) (.cons (.int .u64 (.ofNat 1000)) .nl))), (.cons (.pk .u8 16 122111693778896634516562977860146646389) (.cons (.pk .u8 32 94283451785434318667656929874792115387405470269934704811045279456282858383942) .nl)), (.int .i64 (.ofNat 12))]
def r6_5 : KV := (.tup (.cons (.pk .u8 32 72630710399422001733812991396381797470647324026168760093959233081134411094541) (.cons (.cons (.int .i64 (.ofNat 0)) (.cons (.int .u8 (.ofNat 0)) .nl)) (.cons (.int .i64 (.ofNat 0)) .nl))))
theorem m6_5 : Rn EM7 6 a6_5 r6_5 := of_eq_true (by kernel_rfl)
theorem c6_5 : KCS Tryz.prog 6 (kcon a6_5 r6_5) := kconR okEM7 m6_5
end
end Go.K
set_option linter.unusedVariables false
set_option maxRecDepth 10000
namespace Go.K
open Go.Ab Go.RowKit Go.Y Go.Proofs
noncomputable section
attribute [local irreducible] krun callR
def a6_6 : List KV := [(.int .i64 (.ofNat 20)), bigV8, (.cons (.pk .u8 32 95729678451599704995222640826369352695653207307115785760046732572100000245305) (.cons (.int .u64 (.ofNat 7)) (.cons (.int .u64 (.ofNat 1000)) .nl))), (.cons (.pk .u8 16 122111693778896634516562977860146646389) (.cons (.pk .u8 32 94283451785434318667656929874792115387405470269934704811045279456282858383942) .nl)), (.int .i64 (.ofNat 13))]
def r6_6 : KV := (.tup (.cons (.pk .u8 32 87159701650283406400647526831760704245733167697401333747435290201251136543758) (.cons (.cons (.int .i64 (.ofNat 0)) (.cons (.int .u8 (.ofNat 0)) .nl)) (.cons (.int .i64 (.ofNat 0)) .nl))))
theorem m6_6 : Rn EM7 6 a6_6 r6_6 := of_eq_true (by kernel_rfl)
theorem c6_6 : KCS Tryz.prog 6 (kcon a6_6 r6_6) := kconR okEM7 m6_6
def a6_7 : List KV := [(.int .i64 (.ofNat 20)), bigV8, (.cons (.pk .u8 32 95729678451599704995222640826369352695653207307115785760046732572100000245305) (.cons (.int .u64 (.ofNat 7)) (.cons (.int .u64 (.ofNat 1000)) .nl))), (.cons (.pk .u8 16 122111693778896634516562977860146646389) (.cons (.pk .u8 32 94283451785434318667656929874792115387405470269934704811045279456282858383942) .nl)), (.int .i64 (.ofNat 14))]
def r6_7 : KV := (.tup (.cons (.pk .u8 32 101688692901144811067482062267145297710844636677534999009070872653551886999055) (.cons (.cons (.int .i64 (.ofNat 0)) (.cons (.int .u8 (.ofNat 0)) .nl)) (.cons (.int .i64 (.ofNat 0)) .nl))))
theorem m6_7 : Rn EM7 6 a6_7 r6_7 := of_eq_true (by kernel_rfl)
theorem c6_7 : KCS Tryz.prog 6 (kcon a6_7 r6_7) := kconR okEM7 m6_7
def a6_8 : List KV := [(.int .i64 (.ofNat 20)), bigV8, (.cons (.pk .u8 32 95729678451599704995222640826369352695653207307115785760046732572100000245305) (.cons (.int .u64 (.ofNat 7)) (.cons (.int .u64 (.ofNat 1000)) .nl))), (.cons (.pk .u8 16 122111693778896634516562977860146646389) (.cons (.pk .u8 32 94283451785434318667656929874792115387405470269934704811045279456282858383942) .nl)), (.int .i64 (.ofNat 15))]
def r6_8 : KV := (.tup (.cons (.pk .u8 32 425594914690020310745612693842005535978751223970056656879869636336583450640) (.cons (.cons (.int .i64 (.ofNat 0)) (.cons (.int .u8 (.ofNat 0)) .nl)) (.cons (.int .i64 (.ofNat 0)) .nl))))
theorem m6_8 : Rn EM7 6 a6_8 r6_8 := of_eq_true (by kernel_rfl)
theorem c6_8 : KCS Tryz.prog 6 (kcon a6_8 r6_8) := kconR okEM7 m6_8
end
end Go.K
