/- Closed runs. No condition. Closed runs. No condition. -/
import Derived.Test.YtlaekgadfkpbdaaGreatDoorMTB3
set_option linter.unusedVariables false
set_option maxRecDepth 10000
namespace Go.K
open Go.Ab Go.RowKit Go.Y Go.Proofs
noncomputable section
attribute [local irreducible] krun callR
def a6_15 : List KV := [(.int .i64 (.ofNat 20)), bigV8, (.cons (.pk .u8 32 95729678451599704995222640826369352695653207307115785760046732572100000245305) (.cons (.int .u64 (.ofNat 7)) (.cons (.int .u64 (.ofNat 1000)) .nl))), (.cons (.pk .u8 16 122111693778896634516562977860146646389) (.cons (.pk .u8 32 94283451785434318667656929874792115387405470269934704811045279456282858383942) .nl)), (.int .i64 (.ofNat 6))]
def r6_15 : KV := (.tup (.cons (.pk .u8 32 101702938756029832667841748047692310360996672575297647581476985704635795049991) (.cons (.cons (.int .i64 (.ofNat 0)) (.cons (.int .u8 (.ofNat 0)) .nl)) (.cons (.int .i64 (.ofNat 0)) .nl))))
theorem m6_15 : Rn EM7 6 a6_15 r6_15 := of_eq_true (by kernel_rfl)
theorem c6_15 : KCS Tryz.prog 6 (kcon a6_15 r6_15) := kconR okEM7 m6_15
def a6_16 : List KV := [(.int .i64 (.ofNat 20)), bigV8, (.cons (.pk .u8 32 95729678451599704995222640826369352695653207307115785760046732572100000245305) (.cons (.int .u64 (.ofNat 7)) (.cons (.int .u64 (.ofNat 1000)) .nl))), (.cons (.pk .u8 16 122111693778896634516562977860146646389) (.cons (.pk .u8 32 94283451785434318667656929874792115387405470269934704811045279456282858383942) .nl)), (.int .i64 (.ofNat 7))]
def r6_16 : KV := (.tup (.cons (.pk .u8 32 439840769575041911105298474389018273583355420413890339373256797384921845768) (.cons (.cons (.int .i64 (.ofNat 0)) (.cons (.int .u8 (.ofNat 0)) .nl)) (.cons (.int .i64 (.ofNat 0)) .nl))))
theorem m6_16 : Rn EM7 6 a6_16 r6_16 := of_eq_true (by kernel_rfl)
theorem c6_16 : KCS Tryz.prog 6 (kcon a6_16 r6_16) := kconR okEM7 m6_16
def a6_17 : List KV := [(.int .i64 (.ofNat 20)), bigV8, (.cons (.pk .u8 32 95729678451599704995222640826369352695653207307115785760046732572100000245305) (.cons (.int .u64 (.ofNat 7)) (.cons (.int .u64 (.ofNat 1000)) .nl))), (.cons (.pk .u8 16 122111693778896634516562977860146646389) (.cons (.pk .u8 32 94283451785434318667656929874792115387405470269934704811045279456282858383942) .nl)), (.int .i64 (.ofNat 8))]
def r6_17 : KV := (.tup (.cons (.pk .u8 32 14514745423042055014673139017326841703846907118564690894103303941790751199753) (.cons (.cons (.int .i64 (.ofNat 0)) (.cons (.int .u8 (.ofNat 0)) .nl)) (.cons (.int .i64 (.ofNat 0)) .nl))))
theorem m6_17 : Rn EM7 6 a6_17 r6_17 := of_eq_true (by kernel_rfl)
theorem c6_17 : KCS Tryz.prog 6 (kcon a6_17 r6_17) := kconR okEM7 m6_17
end
end Go.K
set_option linter.unusedVariables false
set_option maxRecDepth 10000
namespace Go.K
open Go.Ab Go.RowKit Go.Y Go.Proofs
noncomputable section
attribute [local irreducible] krun callR
def a6_18 : List KV := [(.int .i64 (.ofNat 20)), bigV8, (.cons (.pk .u8 32 95729678451599704995222640826369352695653207307115785760046732572100000245305) (.cons (.int .u64 (.ofNat 7)) (.cons (.int .u64 (.ofNat 1000)) .nl))), (.cons (.pk .u8 16 122111693778896634516562977860146646389) (.cons (.pk .u8 32 94283451785434318667656929874792115387405470269934704811045279456282858383942) .nl)), (.int .i64 (.ofNat 9))]
def r6_18 : KV := (.tup (.cons (.pk .u8 32 29043736646837789346549147169835985612704634185739212489549629055129249256458) (.cons (.cons (.int .i64 (.ofNat 0)) (.cons (.int .u8 (.ofNat 0)) .nl)) (.cons (.int .i64 (.ofNat 0)) .nl))))
theorem m6_18 : Rn EM7 6 a6_18 r6_18 := of_eq_true (by kernel_rfl)
theorem c6_18 : KCS Tryz.prog 6 (kcon a6_18 r6_18) := kconR okEM7 m6_18
def a6_19 : List KV := [(.int .i64 (.ofNat 20)), bigV8, (.cons (.pk .u8 32 95729678451599704995222640826369352695653207307115785760046732572100000245305) (.cons (.int .u64 (.ofNat 7)) (.cons (.int .u64 (.ofNat 1000)) .nl))), (.cons (.pk .u8 16 122111693778896634516562977860146646389) (.cons (.pk .u8 32 94283451785434318667656929874792115387405470269934704811045279456282858383942) .nl)), (.int .i64 (.ofNat 3))]
def r6_19 : KV := (.tup (.cons (.pk .u8 32 58115965003445618667338141741538463063426670043027227189415420402649025742852) (.cons (.cons (.int .i64 (.ofNat 0)) (.cons (.int .u8 (.ofNat 0)) .nl)) (.cons (.int .i64 (.ofNat 0)) .nl))))
theorem m6_19 : Rn EM7 6 a6_19 r6_19 := of_eq_true (by kernel_rfl)
theorem c6_19 : KCS Tryz.prog 6 (kcon a6_19 r6_19) := kconR okEM7 m6_19
end
end Go.K
