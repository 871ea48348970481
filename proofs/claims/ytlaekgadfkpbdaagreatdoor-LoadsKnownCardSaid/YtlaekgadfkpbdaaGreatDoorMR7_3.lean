/- Closed runs. No condition. Closed runs. No condition. -/
import Derived.Test.YtlaekgadfkpbdaaGreatDoorMTB3
set_option linter.unusedVariables false
set_option maxRecDepth 10000
namespace Go.K
open Go.Ab Go.RowKit Go.Y Go.Proofs
noncomputable section
attribute [local irreducible] krun callR
def a6_9 : List KV := [(.int .i64 (.ofNat 20)), bigV8, (.cons (.pk .u8 32 95729678451599704995222640826369352695653207307115785760046732572100000245305) (.cons (.int .u64 (.ofNat 7)) (.cons (.int .u64 (.ofNat 1000)) .nl))), (.cons (.pk .u8 16 122111693778896634516562977860146646389) (.cons (.pk .u8 32 94283451785434318667656929874792115387405470269934704811045279456282858383942) .nl)), (.int .i64 (.ofNat 16))]
def r6_9 : KV := (.tup (.cons (.pk .u8 32 14502273316968158589206823969036434161783582857126705000954593549467929223697) (.cons (.cons (.int .i64 (.ofNat 0)) (.cons (.int .u8 (.ofNat 0)) .nl)) (.cons (.int .i64 (.ofNat 0)) .nl))))
theorem m6_9 : Rn EM7 6 a6_9 r6_9 := of_eq_true (by kernel_rfl)
theorem c6_9 : KCS Tryz.prog 6 (kcon a6_9 r6_9) := kconR okEM7 m6_9
def a6_10 : List KV := [(.int .i64 (.ofNat 20)), bigV8, (.cons (.pk .u8 32 95729678451599704995222640826369352695653207307115785760046732572100000245305) (.cons (.int .u64 (.ofNat 7)) (.cons (.int .u64 (.ofNat 1000)) .nl))), (.cons (.pk .u8 16 122111693778896634516562977860146646389) (.cons (.pk .u8 32 94283451785434318667656929874792115387405470269934704811045279456282858383942) .nl)), (.int .i64 (.ofNat 17))]
def r6_10 : KV := (.tup (.cons (.pk .u8 32 29029490819018438081147988672164444732097641204881879093090868074344388895762) (.cons (.cons (.int .i64 (.ofNat 0)) (.cons (.int .u8 (.ofNat 0)) .nl)) (.cons (.int .i64 (.ofNat 0)) .nl))))
theorem m6_10 : Rn EM7 6 a6_10 r6_10 := of_eq_true (by kernel_rfl)
theorem c6_10 : KCS Tryz.prog 6 (kcon a6_10 r6_10) := kconR okEM7 m6_10
def a6_11 : List KV := [(.int .i64 (.ofNat 20)), bigV8, (.cons (.pk .u8 32 95729678451599704995222640826369352695653207307115785760046732572100000245305) (.cons (.int .u64 (.ofNat 7)) (.cons (.int .u64 (.ofNat 1000)) .nl))), (.cons (.pk .u8 16 122111693778896634516562977860146646389) (.cons (.pk .u8 32 94283451785434318667656929874792115387405470269934704811045279456282858383942) .nl)), (.int .i64 (.ofNat 18))]
def r6_11 : KV := (.tup (.cons (.pk .u8 32 43558482042814583789163327126184127383251002417385787837675973052152394884627) (.cons (.cons (.int .i64 (.ofNat 0)) (.cons (.int .u8 (.ofNat 0)) .nl)) (.cons (.int .i64 (.ofNat 0)) .nl))))
theorem m6_11 : Rn EM7 6 a6_11 r6_11 := of_eq_true (by kernel_rfl)
theorem c6_11 : KCS Tryz.prog 6 (kcon a6_11 r6_11) := kconR okEM7 m6_11
end
end Go.K
set_option linter.unusedVariables false
set_option maxRecDepth 10000
namespace Go.K
open Go.Ab Go.RowKit Go.Y Go.Proofs
noncomputable section
attribute [local irreducible] krun callR
def a6_12 : List KV := [(.int .i64 (.ofNat 20)), bigV8, (.cons (.pk .u8 32 95729678451599704995222640826369352695653207307115785760046732572100000245305) (.cons (.int .u64 (.ofNat 7)) (.cons (.int .u64 (.ofNat 1000)) .nl))), (.cons (.pk .u8 16 122111693778896634516562977860146646389) (.cons (.pk .u8 32 94283451785434318667656929874792115387405470269934704811045279456282858383942) .nl)), (.int .i64 (.ofNat 19))]
def r6_12 : KV := (.tup (.cons (.pk .u8 32 58087473293675577079858532260058204406812030570233939347411749333901562882068) (.cons (.cons (.int .i64 (.ofNat 0)) (.cons (.int .u8 (.ofNat 0)) .nl)) (.cons (.int .i64 (.ofNat 0)) .nl))))
theorem m6_12 : Rn EM7 6 a6_12 r6_12 := of_eq_true (by kernel_rfl)
theorem c6_12 : KCS Tryz.prog 6 (kcon a6_12 r6_12) := kconR okEM7 m6_12
def a6_13 : List KV := [(.int .i64 (.ofNat 20)), bigV8, (.cons (.pk .u8 32 95729678451599704995222640826369352695653207307115785760046732572100000245305) (.cons (.int .u64 (.ofNat 7)) (.cons (.int .u64 (.ofNat 1000)) .nl))), (.cons (.pk .u8 16 122111693778896634516562977860146646389) (.cons (.pk .u8 32 94283451785434318667656929874792115387405470269934704811045279456282858383942) .nl)), (.int .i64 (.ofNat 4))]
def r6_13 : KV := (.tup (.cons (.pk .u8 32 72644956254307023334172677176923078829283337553784033986769275503311282178565) (.cons (.cons (.int .i64 (.ofNat 0)) (.cons (.int .u8 (.ofNat 0)) .nl)) (.cons (.int .i64 (.ofNat 0)) .nl))))
theorem m6_13 : Rn EM7 6 a6_13 r6_13 := of_eq_true (by kernel_rfl)
theorem c6_13 : KCS Tryz.prog 6 (kcon a6_13 r6_13) := kconR okEM7 m6_13
def a6_14 : List KV := [(.int .i64 (.ofNat 20)), bigV8, (.cons (.pk .u8 32 95729678451599704995222640826369352695653207307115785760046732572100000245305) (.cons (.int .u64 (.ofNat 7)) (.cons (.int .u64 (.ofNat 1000)) .nl))), (.cons (.pk .u8 16 122111693778896634516562977860146646389) (.cons (.pk .u8 32 94283451785434318667656929874792115387405470269934704811045279456282858383942) .nl)), (.int .i64 (.ofNat 5))]
def r6_14 : KV := (.tup (.cons (.pk .u8 32 87173947505168428001007212612307694595140005064540840784123130603973538614278) (.cons (.cons (.int .i64 (.ofNat 0)) (.cons (.int .u8 (.ofNat 0)) .nl)) (.cons (.int .i64 (.ofNat 0)) .nl))))
theorem m6_14 : Rn EM7 6 a6_14 r6_14 := of_eq_true (by kernel_rfl)
theorem c6_14 : KCS Tryz.prog 6 (kcon a6_14 r6_14) := kconR okEM7 m6_14
end
end Go.K
