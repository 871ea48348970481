/- Closed runs. No condition. Closed runs. No condition. -/
import Derived.Test.YtlaekgadfkpbdaaGreatDoorMTB2
set_option linter.unusedVariables false
set_option maxRecDepth 10000
namespace Go.K
open Go.Ab Go.RowKit Go.Y Go.Proofs
noncomputable section
attribute [local irreducible] krun callR
def a104_5 : List KV := [(.pk .u8 16 122111693778896634516562977860146646389), (.cons (.int .u32 (.ofNat 0)) (.cons (.int .u64 (.ofNat 12)) .nl)), (.int .i64 (.ofNat 0)), (.ro false true .sc 0 32 (.pk .u8 32 16823756845460691562401830544852962202289534731030649143571366368494630688628))]
def r104_5 : KV := (.tup (.cons (.ro true true .sc 0 32 (.pk .u8 32 72630710399422001733812991396381797470647324026168760093959233081134411094541)) (.cons (.int .i64 (.ofNat 0)) .nl)))
theorem m104_5 : Rn EM3 104 a104_5 r104_5 := of_eq_true (by kernel_rfl)
theorem c104_5 : KCS Tryz.prog 104 (kcon a104_5 r104_5) := kconR okEM3 m104_5
def a104_6 : List KV := [(.pk .u8 16 122111693778896634516562977860146646389), (.cons (.int .u32 (.ofNat 1)) (.cons (.int .u64 (.ofNat 13)) .nl)), (.int .i64 (.ofNat 0)), (.ro false true .sc 0 32 (.pk .u8 32 70410713582291081162259642962200033951175421344002506930926815086494328447552))]
def r104_6 : KV := (.tup (.cons (.ro true true .sc 0 32 (.pk .u8 32 87159701650283406400647526831760704245733167697401333747435290201251136543758)) (.cons (.int .i64 (.ofNat 0)) .nl)))
theorem m104_6 : Rn EM3 104 a104_6 r104_6 := of_eq_true (by kernel_rfl)
theorem c104_6 : KCS Tryz.prog 104 (kcon a104_6 r104_6) := kconR okEM3 m104_6
def a104_7 : List KV := [(.pk .u8 16 122111693778896634516562977860146646389), (.cons (.int .u32 (.ofNat 2)) (.cons (.int .u64 (.ofNat 14)) .nl)), (.int .i64 (.ofNat 0)), (.ro false true .sc 0 32 (.pk .u8 32 114633187806777744635620357371234901468936540151926123718164507851723038803586))]
def r104_7 : KV := (.tup (.cons (.ro true true .sc 0 32 (.pk .u8 32 101688692901144811067482062267145297710844636677534999009070872653551886999055)) (.cons (.int .i64 (.ofNat 0)) .nl)))
theorem m104_7 : Rn EM3 104 a104_7 r104_7 := of_eq_true (by kernel_rfl)
theorem c104_7 : KCS Tryz.prog 104 (kcon a104_7 r104_7) := kconR okEM3 m104_7
def a104_8 : List KV := [(.pk .u8 16 122111693778896634516562977860146646389), (.cons (.int .u32 (.ofNat 0)) (.cons (.int .u64 (.ofNat 15)) .nl)), (.int .i64 (.ofNat 0)), (.ro false true .sc 0 32 (.pk .u8 32 51251592836142136675419806358603329804691203080410969400355438037116749797495))]
def r104_8 : KV := (.tup (.cons (.ro true true .sc 0 32 (.pk .u8 32 425594914690020310745612693842005535978751223970056656879869636336583450640)) (.cons (.int .i64 (.ofNat 0)) .nl)))
theorem m104_8 : Rn EM3 104 a104_8 r104_8 := of_eq_true (by kernel_rfl)
theorem c104_8 : KCS Tryz.prog 104 (kcon a104_8 r104_8) := kconR okEM3 m104_8
def a104_9 : List KV := [(.pk .u8 16 122111693778896634516562977860146646389), (.cons (.int .u32 (.ofNat 1)) (.cons (.int .u64 (.ofNat 16)) .nl)), (.int .i64 (.ofNat 0)), (.ro false true .sc 0 32 (.pk .u8 32 89527759450031847670468971967531594691778839366271487695618182899495742381943))]
def r104_9 : KV := (.tup (.cons (.ro true true .sc 0 32 (.pk .u8 32 14502273316968158589206823969036434161783582857126705000954593549467929223697)) (.cons (.int .i64 (.ofNat 0)) .nl)))
theorem m104_9 : Rn EM3 104 a104_9 r104_9 := of_eq_true (by kernel_rfl)
theorem c104_9 : KCS Tryz.prog 104 (kcon a104_9 r104_9) := kconR okEM3 m104_9
def a104_10 : List KV := [(.pk .u8 16 122111693778896634516562977860146646389), (.cons (.int .u32 (.ofNat 2)) (.cons (.int .u64 (.ofNat 17)) .nl)), (.int .i64 (.ofNat 0)), (.ro false true .sc 0 32 (.pk .u8 32 72879239605477370808498882950985169992285317649391913543348275769351499483544))]
def r104_10 : KV := (.tup (.cons (.ro true true .sc 0 32 (.pk .u8 32 29029490819018438081147988672164444732097641204881879093090868074344388895762)) (.cons (.int .i64 (.ofNat 0)) .nl)))
theorem m104_10 : Rn EM3 104 a104_10 r104_10 := of_eq_true (by kernel_rfl)
theorem c104_10 : KCS Tryz.prog 104 (kcon a104_10 r104_10) := kconR okEM3 m104_10
def a104_11 : List KV := [(.pk .u8 16 122111693778896634516562977860146646389), (.cons (.int .u32 (.ofNat 0)) (.cons (.int .u64 (.ofNat 18)) .nl)), (.int .i64 (.ofNat 0)), (.ro false true .sc 0 32 (.pk .u8 32 65076860137921966502029725259029020815544222064671155177034021377628492254642))]
def r104_11 : KV := (.tup (.cons (.ro true true .sc 0 32 (.pk .u8 32 43558482042814583789163327126184127383251002417385787837675973052152394884627)) (.cons (.int .i64 (.ofNat 0)) .nl)))
theorem m104_11 : Rn EM3 104 a104_11 r104_11 := of_eq_true (by kernel_rfl)
theorem c104_11 : KCS Tryz.prog 104 (kcon a104_11 r104_11) := kconR okEM3 m104_11
def a104_12 : List KV := [(.pk .u8 16 122111693778896634516562977860146646389), (.cons (.int .u32 (.ofNat 1)) (.cons (.int .u64 (.ofNat 19)) .nl)), (.int .i64 (.ofNat 0)), (.ro false true .sc 0 32 (.pk .u8 32 65434658952421938540856205995635972487292015734288186395658684069646536364673))]
def r104_12 : KV := (.tup (.cons (.ro true true .sc 0 32 (.pk .u8 32 58087473293675577079858532260058204406812030570233939347411749333901562882068)) (.cons (.int .i64 (.ofNat 0)) .nl)))
theorem m104_12 : Rn EM3 104 a104_12 r104_12 := of_eq_true (by kernel_rfl)
theorem c104_12 : KCS Tryz.prog 104 (kcon a104_12 r104_12) := kconR okEM3 m104_12
def a104_13 : List KV := [(.pk .u8 16 122111693778896634516562977860146646389), (.cons (.int .u32 (.ofNat 1)) (.cons (.int .u64 (.ofNat 4)) .nl)), (.int .i64 (.ofNat 0)), (.ro false true .sc 0 32 (.pk .u8 32 4378267722799409095873039708175345117837738440468764236102706770477555721325))]
def r104_13 : KV := (.tup (.cons (.ro true true .sc 0 32 (.pk .u8 32 72644956254307023334172677176923078829283337553784033986769275503311282178565)) (.cons (.int .i64 (.ofNat 0)) .nl)))
theorem m104_13 : Rn EM3 104 a104_13 r104_13 := of_eq_true (by kernel_rfl)
theorem c104_13 : KCS Tryz.prog 104 (kcon a104_13 r104_13) := kconR okEM3 m104_13
def a104_14 : List KV := [(.pk .u8 16 122111693778896634516562977860146646389), (.cons (.int .u32 (.ofNat 2)) (.cons (.int .u64 (.ofNat 5)) .nl)), (.int .i64 (.ofNat 0)), (.ro false true .sc 0 32 (.pk .u8 32 3331971965219918778985248582800139854151166301952809494864965926398976015228))]
def r104_14 : KV := (.tup (.cons (.ro true true .sc 0 32 (.pk .u8 32 87173947505168428001007212612307694595140005064540840784123130603973538614278)) (.cons (.int .i64 (.ofNat 0)) .nl)))
theorem m104_14 : Rn EM3 104 a104_14 r104_14 := of_eq_true (by kernel_rfl)
theorem c104_14 : KCS Tryz.prog 104 (kcon a104_14 r104_14) := kconR okEM3 m104_14
def a104_15 : List KV := [(.pk .u8 16 122111693778896634516562977860146646389), (.cons (.int .u32 (.ofNat 0)) (.cons (.int .u64 (.ofNat 6)) .nl)), (.int .i64 (.ofNat 0)), (.ro false true .sc 0 32 (.pk .u8 32 102554192980080077145921269467962421577796353456529444740247674224048603624388))]
def r104_15 : KV := (.tup (.cons (.ro true true .sc 0 32 (.pk .u8 32 101702938756029832667841748047692310360996672575297647581476985704635795049991)) (.cons (.int .i64 (.ofNat 0)) .nl)))
theorem m104_15 : Rn EM3 104 a104_15 r104_15 := of_eq_true (by kernel_rfl)
theorem c104_15 : KCS Tryz.prog 104 (kcon a104_15 r104_15) := kconR okEM3 m104_15
def a104_16 : List KV := [(.pk .u8 16 122111693778896634516562977860146646389), (.cons (.int .u32 (.ofNat 1)) (.cons (.int .u64 (.ofNat 7)) .nl)), (.int .i64 (.ofNat 0)), (.ro false true .sc 0 32 (.pk .u8 32 55496593450387451198167044548502376328497119663929893557097827037387994661265))]
def r104_16 : KV := (.tup (.cons (.ro true true .sc 0 32 (.pk .u8 32 439840769575041911105298474389018273583355420413890339373256797384921845768)) (.cons (.int .i64 (.ofNat 0)) .nl)))
theorem m104_16 : Rn EM3 104 a104_16 r104_16 := of_eq_true (by kernel_rfl)
theorem c104_16 : KCS Tryz.prog 104 (kcon a104_16 r104_16) := kconR okEM3 m104_16
def a104_17 : List KV := [(.pk .u8 16 122111693778896634516562977860146646389), (.cons (.int .u32 (.ofNat 2)) (.cons (.int .u64 (.ofNat 8)) .nl)), (.int .i64 (.ofNat 0)), (.ro false true .sc 0 32 (.pk .u8 32 43824350341659906491391542936738082030025253010219422253406532588448170589340))]
def r104_17 : KV := (.tup (.cons (.ro true true .sc 0 32 (.pk .u8 32 14514745423042055014673139017326841703846907118564690894103303941790751199753)) (.cons (.int .i64 (.ofNat 0)) .nl)))
theorem m104_17 : Rn EM3 104 a104_17 r104_17 := of_eq_true (by kernel_rfl)
theorem c104_17 : KCS Tryz.prog 104 (kcon a104_17 r104_17) := kconR okEM3 m104_17
def a104_18 : List KV := [(.pk .u8 16 122111693778896634516562977860146646389), (.cons (.int .u32 (.ofNat 0)) (.cons (.int .u64 (.ofNat 9)) .nl)), (.int .i64 (.ofNat 0)), (.ro false true .sc 0 32 (.pk .u8 32 66261975482573558590138568292658987647062929569140010670047983710329018689380))]
def r104_18 : KV := (.tup (.cons (.ro true true .sc 0 32 (.pk .u8 32 29043736646837789346549147169835985612704634185739212489549629055129249256458)) (.cons (.int .i64 (.ofNat 0)) .nl)))
theorem m104_18 : Rn EM3 104 a104_18 r104_18 := of_eq_true (by kernel_rfl)
theorem c104_18 : KCS Tryz.prog 104 (kcon a104_18 r104_18) := kconR okEM3 m104_18
def a104_19 : List KV := [(.pk .u8 16 122111693778896634516562977860146646389), (.cons (.int .u32 (.ofNat 0)) (.cons (.int .u64 (.ofNat 3)) .nl)), (.int .i64 (.ofNat 0)), (.ro false true .sc 0 32 (.pk .u8 32 101553332428540550277201355837572873509331124791628757213466554897122774541900))]
def r104_19 : KV := (.tup (.cons (.ro true true .sc 0 32 (.pk .u8 32 58115965003445618667338141741538463063426670043027227189415420402649025742852)) (.cons (.int .i64 (.ofNat 0)) .nl)))
theorem m104_19 : Rn EM3 104 a104_19 r104_19 := of_eq_true (by kernel_rfl)
theorem c104_19 : KCS Tryz.prog 104 (kcon a104_19 r104_19) := kconR okEM3 m104_19
end
end Go.K
set_option linter.unusedVariables false
set_option maxRecDepth 10000
namespace Go.K
open Go.Ab Go.RowKit Go.Y Go.Proofs
noncomputable section
attribute [local irreducible] krun callR
def a13_0 : List KV := [(.pk .u8 32 43586973752584214000503606306153847297570002532270420392061565301986769307139)]
def r13_0 : KV := (.tup (.cons (.pk .u8 16 122111693778896634516562977860146646389) (.cons (.pk .u8 32 94283451785434318667656929874792115387405470269934704811045279456282858383942) .nl)))
theorem m13_0 : Rn EM3 13 a13_0 r13_0 := of_eq_true (by kernel_rfl)
theorem c13_0 : KCS Tryz.prog 13 (kcon a13_0 r13_0) := kconR okEM3 m13_0
end
end Go.K
