/- Closed runs. No condition. -/
import Derived.Test.YthnhbdidiglcgaaGreatDoorCD
set_option linter.unusedVariables false
set_option maxRecDepth 10000
namespace Go.K
open Go.Ab Go.RowKit Go.Y Go.Proofs
noncomputable section
attribute [local irreducible] krun callR
def a313_0 : List KV := [(.pk .u8 16 125900742916195838709135468801027031289)]
def r313_0 : KV := bigV0
theorem m313_0 : Rn EC0 313 a313_0 r313_0 := of_eq_true (by kernel_rfl)
theorem c313_0 : KCS Tryz.prog 313 (kcon a313_0 r313_0) := kconR okEC0 m313_0
def a233_0 : List KV := [(.ro false true .sc 0 32 (.pk .u8 32 32964475149327106443761119737132610979723272928706672007876046231495031425136)), (.ro false true .sc 0 48 (.pk .u8 48 6307603041761560681261696870352796988672920878678077863687324186281087785948526927698342637866851014515749965266944)), (.pk .u8 32 100650798749002691258200660989508745656955523408035475584006859743353366237241)]
def r233_0 : KV := (.bool true)
theorem m233_0 : Rn EC0 233 a233_0 r233_0 := of_eq_true (by kernel_rfl)
theorem c233_0 : KCS Tryz.prog 233 (kcon a233_0 r233_0) := kconR okEC0 m233_0
def a233_1 : List KV := [(.ro false true .sc 0 32 (.pk .u8 32 32964475149327106443761119737132610979723272928706672007876046231495031425136)), (.ro false true .sc 0 48 (.pk .u8 48 20376389787191895909377442609058460681859417064988373962728819511512364599183667758504718771244797899174695531446272)), (.pk .u8 32 95035585274343591648304519734895534475800475647020555165784769574361588764947)]
def r233_1 : KV := (.bool true)
theorem m233_1 : Rn EC0 233 a233_1 r233_1 := of_eq_true (by kernel_rfl)
theorem c233_1 : KCS Tryz.prog 233 (kcon a233_1 r233_1) := kconR okEC0 m233_1
def a282_0 : List KV := [(.ro false true .sc 0 137 (.pk .u8 137 778979574307894255039139439912160854753263086488822950181758389499751153666279791480204347400826745584393143611042203210154176827930798996981768948335419417842899555975169))]
def r282_0 : KV := bigV13
theorem m282_0 : Rn EC0 282 a282_0 r282_0 := of_eq_true (by kernel_rfl)
theorem c282_0 : KCS Tryz.prog 282 (kcon a282_0 r282_0) := kconR okEC0 m282_0
def a282_1 : List KV := [(.ro false true .sc 0 185 (.pk .u8 185 2244587816930093817395670119381586351770111462202864557127742488284966042966320838802951749783673062250085296820067500032))]
def r282_1 : KV := bigV14
theorem m282_1 : Rn EC0 282 a282_1 r282_1 := of_eq_true (by kernel_rfl)
theorem c282_1 : KCS Tryz.prog 282 (kcon a282_1 r282_1) := kconR okEC0 m282_1
def a282_2 : List KV := [(.ro false true .sc 0 137 (.pk .u8 137 519717831545822848633733031323588542371962921623165145206321599781565194760863465749865317635422151918163805302341209749316800624880078270549948535621691372778595354148865))]
def r282_2 : KV := bigV15
theorem m282_2 : Rn EC0 282 a282_2 r282_2 := of_eq_true (by kernel_rfl)
theorem c282_2 : KCS Tryz.prog 282 (kcon a282_2 r282_2) := kconR okEC0 m282_2
def a282_3 : List KV := [(.ro false true .sc 0 185 (.pk .u8 185 2119364371996365444868957766216609945121384646684531755190760298661929851287791274049324423036574941982397914779421245440))]
def r282_3 : KV := bigV16
theorem m282_3 : Rn EC0 282 a282_3 r282_3 := of_eq_true (by kernel_rfl)
theorem c282_3 : KCS Tryz.prog 282 (kcon a282_3 r282_3) := kconR okEC0 m282_3
def a282_4 : List KV := [(.ro false true .sc 0 137 (.pk .u8 137 5))]
def r282_4 : KV := bigV17
theorem m282_4 : Rn EC0 282 a282_4 r282_4 := of_eq_true (by kernel_rfl)
theorem c282_4 : KCS Tryz.prog 282 (kcon a282_4 r282_4) := kconR okEC0 m282_4
def a17_0 : List KV := [bigV18]
def r17_0 : KV := bigV20
theorem m17_0 : Rn EC0 17 a17_0 r17_0 := of_eq_true (by kernel_rfl)
theorem c17_0 : KCS Tryz.prog 17 (kcon a17_0 r17_0) := kconR okEC0 m17_0
end
end Go.K
