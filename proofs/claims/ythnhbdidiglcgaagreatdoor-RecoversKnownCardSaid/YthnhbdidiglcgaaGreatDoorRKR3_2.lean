/- Closed runs. No condition. -/
import Derived.Test.YthnhbdidiglcgaaGreatDoorRKD
set_option linter.unusedVariables false
set_option maxRecDepth 10000
namespace Go.K
open Go.Ab Go.RowKit Go.Y Go.Proofs
noncomputable section
attribute [local irreducible] krun callR
def a18_13 : List KV := [(iN 9), bigV11, (.cons (.pk .u8 32 78083477428683488413805964502381641923023826937822751514877386660815472891500) (.cons (wN 0) (.cons (wN 1000) .nl))), (.cons (.pk .u8 16 125900742916195838709135468801027031289) (.cons (.pk .u8 32 32964475149327106443761119737132610979723272928706672007876046231495031425136) .nl)), (iN 3)]
def r18_13 : KV := (.tup (.cons (.pk .u8 32 0) (.cons (.cons (iN 0) (.cons (bN 0) .nl)) (.cons (iN 0) .nl))))
theorem m18_13 : Rb ERK3 18 a18_13 r18_13 := of_eq_true (by kernel_rfl)
theorem c18_13 : KCSb Tryz.prog 18 (kcon a18_13 r18_13) := kconRb okERK3 m18_13
def a18_14 : List KV := [(iN 9), bigV11, (.cons (.pk .u8 32 78083477428683488413805964502381641923023826937822751514877386660815472891500) (.cons (wN 0) (.cons (wN 1000) .nl))), (.cons (.pk .u8 16 125900742916195838709135468801027031289) (.cons (.pk .u8 32 32964475149327106443761119737132610979723272928706672007876046231495031425136) .nl)), (iN 4)]
def r18_14 : KV := (.tup (.cons (.pk .u8 32 0) (.cons (.cons (iN 0) (.cons (bN 0) .nl)) (.cons (iN 0) .nl))))
theorem m18_14 : Rb ERK3 18 a18_14 r18_14 := of_eq_true (by kernel_rfl)
theorem c18_14 : KCSb Tryz.prog 18 (kcon a18_14 r18_14) := kconRb okERK3 m18_14
def a18_15 : List KV := [(iN 9), bigV11, (.cons (.pk .u8 32 78083477428683488413805964502381641923023826937822751514877386660815472891500) (.cons (wN 0) (.cons (wN 1000) .nl))), (.cons (.pk .u8 16 125900742916195838709135468801027031289) (.cons (.pk .u8 32 32964475149327106443761119737132610979723272928706672007876046231495031425136) .nl)), (iN 5)]
def r18_15 : KV := (.tup (.cons (.pk .u8 32 0) (.cons (.cons (iN 0) (.cons (bN 0) .nl)) (.cons (iN 0) .nl))))
theorem m18_15 : Rb ERK3 18 a18_15 r18_15 := of_eq_true (by kernel_rfl)
theorem c18_15 : KCSb Tryz.prog 18 (kcon a18_15 r18_15) := kconRb okERK3 m18_15
def a18_16 : List KV := [(iN 9), bigV11, (.cons (.pk .u8 32 78083477428683488413805964502381641923023826937822751514877386660815472891500) (.cons (wN 0) (.cons (wN 1000) .nl))), (.cons (.pk .u8 16 125900742916195838709135468801027031289) (.cons (.pk .u8 32 32964475149327106443761119737132610979723272928706672007876046231495031425136) .nl)), (iN 6)]
def r18_16 : KV := (.tup (.cons (.pk .u8 32 0) (.cons (.cons (iN 0) (.cons (bN 0) .nl)) (.cons (iN 0) .nl))))
theorem m18_16 : Rb ERK3 18 a18_16 r18_16 := of_eq_true (by kernel_rfl)
theorem c18_16 : KCSb Tryz.prog 18 (kcon a18_16 r18_16) := kconRb okERK3 m18_16
def a18_17 : List KV := [(iN 9), bigV11, (.cons (.pk .u8 32 78083477428683488413805964502381641923023826937822751514877386660815472891500) (.cons (wN 0) (.cons (wN 1000) .nl))), (.cons (.pk .u8 16 125900742916195838709135468801027031289) (.cons (.pk .u8 32 32964475149327106443761119737132610979723272928706672007876046231495031425136) .nl)), (iN 7)]
def r18_17 : KV := (.tup (.cons (.pk .u8 32 0) (.cons (.cons (iN 0) (.cons (bN 0) .nl)) (.cons (iN 0) .nl))))
theorem m18_17 : Rb ERK3 18 a18_17 r18_17 := of_eq_true (by kernel_rfl)
theorem c18_17 : KCSb Tryz.prog 18 (kcon a18_17 r18_17) := kconRb okERK3 m18_17
def a18_18 : List KV := [(iN 9), bigV11, (.cons (.pk .u8 32 78083477428683488413805964502381641923023826937822751514877386660815472891500) (.cons (wN 0) (.cons (wN 1000) .nl))), (.cons (.pk .u8 16 125900742916195838709135468801027031289) (.cons (.pk .u8 32 32964475149327106443761119737132610979723272928706672007876046231495031425136) .nl)), (iN 8)]
def r18_18 : KV := (.tup (.cons (.pk .u8 32 0) (.cons (.cons (iN 22) (.cons (bN 1) .nl)) (.cons (iN 9) .nl))))
theorem m18_18 : Rb ERK3 18 a18_18 r18_18 := of_eq_true (by kernel_rfl)
theorem c18_18 : KCSb Tryz.prog 18 (kcon a18_18 r18_18) := kconRb okERK3 m18_18
end
end Go.K
