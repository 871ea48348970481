/- Closed runs. No condition. -/
import Derived.Test.YthnhbdidiglcgaaGreatDoorRKD
set_option linter.unusedVariables false
set_option maxRecDepth 10000
namespace Go.K
open Go.Ab Go.RowKit Go.Y Go.Proofs
noncomputable section
attribute [local irreducible] krun callR
def a18_6 : List KV := [(iN 9), bigV10, (.cons (.pk .u8 32 78083477428683488413805964502381641923023826937822751514877386660815472891500) (.cons (wN 0) (.cons (wN 1000) .nl))), (.cons (.pk .u8 16 125900742916195838709135468801027031289) (.cons (.pk .u8 32 32964475149327106443761119737132610979723272928706672007876046231495031425136) .nl)), (iN 5)]
def r18_6 : KV := (.tup (.cons (.pk .u8 32 0) (.cons (.cons (iN 0) (.cons (bN 0) .nl)) (.cons (iN 0) .nl))))
theorem m18_6 : Rb ERK3 18 a18_6 r18_6 := of_eq_true (by kernel_rfl)
theorem c18_6 : KCSb Tryz.prog 18 (kcon a18_6 r18_6) := kconRb okERK3 m18_6
def a18_7 : List KV := [(iN 9), bigV10, (.cons (.pk .u8 32 78083477428683488413805964502381641923023826937822751514877386660815472891500) (.cons (wN 0) (.cons (wN 1000) .nl))), (.cons (.pk .u8 16 125900742916195838709135468801027031289) (.cons (.pk .u8 32 32964475149327106443761119737132610979723272928706672007876046231495031425136) .nl)), (iN 6)]
def r18_7 : KV := (.tup (.cons (.pk .u8 32 0) (.cons (.cons (iN 0) (.cons (bN 0) .nl)) (.cons (iN 0) .nl))))
theorem m18_7 : Rb ERK3 18 a18_7 r18_7 := of_eq_true (by kernel_rfl)
theorem c18_7 : KCSb Tryz.prog 18 (kcon a18_7 r18_7) := kconRb okERK3 m18_7
def a18_8 : List KV := [(iN 9), bigV10, (.cons (.pk .u8 32 78083477428683488413805964502381641923023826937822751514877386660815472891500) (.cons (wN 0) (.cons (wN 1000) .nl))), (.cons (.pk .u8 16 125900742916195838709135468801027031289) (.cons (.pk .u8 32 32964475149327106443761119737132610979723272928706672007876046231495031425136) .nl)), (iN 7)]
def r18_8 : KV := (.tup (.cons (.pk .u8 32 0) (.cons (.cons (iN 0) (.cons (bN 0) .nl)) (.cons (iN 0) .nl))))
theorem m18_8 : Rb ERK3 18 a18_8 r18_8 := of_eq_true (by kernel_rfl)
theorem c18_8 : KCSb Tryz.prog 18 (kcon a18_8 r18_8) := kconRb okERK3 m18_8
def a18_9 : List KV := [(iN 9), bigV10, (.cons (.pk .u8 32 78083477428683488413805964502381641923023826937822751514877386660815472891500) (.cons (wN 0) (.cons (wN 1000) .nl))), (.cons (.pk .u8 16 125900742916195838709135468801027031289) (.cons (.pk .u8 32 32964475149327106443761119737132610979723272928706672007876046231495031425136) .nl)), (iN 8)]
def r18_9 : KV := (.tup (.cons (.pk .u8 32 43586973752584214000503606306153847297570002532270420392061565301986769307139) (.cons (.cons (iN 0) (.cons (bN 0) .nl)) (.cons (iN 0) .nl))))
theorem m18_9 : Rb ERK3 18 a18_9 r18_9 := of_eq_true (by kernel_rfl)
theorem c18_9 : KCSb Tryz.prog 18 (kcon a18_9 r18_9) := kconRb okERK3 m18_9
def a18_10 : List KV := [(iN 9), bigV11, (.cons (.pk .u8 32 78083477428683488413805964502381641923023826937822751514877386660815472891500) (.cons (wN 0) (.cons (wN 1000) .nl))), (.cons (.pk .u8 16 125900742916195838709135468801027031289) (.cons (.pk .u8 32 32964475149327106443761119737132610979723272928706672007876046231495031425136) .nl)), (iN 0)]
def r18_10 : KV := (.tup (.cons (.pk .u8 32 14528991250861404666834535435384615765856667510756806797353855100662256435713) (.cons (.cons (iN 0) (.cons (bN 0) .nl)) (.cons (iN 0) .nl))))
theorem m18_10 : Rb ERK3 18 a18_10 r18_10 := of_eq_true (by kernel_rfl)
theorem c18_10 : KCSb Tryz.prog 18 (kcon a18_10 r18_10) := kconRb okERK3 m18_10
def a18_11 : List KV := [(iN 9), bigV11, (.cons (.pk .u8 32 78083477428683488413805964502381641923023826937822751514877386660815472891500) (.cons (wN 0) (.cons (wN 1000) .nl))), (.cons (.pk .u8 16 125900742916195838709135468801027031289) (.cons (.pk .u8 32 32964475149327106443761119737132610979723272928706672007876046231495031425136) .nl)), (iN 1)]
def r18_11 : KV := (.tup (.cons (.pk .u8 32 29057982501722809333669070870769231531713335021513613594707710201324512871426) (.cons (.cons (iN 0) (.cons (bN 0) .nl)) (.cons (iN 0) .nl))))
theorem m18_11 : Rb ERK3 18 a18_11 r18_11 := of_eq_true (by kernel_rfl)
theorem c18_11 : KCSb Tryz.prog 18 (kcon a18_11 r18_11) := kconRb okERK3 m18_11
def a18_12 : List KV := [(iN 9), bigV11, (.cons (.pk .u8 32 78083477428683488413805964502381641923023826937822751514877386660815472891500) (.cons (wN 0) (.cons (wN 1000) .nl))), (.cons (.pk .u8 16 125900742916195838709135468801027031289) (.cons (.pk .u8 32 32964475149327106443761119737132610979723272928706672007876046231495031425136) .nl)), (iN 2)]
def r18_12 : KV := (.tup (.cons (.pk .u8 32 0) (.cons (.cons (iN 0) (.cons (bN 0) .nl)) (.cons (iN 0) .nl))))
theorem m18_12 : Rb ERK3 18 a18_12 r18_12 := of_eq_true (by kernel_rfl)
theorem c18_12 : KCSb Tryz.prog 18 (kcon a18_12 r18_12) := kconRb okERK3 m18_12
end
end Go.K
