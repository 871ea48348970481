/- Values of the runs. No condition. An environment. No condition. Closed runs. No condition. Tables of contracts. No condition. An environment. No condition. Closed runs. No condition. Tables of contracts. No condition. An environment. No condition. Closed runs. No condition. Tables of contracts. No condition. An environment. No condition. Closed runs. No condition. -/
import Derived.Test.YthnhbdidiglcgaaGreatDoorAE4
import Derived.Test.YthnhbdidiglcgaaGreatDoorRV1
import Derived.Test.YthnhbdidiglcgaaGreatDoorPR2
import Derived.Test.YthnhbdidiglcgaaGreatDoorK24
set_option linter.unusedVariables false
set_option maxRecDepth 10000
namespace Go.K
open Go.Ab Go.RowKit Go.Y Go.Proofs
noncomputable section
def iN (n : Nat) : KV := .int .i64 (.ofNat n)
def bN (n : Nat) : KV := .int .u8 (.ofNat n)
def wN (n : Nat) : KV := .int .u64 (.ofNat n)
def lfN (x : KV) : KV := .tn x .te .te .te .te
def s4N : Shape := .cons .sc (.cons .sc (.cons .sc (.cons .sc .nl)))
def chQ : KV := .ref true (.arr 64 .sc) (.ar 64 .nilp .te)
def Rn (E : KEnv) (f : Nat) (a : List KV) (r : KV) : Prop := callR E (krun E 1000000) 0 f a .e 0 0 (fun x zm _ _ => tK (fzB zm 60 x r))
theorem kconR {E : KEnv} {f : Nat} {a : List KV} {r : KV} (hE : KOk E) (h : Rn E f a r) : KCS E.P f (kcon a r) := kconF_s hE h
def Rb (E : KEnv) (f : Nat) (a : List KV) (r : KV) : Prop := callR E (krun E 1000000) 0 f a .e 0 0 (fun x zm _ _ => tK (fzG true zm 60 x r))
theorem kconRb {E : KEnv} {f : Nat} {a : List KV} {r : KV} (hE : KOk E) (h : Rb E f a r) : KCSb E.P f (kcon a r) := kconB_s hE h
def bigV0 : KV := (.cons (bN 5) (.cons (.int .u32 (.ofNat 0)) (.cons (.ar 4 (.cons (bN 0) (.cons (.cons (.int .u32 (.ofNat 0)) (.cons (wN 0) .nl)) (.cons (.pk .u8 32 0) .nl))) .te) (.cons (.ar 4 (.cons (bN 0) (.cons (.pk .u8 32 0) .nl)) (.tn (.cons (bN 0) (.cons (.pk .u8 32 0) .nl)) (lfN (.cons (bN 0) (.cons (.pk .u8 32 0) .nl))) (lfN (.cons (bN 0) (.cons (.pk .u8 32 0) .nl))) (lfN (.cons (bN 0) (.cons (.pk .u8 32 0) .nl))) .te)) .nl))))
def bigV1 : KV := (.cons (bN 1) (.cons (.int .u32 (.ofNat 0)) (.cons (.ar 4 (.cons (bN 0) (.cons (.cons (.int .u32 (.ofNat 0)) (.cons (wN 0) .nl)) (.cons (.pk .u8 32 0) .nl))) .te) (.cons (.ar 4 (.cons (bN 0) (.cons (.pk .u8 32 0) .nl)) (.tn (.cons (bN 1) (.cons (.pk .u8 32 71017738448712410051819844076799111165397884009610088724081589448358301996955) .nl)) (lfN (.cons (bN 0) (.cons (.pk .u8 32 0) .nl))) (lfN (.cons (bN 1) (.cons (.pk .u8 32 64637550186180419616342611539218859510629830792411544588428798965471180257593) .nl))) (lfN (.cons (bN 0) (.cons (.pk .u8 32 0) .nl))) .te)) .nl))))
def bigV2 : KV := (.cons (bN 0) (.cons (.int .u32 (.ofNat 0)) (.cons (.ar 4 (.cons (bN 0) (.cons (.cons (.int .u32 (.ofNat 0)) (.cons (wN 0) .nl)) (.cons (.pk .u8 32 0) .nl))) (.tn (.cons (bN 1) (.cons (.cons (.int .u32 (.ofNat 0)) (.cons (wN 0) .nl)) (.cons (.pk .u8 32 100650798749002691258200660989508745656955523408035475584006859743353366237241) .nl))) (lfN (.cons (bN 1) (.cons (.cons (.int .u32 (.ofNat 1)) (.cons (wN 1) .nl)) (.cons (.pk .u8 32 47067535210800624230086642220607872293566820332338140672623539479912253342839) .nl)))) (lfN (.cons (bN 0) (.cons (.cons (.int .u32 (.ofNat 0)) (.cons (wN 0) .nl)) (.cons (.pk .u8 32 0) .nl)))) (lfN (.cons (bN 0) (.cons (.cons (.int .u32 (.ofNat 0)) (.cons (wN 0) .nl)) (.cons (.pk .u8 32 0) .nl)))) .te)) (.cons (.ar 4 (.cons (bN 0) (.cons (.pk .u8 32 0) .nl)) .te) .nl))))
def bigV3 : KV := (.cons (bN 0) (.cons (.int .u32 (.ofNat 2)) (.cons (.ar 4 (.cons (bN 0) (.cons (.cons (.int .u32 (.ofNat 0)) (.cons (wN 0) .nl)) (.cons (.pk .u8 32 0) .nl))) (.tn (.cons (bN 2) (.cons (.cons (.int .u32 (.ofNat 2)) (.cons (wN 8) .nl)) (.cons (.pk .u8 32 114456763330606042026371034945826131321139857887488382555919720545868797518347) .nl))) (lfN (.cons (bN 0) (.cons (.cons (.int .u32 (.ofNat 0)) (.cons (wN 0) .nl)) (.cons (.pk .u8 32 0) .nl)))) (lfN (.cons (bN 0) (.cons (.cons (.int .u32 (.ofNat 0)) (.cons (wN 0) .nl)) (.cons (.pk .u8 32 0) .nl)))) (lfN (.cons (bN 0) (.cons (.cons (.int .u32 (.ofNat 0)) (.cons (wN 0) .nl)) (.cons (.pk .u8 32 0) .nl)))) .te)) (.cons (.ar 4 (.cons (bN 0) (.cons (.pk .u8 32 0) .nl)) .te) .nl))))
def bigV4 : KV := (.tup (.cons (.cons (iN 10922) (.cons (iN 1) (.cons (.ro true true .sc 0 171 (.ar 171 .nilp (.tn chQ (.tn chQ (.tn chQ (.tn chQ (lfN chQ) (lfN chQ) .te .te) (.tn chQ (lfN chQ) (lfN chQ) .te .te) (.tn chQ (lfN chQ) .te .te .te) (.tn chQ (lfN chQ) .te .te .te)) (.tn chQ (.tn chQ (lfN chQ) (lfN chQ) .te .te) (.tn chQ (lfN chQ) (lfN chQ) .te .te) (.tn chQ (lfN chQ) .te .te .te) (.tn chQ (lfN chQ) .te .te .te)) (.tn chQ (.tn chQ (lfN chQ) (lfN chQ) .te .te) (.tn chQ (lfN chQ) .te .te .te) (.tn chQ (lfN chQ) .te .te .te) (.tn chQ (lfN chQ) .te .te .te)) (.tn chQ (.tn chQ (lfN chQ) (lfN chQ) .te .te) (.tn chQ (lfN chQ) .te .te .te) (.tn chQ (lfN chQ) .te .te .te) (.tn chQ (lfN chQ) .te .te .te))) (.tn chQ (.tn chQ (.tn chQ (lfN chQ) (lfN chQ) .te .te) (.tn chQ (lfN chQ) (lfN chQ) .te .te) (.tn chQ (lfN chQ) .te .te .te) (.tn chQ (lfN chQ) .te .te .te)) (.tn chQ (.tn chQ (lfN chQ) (lfN chQ) .te .te) (.tn chQ (lfN chQ) (.tn (.ref true (.arr 64 .sc) (.ar 64 .nilp (.tb .te .te .te (.tb (.tb .te (lfN (.ref true s4N (.cons (.bool true) (.cons (.ro true false .sc 0 137 (.pk .u8 137 5)) (.cons (iN 1) (.cons .nilp .nl)))))) .te .te) .te .te .te)))) .te .te .te .te) .te .te) (.tn chQ (lfN chQ) .te .te .te) (.tn chQ (lfN chQ) .te .te .te)) (.tn chQ (.tn chQ (lfN chQ) (lfN chQ) .te .te) (.tn chQ (lfN chQ) .te .te .te) (.tn chQ (lfN chQ) .te .te .te) (.tn chQ (lfN chQ) .te .te .te)) (.tn chQ (.tn chQ (lfN chQ) (lfN chQ) .te .te) (.tn chQ (lfN chQ) .te .te .te) (.tn chQ (lfN chQ) .te .te .te) (.tn chQ (lfN chQ) .te .te .te))) (.tn chQ (.tn chQ (.tn chQ (lfN chQ) (lfN chQ) .te .te) (.tn chQ (lfN chQ) (lfN chQ) .te .te) (.tn chQ (lfN chQ) .te .te .te) (.tn chQ (lfN chQ) .te .te .te)) (.tn chQ (.tn chQ (lfN chQ) (lfN chQ) .te .te) (.tn chQ (lfN chQ) .te .te .te) (.tn chQ (lfN chQ) .te .te .te) (.tn chQ (lfN chQ) .te .te .te)) (.tn chQ (.tn chQ (lfN chQ) (lfN chQ) .te .te) (.tn chQ (lfN chQ) .te .te .te) (.tn chQ (lfN chQ) .te .te .te) (.tn chQ (lfN chQ) .te .te .te)) (.tn chQ (.tn chQ (lfN chQ) (lfN chQ) .te .te) (.tn chQ (lfN chQ) .te .te .te) (.tn chQ (lfN chQ) .te .te .te) (.tn chQ (lfN chQ) .te .te .te))) (.tn chQ (.tn chQ (.tn chQ (lfN chQ) (lfN chQ) .te .te) (.tn chQ (lfN chQ) (lfN chQ) .te .te) (.tn chQ (lfN chQ) .te .te .te) (.tn chQ (lfN chQ) .te .te .te)) (.tn chQ (.tn chQ (lfN chQ) (lfN chQ) .te .te) (.tn chQ (lfN chQ) .te .te .te) (.tn chQ (lfN chQ) .te .te .te) (.tn chQ (lfN chQ) .te .te .te)) (.tn chQ (.tn chQ (lfN chQ) (lfN chQ) .te .te) (.tn chQ (lfN chQ) .te .te .te) (.tn chQ (lfN chQ) .te .te .te) (.tn chQ (lfN chQ) .te .te .te)) (.tn chQ (.tn chQ (lfN chQ) (lfN chQ) .te .te) (.tn chQ (lfN chQ) .te .te .te) (.tn chQ (lfN chQ) .te .te .te) (.tn chQ (lfN chQ) .te .te .te)))))) .nl))) (.cons (.cons (.pk .u8 32 22390878873875203406293031918557694199530038491721336108715618296122088841782) (.cons (wN 0) (.cons (wN 0) .nl))) (.cons (iN 0) .nl))))
def bigV5 : KV := (.tup (.cons (.cons (bN 5) (.cons (.int .u32 (.ofNat 0)) (.cons (.ar 4 (.cons (bN 0) (.cons (.cons (.int .u32 (.ofNat 0)) (.cons (wN 0) .nl)) (.cons (.pk .u8 32 0) .nl))) .te) (.cons (.ar 4 (.cons (bN 0) (.cons (.pk .u8 32 0) .nl)) (.tn (.cons (bN 0) (.cons (.pk .u8 32 0) .nl)) (lfN (.cons (bN 0) (.cons (.pk .u8 32 0) .nl))) (lfN (.cons (bN 0) (.cons (.pk .u8 32 0) .nl))) (lfN (.cons (bN 0) (.cons (.pk .u8 32 0) .nl))) .te)) .nl)))) (.cons (iN 0) .nl)))
def bigV6 : KV := (.tup (.cons (.cons (bN 1) (.cons (.int .u32 (.ofNat 0)) (.cons (.ar 4 (.cons (bN 0) (.cons (.cons (.int .u32 (.ofNat 0)) (.cons (wN 0) .nl)) (.cons (.pk .u8 32 0) .nl))) .te) (.cons (.ar 4 (.cons (bN 0) (.cons (.pk .u8 32 0) .nl)) (.tn (.cons (bN 1) (.cons (.pk .u8 32 71017738448712410051819844076799111165397884009610088724081589448358301996955) .nl)) (lfN (.cons (bN 0) (.cons (.pk .u8 32 0) .nl))) (lfN (.cons (bN 1) (.cons (.pk .u8 32 64637550186180419616342611539218859510629830792411544588428798965471180257593) .nl))) (lfN (.cons (bN 0) (.cons (.pk .u8 32 0) .nl))) .te)) .nl)))) (.cons (iN 0) .nl)))
def bigV7 : KV := (.tup (.cons (.cons (bN 0) (.cons (.int .u32 (.ofNat 0)) (.cons (.ar 4 (.cons (bN 0) (.cons (.cons (.int .u32 (.ofNat 0)) (.cons (wN 0) .nl)) (.cons (.pk .u8 32 0) .nl))) (.tn (.cons (bN 1) (.cons (.cons (.int .u32 (.ofNat 0)) (.cons (wN 0) .nl)) (.cons (.pk .u8 32 100650798749002691258200660989508745656955523408035475584006859743353366237241) .nl))) (lfN (.cons (bN 1) (.cons (.cons (.int .u32 (.ofNat 1)) (.cons (wN 1) .nl)) (.cons (.pk .u8 32 47067535210800624230086642220607872293566820332338140672623539479912253342839) .nl)))) (lfN (.cons (bN 0) (.cons (.cons (.int .u32 (.ofNat 0)) (.cons (wN 0) .nl)) (.cons (.pk .u8 32 0) .nl)))) (lfN (.cons (bN 0) (.cons (.cons (.int .u32 (.ofNat 0)) (.cons (wN 0) .nl)) (.cons (.pk .u8 32 0) .nl)))) .te)) (.cons (.ar 4 (.cons (bN 0) (.cons (.pk .u8 32 0) .nl)) .te) .nl)))) (.cons (iN 0) .nl)))
def bigV8 : KV := (.tup (.cons (.cons (bN 0) (.cons (.int .u32 (.ofNat 2)) (.cons (.ar 4 (.cons (bN 0) (.cons (.cons (.int .u32 (.ofNat 0)) (.cons (wN 0) .nl)) (.cons (.pk .u8 32 0) .nl))) (.tn (.cons (bN 2) (.cons (.cons (.int .u32 (.ofNat 2)) (.cons (wN 8) .nl)) (.cons (.pk .u8 32 114456763330606042026371034945826131321139857887488382555919720545868797518347) .nl))) (lfN (.cons (bN 0) (.cons (.cons (.int .u32 (.ofNat 0)) (.cons (wN 0) .nl)) (.cons (.pk .u8 32 0) .nl)))) (lfN (.cons (bN 0) (.cons (.cons (.int .u32 (.ofNat 0)) (.cons (wN 0) .nl)) (.cons (.pk .u8 32 0) .nl)))) (lfN (.cons (bN 0) (.cons (.cons (.int .u32 (.ofNat 0)) (.cons (wN 0) .nl)) (.cons (.pk .u8 32 0) .nl)))) .te)) (.cons (.ar 4 (.cons (bN 0) (.cons (.pk .u8 32 0) .nl)) .te) .nl)))) (.cons (iN 0) .nl)))
def bigV9 : KV := (.cons (iN 10922) (.cons (iN 1) (.cons (.ro true true .sc 0 171 (.ar 171 .nilp (.tn chQ (.tn chQ (.tn chQ (.tn chQ (lfN chQ) (lfN chQ) .te .te) (.tn chQ (lfN chQ) (lfN chQ) .te .te) (.tn chQ (lfN chQ) .te .te .te) (.tn chQ (lfN chQ) .te .te .te)) (.tn chQ (.tn chQ (lfN chQ) (lfN chQ) .te .te) (.tn chQ (lfN chQ) (lfN chQ) .te .te) (.tn chQ (lfN chQ) .te .te .te) (.tn chQ (lfN chQ) .te .te .te)) (.tn chQ (.tn chQ (lfN chQ) (lfN chQ) .te .te) (.tn chQ (lfN chQ) .te .te .te) (.tn chQ (lfN chQ) .te .te .te) (.tn chQ (lfN chQ) .te .te .te)) (.tn chQ (.tn chQ (lfN chQ) (lfN chQ) .te .te) (.tn chQ (lfN chQ) .te .te .te) (.tn chQ (lfN chQ) .te .te .te) (.tn chQ (lfN chQ) .te .te .te))) (.tn chQ (.tn chQ (.tn chQ (lfN chQ) (lfN chQ) .te .te) (.tn chQ (lfN chQ) (lfN chQ) .te .te) (.tn chQ (lfN chQ) .te .te .te) (.tn chQ (lfN chQ) .te .te .te)) (.tn chQ (.tn chQ (lfN chQ) (lfN chQ) .te .te) (.tn chQ (lfN chQ) (.tn (.ref true (.arr 64 .sc) (.ar 64 .nilp (.tb .te .te .te (.tb (.tb .te (lfN (.ref true s4N (.cons (.bool true) (.cons (.ro true false .sc 0 137 (.pk .u8 137 5)) (.cons (iN 1) (.cons .nilp .nl)))))) .te .te) .te .te .te)))) .te .te .te .te) .te .te) (.tn chQ (lfN chQ) .te .te .te) (.tn chQ (lfN chQ) .te .te .te)) (.tn chQ (.tn chQ (lfN chQ) (lfN chQ) .te .te) (.tn chQ (lfN chQ) .te .te .te) (.tn chQ (lfN chQ) .te .te .te) (.tn chQ (lfN chQ) .te .te .te)) (.tn chQ (.tn chQ (lfN chQ) (lfN chQ) .te .te) (.tn chQ (lfN chQ) .te .te .te) (.tn chQ (lfN chQ) .te .te .te) (.tn chQ (lfN chQ) .te .te .te))) (.tn chQ (.tn chQ (.tn chQ (lfN chQ) (lfN chQ) .te .te) (.tn chQ (lfN chQ) (lfN chQ) .te .te) (.tn chQ (lfN chQ) .te .te .te) (.tn chQ (lfN chQ) .te .te .te)) (.tn chQ (.tn chQ (lfN chQ) (lfN chQ) .te .te) (.tn chQ (lfN chQ) .te .te .te) (.tn chQ (lfN chQ) .te .te .te) (.tn chQ (lfN chQ) .te .te .te)) (.tn chQ (.tn chQ (lfN chQ) (lfN chQ) .te .te) (.tn chQ (lfN chQ) .te .te .te) (.tn chQ (lfN chQ) .te .te .te) (.tn chQ (lfN chQ) .te .te .te)) (.tn chQ (.tn chQ (lfN chQ) (lfN chQ) .te .te) (.tn chQ (lfN chQ) .te .te .te) (.tn chQ (lfN chQ) .te .te .te) (.tn chQ (lfN chQ) .te .te .te))) (.tn chQ (.tn chQ (.tn chQ (lfN chQ) (lfN chQ) .te .te) (.tn chQ (lfN chQ) (lfN chQ) .te .te) (.tn chQ (lfN chQ) .te .te .te) (.tn chQ (lfN chQ) .te .te .te)) (.tn chQ (.tn chQ (lfN chQ) (lfN chQ) .te .te) (.tn chQ (lfN chQ) .te .te .te) (.tn chQ (lfN chQ) .te .te .te) (.tn chQ (lfN chQ) .te .te .te)) (.tn chQ (.tn chQ (lfN chQ) (lfN chQ) .te .te) (.tn chQ (lfN chQ) .te .te .te) (.tn chQ (lfN chQ) .te .te .te) (.tn chQ (lfN chQ) .te .te .te)) (.tn chQ (.tn chQ (lfN chQ) (lfN chQ) .te .te) (.tn chQ (lfN chQ) .te .te .te) (.tn chQ (lfN chQ) .te .te .te) (.tn chQ (lfN chQ) .te .te .te)))))) .nl)))
def bigV10 : KV := (.cons (iN 26) (.cons (iN 7) (.cons (.ro true true .sc 0 1 (.ar 1 .nilp (.tn (.ref true (.arr 64 .sc) (.ar 64 .nilp (.tn (.ref true s4N (.cons (.bool true) (.cons (.ro true false .sc 0 32 (.pk .u8 32 18536379357050479536178529230962239721255819590925034493199826405830626757024)) (.cons (iN 1) (.cons .nilp .nl))))) (.tb .te .te .te (lfN (.ref true s4N (.cons (.bool true) (.cons (.ro true false .sc 0 32 (.pk .u8 32 59417985335053681666467945970849407310764521507188025214919095951714432768427)) (.cons (iN 1) (.cons .nilp .nl))))))) (.tn (.ref true s4N (.cons (.bool false) (.cons .nils (.cons (iN 2) (.cons (.ref true s4N (.cons (.bool true) (.cons (.ro true false .sc 0 32 (.pk .u8 32 110489407862259829357947970960983717272441040035878920116121786122993471097146)) (.cons (iN 1) (.cons .nilp .nl))))) .nl))))) (.tb (lfN (.ref true s4N (.cons (.bool true) (.cons (.ro true false .sc 0 185 (.pk .u8 185 2552471115284368585477876425932427884587004765632190898546282514896577050918900009315219140039390429402547217228183371776)) (.cons (iN 1) (.cons .nilp .nl)))))) .te .te .te) .te .te (lfN (.ref true s4N (.cons (.bool true) (.cons (.ro true false .sc 0 185 (.pk .u8 185 2465126843133691477203531896890838291283268628245171682462099168036750892515663357821014555148764353052299399883419268833223681884179368213942522915486173590783940201116482919145135814691100243926180480069775893666927451217854464)) (.cons (iN 1) (.cons .nilp .nl))))))) .te (.tb (.tb (lfN (.ref true s4N (.cons (.bool true) (.cons (.ro true false .sc 0 137 (.pk .u8 137 15986831237785945905703519666694338745671708282203535669162433498195705796796591197095969961542270808368930519616416709838931677870801128613806018146494012902091006288760073470335227384660407853644821983142588960371397055842830364751899910507079925761)) (.cons (iN 1) (.cons .nilp .nl)))))) .te .te .te) .te .te .te)))) .te .te .te .te))) .nl)))
def bigV11 : KV := (.cons (iN 26) (.cons (iN 7) (.cons (.ro true true .sc 0 1 (.ar 1 .nilp (.tn (.ref true (.arr 64 .sc) (.ar 64 .nilp (.tn (.ref true s4N (.cons (.bool true) (.cons (.ro true false .sc 0 32 (.pk .u8 32 18536379357050479536178529230962239721255819590925034493199826405830626757024)) (.cons (iN 1) (.cons .nilp .nl))))) (.tb .te .te .te (lfN (.ref true s4N (.cons (.bool true) (.cons (.ro true false .sc 0 32 (.pk .u8 32 59417985335053681666467945970849407310764521507188025214919095951714432768427)) (.cons (iN 1) (.cons .nilp .nl))))))) (.tn (.ref true s4N (.cons (.bool true) (.cons (.ro true false .sc 0 32 (.pk .u8 32 110489407862259829357947970960983717272441040035878920116121786122993471097146)) (.cons (iN 1) (.cons .nilp .nl))))) (.tb (.tn (.ref true s4N (.cons (.bool false) (.cons .nils (.cons (iN 2) (.cons (.ref true s4N (.cons (.bool true) (.cons (.ro true false .sc 0 185 (.pk .u8 185 2552471115284368585477876425932427884587004765632190898546282514896577050918900009315219140039390429402547217228183371776)) (.cons (iN 1) (.cons .nilp .nl))))) .nl))))) .te .te .te .te) .te .te .te) .te .te (lfN (.ref true s4N (.cons (.bool true) (.cons (.ro true false .sc 0 185 (.pk .u8 185 2465126843133691477203531896890838291283268628245171682462099168036750892515663357821014555148764353052299399883419268833223681884179368213942522915486173590783940201116482919145135814691100243926180480069775893666927451217854464)) (.cons (iN 1) (.cons .nilp .nl))))))) .te (.tb (.tb (lfN (.ref true s4N (.cons (.bool true) (.cons (.ro true false .sc 0 137 (.pk .u8 137 15986831237785945905703519666694338745671708282203535669162433498195705796796591197095969961542270808368930519616416709838931677870801128613806018146494012902091006288760073470335227384660407853644821983142588960371397055842830364751899910507079925761)) (.cons (iN 1) (.cons .nilp .nl)))))) .te .te .te) .te .te .te)))) .te .te .te .te))) .nl)))
def bigV12 : KV := (.ar 44 (.pk .u8 4 0) (.tn (.pk .u8 4 3188801785) (.tn (.pk .u8 4 3533004618) (.tn (.pk .u8 4 2380052060) (lfN (.pk .u8 4 593311095)) (lfN (.pk .u8 4 3056856700)) .te .te) (.tn (.pk .u8 4 1172043423) (lfN (.pk .u8 4 2947613763)) (lfN (.pk .u8 4 3549985389)) .te .te) (.tn (.pk .u8 4 1601431280) (lfN (.pk .u8 4 252549179)) .te .te .te) (.tn (.pk .u8 4 3636849278) (lfN (.pk .u8 4 3172411033)) .te .te .te)) (.tn (.pk .u8 4 1708925497) (.tn (.pk .u8 4 3892352101) (lfN (.pk .u8 4 154163971)) (lfN (.pk .u8 4 2728923038)) .te .te) (.tn (.pk .u8 4 2916836090) (lfN (.pk .u8 4 2793496384)) (lfN (.pk .u8 4 1899001331)) .te .te) (.tn (.pk .u8 4 4071130122) (lfN (.pk .u8 4 2844575611)) .te .te .te) (.tn (.pk .u8 4 711814772) (lfN (.pk .u8 4 345760226)) .te .te .te)) (.tn (.pk .u8 4 1589090784) (.tn (.pk .u8 4 3065449861) (lfN (.pk .u8 4 3399081474)) (lfN (.pk .u8 4 1940367429)) .te .te) (.tn (.pk .u8 4 460091263) (lfN (.pk .u8 4 1813545282)) (lfN (.pk .u8 4 43507126)) .te .te) (.tn (.pk .u8 4 3921996661) (lfN (.pk .u8 4 3314828857)) .te .te .te) (.tn (.pk .u8 4 3282666753) (lfN (.pk .u8 4 3507464155)) .te .te .te)) (.tn (.pk .u8 4 1598679318) (.tn (.pk .u8 4 3355918531) (lfN (.pk .u8 4 2364289332)) (lfN (.pk .u8 4 1705743377)) .te .te) (.tn (.pk .u8 4 447221871) (lfN (.pk .u8 4 2696715384)) .te .te .te) (.tn (.pk .u8 4 2276854926) (lfN (.pk .u8 4 2988097186)) .te .te .te) (.tn (.pk .u8 4 4221099785) (lfN (.pk .u8 4 186960101)) .te .te .te))))
def bigV13 : KV := (.cons (bN 8) (.cons (.ro false false (.arr 2 .sc) 0 9 (.ar 9 (.pk .u8 2 0) (.tn (.pk .u8 2 257) (.tn (.pk .u8 2 513) (lfN (.pk .u8 2 0)) .te .te .te) (.tn (.pk .u8 2 0) (lfN (.pk .u8 2 0)) .te .te .te) (.tn (.pk .u8 2 0) (lfN (.pk .u8 2 0)) .te .te .te) (.tn (.pk .u8 2 0) (lfN (.pk .u8 2 770)) .te .te .te)))) (.cons .nils (.cons (bN 0) (.cons (bN 0) .nl)))))
def bigV14 : KV := (.cons (iN 9) (.cons (.pk .u8 16 125900742916195838709135468801027031289) (.cons (.pk .u8 32 32964475149327106443761119737132610979723272928706672007876046231495031425136) (.cons (.cons (.ro true false .sc 0 26 (.ar 26 .nils (.tn (.ro true false (.cons .sc (.cons .sc .nl)) 0 2 (.ar 2 (.cons (.bool false) (.cons (.str 0 0) .nl)) (.tn (.cons (.bool false) (.cons (.str 0 0) .nl)) (lfN (.cons (.bool true) (.cons (.str 32 18536379357050479536178529230962239721255819590925034493199826405830626757024) .nl))) .te .te .te))) (.tn (.ro true false (.cons .sc (.cons .sc .nl)) 0 1 (.ar 1 (.cons (.bool false) (.cons (.str 0 0) .nl)) (lfN (.cons (.bool false) (.cons (.str 0 0) .nl))))) (.tn (.ro true false (.cons .sc (.cons .sc .nl)) 0 1 (.ar 1 (.cons (.bool false) (.cons (.str 0 0) .nl)) (lfN (.cons (.bool false) (.cons (.str 0 0) .nl))))) (lfN (.ro true false (.cons .sc (.cons .sc .nl)) 0 1 (.ar 1 (.cons (.bool false) (.cons (.str 0 0) .nl)) (lfN (.cons (.bool false) (.cons (.str 0 0) .nl)))))) .te .te .te) (.tn (.ro true false (.cons .sc (.cons .sc .nl)) 0 1 (.ar 1 (.cons (.bool false) (.cons (.str 0 0) .nl)) (lfN (.cons (.bool false) (.cons (.str 0 0) .nl))))) (lfN (.ro true false (.cons .sc (.cons .sc .nl)) 0 1 (.ar 1 (.cons (.bool false) (.cons (.str 0 0) .nl)) (lfN (.cons (.bool false) (.cons (.str 0 0) .nl)))))) .te .te .te) (lfN (.ro true false (.cons .sc (.cons .sc .nl)) 0 1 (.ar 1 (.cons (.bool false) (.cons (.str 0 0) .nl)) (lfN (.cons (.bool false) (.cons (.str 0 0) .nl)))))) (.tn (.ro true false (.cons .sc (.cons .sc .nl)) 0 2 (.ar 2 (.cons (.bool false) (.cons (.str 0 0) .nl)) (.tn (.cons (.bool false) (.cons (.str 0 0) .nl)) (lfN (.cons (.bool true) (.cons (.str 32 59417985335053681666467945970849407310764521507188025214919095951714432768427) .nl))) .te .te .te))) .te .te .te .te)) (.tn (.ro true false (.cons .sc (.cons .sc .nl)) 0 2 (.ar 2 (.cons (.bool false) (.cons (.str 0 0) .nl)) (.tn (.cons (.bool false) (.cons (.str 0 0) .nl)) (lfN (.cons (.bool true) (.cons (.str 32 110489407862259829357947970960983717272441040035878920116121786122993471097146) .nl))) .te .te .te))) (.tn (.ro true false (.cons .sc (.cons .sc .nl)) 0 1 (.ar 1 (.cons (.bool false) (.cons (.str 0 0) .nl)) (lfN (.cons (.bool false) (.cons (.str 0 0) .nl))))) (.tn (.ro true false (.cons .sc (.cons .sc .nl)) 0 2 (.ar 2 (.cons (.bool false) (.cons (.str 0 0) .nl)) (.tn (.cons (.bool false) (.cons (.str 0 0) .nl)) (lfN (.cons (.bool true) (.cons (.str 185 2552471115284368585477876425932427884587004765632190898546282514896577050918900009315219140039390429402547217228183371776) .nl))) .te .te .te))) .te .te .te .te) .te .te .te) (lfN (.ro true false (.cons .sc (.cons .sc .nl)) 0 1 (.ar 1 (.cons (.bool false) (.cons (.str 0 0) .nl)) (lfN (.cons (.bool false) (.cons (.str 0 0) .nl)))))) (lfN (.ro true false (.cons .sc (.cons .sc .nl)) 0 1 (.ar 1 (.cons (.bool false) (.cons (.str 0 0) .nl)) (lfN (.cons (.bool false) (.cons (.str 0 0) .nl)))))) (.tn (.ro true false (.cons .sc (.cons .sc .nl)) 0 2 (.ar 2 (.cons (.bool false) (.cons (.str 0 0) .nl)) (.tn (.cons (.bool false) (.cons (.str 0 0) .nl)) (lfN (.cons (.bool true) (.cons (.str 185 2465126843133691477203531896890838291283268628245171682462099168036750892515663357821014555148764353052299399883419268833223681884179368213942522915486173590783940201116482919145135814691100243926180480069775893666927451217854464) .nl))) .te .te .te))) .te .te .te .te)) (.tn (.ro true false (.cons .sc (.cons .sc .nl)) 0 1 (.ar 1 (.cons (.bool false) (.cons (.str 0 0) .nl)) (lfN (.cons (.bool false) (.cons (.str 0 0) .nl))))) (.tn (.ro true false (.cons .sc (.cons .sc .nl)) 0 1 (.ar 1 (.cons (.bool false) (.cons (.str 0 0) .nl)) (lfN (.cons (.bool false) (.cons (.str 0 0) .nl))))) (lfN (.ro true false (.cons .sc (.cons .sc .nl)) 0 1 (.ar 1 (.cons (.bool false) (.cons (.str 0 0) .nl)) (lfN (.cons (.bool false) (.cons (.str 0 0) .nl)))))) .te .te .te) (lfN (.ro true false (.cons .sc (.cons .sc .nl)) 0 1 (.ar 1 (.cons (.bool false) (.cons (.str 0 0) .nl)) (lfN (.cons (.bool false) (.cons (.str 0 0) .nl)))))) (lfN (.ro true false (.cons .sc (.cons .sc .nl)) 0 1 (.ar 1 (.cons (.bool false) (.cons (.str 0 0) .nl)) (lfN (.cons (.bool false) (.cons (.str 0 0) .nl)))))) (lfN (.ro true false (.cons .sc (.cons .sc .nl)) 0 1 (.ar 1 (.cons (.bool false) (.cons (.str 0 0) .nl)) (lfN (.cons (.bool false) (.cons (.str 0 0) .nl))))))) (.tn (.ro true false (.cons .sc (.cons .sc .nl)) 0 1 (.ar 1 (.cons (.bool false) (.cons (.str 0 0) .nl)) (lfN (.cons (.bool false) (.cons (.str 0 0) .nl))))) (.tn (.ro true false (.cons .sc (.cons .sc .nl)) 0 1 (.ar 1 (.cons (.bool false) (.cons (.str 0 0) .nl)) (lfN (.cons (.bool false) (.cons (.str 0 0) .nl))))) (.tn (.ro true false (.cons .sc (.cons .sc .nl)) 0 2 (.ar 2 (.cons (.bool false) (.cons (.str 0 0) .nl)) (.tn (.cons (.bool false) (.cons (.str 0 0) .nl)) (lfN (.cons (.bool true) (.cons (.str 137 15986831237785945905703519666694338745671708282203535669162433498195705796796591197095969961542270808368930519616416709838931677870801128613806018146494012902091006288760073470335227384660407853644821983142588960371397055842830364751899910507079925761) .nl))) .te .te .te))) .te .te .te .te) .te .te .te) (lfN (.ro true false (.cons .sc (.cons .sc .nl)) 0 1 (.ar 1 (.cons (.bool false) (.cons (.str 0 0) .nl)) (lfN (.cons (.bool false) (.cons (.str 0 0) .nl)))))) (lfN (.ro true false (.cons .sc (.cons .sc .nl)) 0 1 (.ar 1 (.cons (.bool false) (.cons (.str 0 0) .nl)) (lfN (.cons (.bool false) (.cons (.str 0 0) .nl)))))) (lfN (.ro true false (.cons .sc (.cons .sc .nl)) 0 1 (.ar 1 (.cons (.bool false) (.cons (.str 0 0) .nl)) (lfN (.cons (.bool false) (.cons (.str 0 0) .nl)))))))))) .nl) (.cons (.cons (.pk .u8 32 78083477428683488413805964502381641923023826937822751514877386660815472891500) (.cons (wN 0) (.cons (wN 1000) .nl))) (.cons (.ro true false (.arr 32 .sc) 0 9 (.ar 9 (.pk .u8 32 0) (.tn (.pk .u8 32 14528991250861404666834535435384615765856667510756806797353855100662256435713) (.tn (.pk .u8 32 29057982501722809333669070870769231531713335021513613594707710201324512871426) (lfN (.pk .u8 32 0)) .te .te .te) (.tn (.pk .u8 32 0) (lfN (.pk .u8 32 0)) .te .te .te) (.tn (.pk .u8 32 0) (lfN (.pk .u8 32 0)) .te .te .te) (.tn (.pk .u8 32 0) (lfN (.pk .u8 32 43586973752584214000503606306153847297570002532270420392061565301986769307139)) .te .te .te)))) (.cons (.ro true false (.cons .sc (.cons (.cons .sc (.cons .sc .nl)) (.cons (.arr 32 .sc) .nl))) 0 9 (.ar 9 (.cons (bN 0) (.cons (.cons (.int .u32 (.ofNat 0)) (.cons (wN 0) .nl)) (.cons (.pk .u8 32 0) .nl))) (.tn (.cons (bN 1) (.cons (.cons (.int .u32 (.ofNat 0)) (.cons (wN 0) .nl)) (.cons (.pk .u8 32 100650798749002691258200660989508745656955523408035475584006859743353366237241) .nl))) (.tn (.cons (bN 1) (.cons (.cons (.int .u32 (.ofNat 1)) (.cons (wN 1) .nl)) (.cons (.pk .u8 32 47067535210800624230086642220607872293566820332338140672623539479912253342839) .nl))) (lfN (.cons (bN 0) (.cons (.cons (.int .u32 (.ofNat 0)) (.cons (wN 0) .nl)) (.cons (.pk .u8 32 0) .nl)))) .te .te .te) (.tn (.cons (bN 0) (.cons (.cons (.int .u32 (.ofNat 0)) (.cons (wN 0) .nl)) (.cons (.pk .u8 32 0) .nl))) (lfN (.cons (bN 0) (.cons (.cons (.int .u32 (.ofNat 0)) (.cons (wN 0) .nl)) (.cons (.pk .u8 32 0) .nl)))) .te .te .te) (.tn (.cons (bN 0) (.cons (.cons (.int .u32 (.ofNat 0)) (.cons (wN 0) .nl)) (.cons (.pk .u8 32 0) .nl))) (lfN (.cons (bN 0) (.cons (.cons (.int .u32 (.ofNat 0)) (.cons (wN 0) .nl)) (.cons (.pk .u8 32 0) .nl)))) .te .te .te) (.tn (.cons (bN 0) (.cons (.cons (.int .u32 (.ofNat 0)) (.cons (wN 0) .nl)) (.cons (.pk .u8 32 0) .nl))) (lfN (.cons (bN 2) (.cons (.cons (.int .u32 (.ofNat 2)) (.cons (wN 8) .nl)) (.cons (.pk .u8 32 114456763330606042026371034945826131321139857887488382555919720545868797518347) .nl)))) .te .te .te)))) (.cons (.ro true false .sc 0 4 (.pk .i64 4 0)) .nl))))))))
def bigV15 : KV := (.cons (iN 26) (.cons (iN 6) (.cons (.ro true true .sc 0 1 (.ar 1 .nilp (.tn (.ref true (.arr 64 .sc) (.ar 64 .nilp (.tn (.ref true s4N (.cons (.bool true) (.cons (.ro true false .sc 0 32 (.pk .u8 32 18536379357050479536178529230962239721255819590925034493199826405830626757024)) (.cons (iN 1) (.cons .nilp .nl))))) (.tb .te .te .te (lfN (.ref true s4N (.cons (.bool true) (.cons (.ro true false .sc 0 32 (.pk .u8 32 59417985335053681666467945970849407310764521507188025214919095951714432768427)) (.cons (iN 1) (.cons .nilp .nl))))))) (.tn (.ref true s4N (.cons (.bool true) (.cons (.ro true false .sc 0 32 (.pk .u8 32 110489407862259829357947970960983717272441040035878920116121786122993471097146)) (.cons (iN 1) (.cons .nilp .nl))))) (.tb (lfN (.ref true s4N (.cons (.bool true) (.cons (.ro true false .sc 0 185 (.pk .u8 185 2552471115284368585477876425932427884587004765632190898546282514896577050918900009315219140039390429402547217228183371776)) (.cons (iN 1) (.cons .nilp .nl)))))) .te .te .te) .te .te (lfN (.ref true s4N (.cons (.bool true) (.cons (.ro true false .sc 0 185 (.pk .u8 185 2465126843133691477203531896890838291283268628245171682462099168036750892515663357821014555148764353052299399883419268833223681884179368213942522915486173590783940201116482919145135814691100243926180480069775893666927451217854464)) (.cons (iN 1) (.cons .nilp .nl))))))) .te (.tb (.tb (lfN (.ref true s4N (.cons (.bool true) (.cons (.ro true false .sc 0 137 (.pk .u8 137 15986831237785945905703519666694338745671708282203535669162433498195705796796591197095969961542270808368930519616416709838931677870801128613806018146494012902091006288760073470335227384660407853644821983142588960371397055842830364751899910507079925761)) (.cons (iN 1) (.cons .nilp .nl)))))) .te .te .te) .te .te .te)))) .te .te .te .te))) .nl)))
def bigV16 : KV := (.tup (.cons (.cons (iN 26) (.cons (iN 7) (.cons (.ro true true .sc 0 1 (.ar 1 .nilp (.tn (.ref true (.arr 64 .sc) (.ar 64 .nilp (.tn (.ref true s4N (.cons (.bool true) (.cons (.ro true false .sc 0 32 (.pk .u8 32 18536379357050479536178529230962239721255819590925034493199826405830626757024)) (.cons (iN 1) (.cons .nilp .nl))))) (.tb .te .te .te (lfN (.ref true s4N (.cons (.bool true) (.cons (.ro true false .sc 0 32 (.pk .u8 32 59417985335053681666467945970849407310764521507188025214919095951714432768427)) (.cons (iN 1) (.cons .nilp .nl))))))) (.tn (.ref true s4N (.cons (.bool false) (.cons .nils (.cons (iN 2) (.cons (.ref true s4N (.cons (.bool true) (.cons (.ro true false .sc 0 32 (.pk .u8 32 110489407862259829357947970960983717272441040035878920116121786122993471097146)) (.cons (iN 1) (.cons .nilp .nl))))) .nl))))) (.tb (lfN (.ref true s4N (.cons (.bool true) (.cons (.ro true false .sc 0 185 (.pk .u8 185 2552471115284368585477876425932427884587004765632190898546282514896577050918900009315219140039390429402547217228183371776)) (.cons (iN 1) (.cons .nilp .nl)))))) .te .te .te) .te .te (lfN (.ref true s4N (.cons (.bool true) (.cons (.ro true false .sc 0 185 (.pk .u8 185 2465126843133691477203531896890838291283268628245171682462099168036750892515663357821014555148764353052299399883419268833223681884179368213942522915486173590783940201116482919145135814691100243926180480069775893666927451217854464)) (.cons (iN 1) (.cons .nilp .nl))))))) .te (.tb (.tb (lfN (.ref true s4N (.cons (.bool true) (.cons (.ro true false .sc 0 137 (.pk .u8 137 15986831237785945905703519666694338745671708282203535669162433498195705796796591197095969961542270808368930519616416709838931677870801128613806018146494012902091006288760073470335227384660407853644821983142588960371397055842830364751899910507079925761)) (.cons (iN 1) (.cons .nilp .nl)))))) .te .te .te) .te .te .te)))) .te .te .te .te))) .nl))) (.cons (iN 0) .nl)))
def bigV17 : KV := (.tup (.cons (.cons (iN 26) (.cons (iN 7) (.cons (.ro true true .sc 0 1 (.ar 1 .nilp (.tn (.ref true (.arr 64 .sc) (.ar 64 .nilp (.tn (.ref true s4N (.cons (.bool true) (.cons (.ro true false .sc 0 32 (.pk .u8 32 18536379357050479536178529230962239721255819590925034493199826405830626757024)) (.cons (iN 1) (.cons .nilp .nl))))) (.tb .te .te .te (lfN (.ref true s4N (.cons (.bool true) (.cons (.ro true false .sc 0 32 (.pk .u8 32 59417985335053681666467945970849407310764521507188025214919095951714432768427)) (.cons (iN 1) (.cons .nilp .nl))))))) (.tn (.ref true s4N (.cons (.bool true) (.cons (.ro true false .sc 0 32 (.pk .u8 32 110489407862259829357947970960983717272441040035878920116121786122993471097146)) (.cons (iN 1) (.cons .nilp .nl))))) (.tb (.tn (.ref true s4N (.cons (.bool false) (.cons .nils (.cons (iN 2) (.cons (.ref true s4N (.cons (.bool true) (.cons (.ro true false .sc 0 185 (.pk .u8 185 2552471115284368585477876425932427884587004765632190898546282514896577050918900009315219140039390429402547217228183371776)) (.cons (iN 1) (.cons .nilp .nl))))) .nl))))) .te .te .te .te) .te .te .te) .te .te (lfN (.ref true s4N (.cons (.bool true) (.cons (.ro true false .sc 0 185 (.pk .u8 185 2465126843133691477203531896890838291283268628245171682462099168036750892515663357821014555148764353052299399883419268833223681884179368213942522915486173590783940201116482919145135814691100243926180480069775893666927451217854464)) (.cons (iN 1) (.cons .nilp .nl))))))) .te (.tb (.tb (lfN (.ref true s4N (.cons (.bool true) (.cons (.ro true false .sc 0 137 (.pk .u8 137 15986831237785945905703519666694338745671708282203535669162433498195705796796591197095969961542270808368930519616416709838931677870801128613806018146494012902091006288760073470335227384660407853644821983142588960371397055842830364751899910507079925761)) (.cons (iN 1) (.cons .nilp .nl)))))) .te .te .te) .te .te .te)))) .te .te .te .te))) .nl))) (.cons (iN 0) .nl)))
def bigV18 : KV := (.ar 11 (.pk .u8 16 0) (.tn (.pk .u8 16 125900742916195838709135468801027031289) (.tn (.pk .u8 16 242869959838438247255521294913263757590) (lfN (.pk .u8 16 269302979424140993974069016523225751305)) (lfN (.pk .u8 16 153731746052537013454737986992765978853)) .te .te) (.tn (.pk .u8 16 36452185410163263461495545261998948547) (lfN (.pk .u8 16 143683860380804260022767831412741255476)) (lfN (.pk .u8 16 3446989684286966896826725208741876753)) .te .te) (.tn (.pk .u8 16 310732588913209192371438187212391845999) (lfN (.pk .u8 16 262627799441842258676587090763300248696)) .te .te .te) (.tn (.pk .u8 16 260079654999987094214484817601803717774) (lfN (.pk .u8 16 277889940091674990717689742084919705250)) .te .te .te)))
end
end Go.K
set_option maxRecDepth 10000
namespace Go.K
open Go.Ab Go.RowKit Go.Y Go.Proofs
noncomputable section
def ERK0a : KEnv := E0.tab [(273, sCompS), (261, sCompR), (314, sTab1 sbN), (324, kcon [] (.pk .u8 256 sbN)), (302, sEnc), (312, sEncR), (28, kcon [] (.bool true)), (29, kcon [dkF] r29)]
theorem okERK0a : KOk ERK0a := ok0.tab ⟨kcs273, kcs261, kcsSub, kcsTab, kcsEnc.cls, kcsEncR.cls, rlives_s, kcs29, trivial⟩
def ERK0 : KEnv := ERK0a.olo (fun f => false)
theorem okERK0 : KOk ERK0 := okERK0a.olo _
end
end Go.K
set_option maxRecDepth 10000
namespace Go.K
open Go.Ab Go.RowKit Go.Y Go.Proofs
noncomputable section
attribute [local irreducible] krun callR
def a313_0 : List KV := [(.pk .u8 16 125900742916195838709135468801027031289)]
def r313_0 : KV := bigV12
theorem m313_0 : Rn ERK0 313 a313_0 r313_0 := of_eq_true (by kernel_rfl)
theorem c313_0 : KCS Tryz.prog 313 (kcon a313_0 r313_0) := kconR okERK0 m313_0
def a301_0 : List KV := [(.pk .u8 16 125900742916195838709135468801027031289)]
def r301_0 : KV := bigV18
theorem m301_0 : Rn ERK0 301 a301_0 r301_0 := of_eq_true (by kernel_rfl)
theorem c301_0 : KCS Tryz.prog 301 (kcon a301_0 r301_0) := kconR okERK0 m301_0
def a213_0 : List KV := [(.ro false false .sc 0 96 (.pk .u8 96 566140853589148946870474457984203930645925124765414994899334131882717726875810282989457506122591293999806059006249493316186701702744726243540111755036458229892576425066561221106338302745878930532932689132329488446838558131425859413))]
def r213_0 : KV := (.pk .u8 32 51314546588194500245496713354475835515053996139652615115337665443308122487181)
theorem m213_0 : Rn ERK0 213 a213_0 r213_0 := of_eq_true (by kernel_rfl)
theorem c213_0 : KCS Tryz.prog 213 (kcon a213_0 r213_0) := kconR okERK0 m213_0
def a213_1 : List KV := [(.ro false false .sc 0 96 (.pk .u8 96 688015584666603060965751595949963440405175841450582860755834911129447913877030568651307597196816925910052446164881308270410465852353004736958104646169201008524190362377247000914732383695186791069844364534703266017882044942477770047))]
def r213_1 : KV := (.pk .u8 32 27342162514947653583937906222160396351575366345600806056086070088289311440504)
theorem m213_1 : Rn ERK0 213 a213_1 r213_1 := of_eq_true (by kernel_rfl)
theorem c213_1 : KCS Tryz.prog 213 (kcon a213_1 r213_1) := kconR okERK0 m213_1
def a213_2 : List KV := [(.ro false false .sc 0 72 (.pk .u8 72 1405572124243336061622624760095183804805309463977374002555153978857162711183959504002246151411558205493006087567439383400803080786438210279884765064841486790619670261827662))]
def r213_2 : KV := (.pk .u8 32 50940835804170272399380056419503170475086328462446399257374090826364225489358)
theorem m213_2 : Rn ERK0 213 a213_2 r213_2 := of_eq_true (by kernel_rfl)
theorem c213_2 : KCS Tryz.prog 213 (kcon a213_2 r213_2) := kconR okERK0 m213_2
def a213_3 : List KV := [(.ro false false .sc 0 96 (.pk .u8 96 683004942253057953621385319192670512702545455895727067926180408021608221538843022958878836316253632595874312860062922794781857693136048816561284730578868300346414502099951402303505789371996187404170390043893294151916867475897508388))]
def r213_3 : KV := (.pk .u8 32 918395647173819365373735878896344643108083295023627920875243912625669619961)
theorem m213_3 : Rn ERK0 213 a213_3 r213_3 := of_eq_true (by kernel_rfl)
theorem c213_3 : KCS Tryz.prog 213 (kcon a213_3 r213_3) := kconR okERK0 m213_3
def a213_4 : List KV := [(.ro false false .sc 0 68 (.pk .u8 68 312270812653216106574411551506944053538697194602955954693919173508113134852519467594446421840967648827979808733620170268552590897790078653924877002294343776372814))]
def r213_4 : KV := (.pk .u8 32 3969945945791653932291547731018762908483065712675008024070712448958024695356)
theorem m213_4 : Rn ERK0 213 a213_4 r213_4 := of_eq_true (by kernel_rfl)
theorem c213_4 : KCS Tryz.prog 213 (kcon a213_4 r213_4) := kconR okERK0 m213_4
def a213_5 : List KV := [(.ro false false .sc 0 96 (.pk .u8 96 53228272733428801309371515277035644141752636185350295293054706299452662709095345271004281184081271719232965432843787059339989538127523648523803988466268794823497781096775605508315492702685521684968876191667691147443137551913116196))]
def r213_5 : KV := (.pk .u8 32 32964475149327106443761119737132610979723272928706672007876046231495031425136)
theorem m213_5 : Rn ERK0 213 a213_5 r213_5 := of_eq_true (by kernel_rfl)
theorem c213_5 : KCS Tryz.prog 213 (kcon a213_5 r213_5) := kconR okERK0 m213_5
def a213_6 : List KV := [(.ro false false .sc 0 112 (.pk .u8 112 84571130082260699762063965794910825068229847308067789875953610643525681128786196756807015700322063426417792927594166503511501306025433096467387342572503988858381227335525231164252266809747450558997270934854340855866477984689420391494473191672620771483544113902970125894))]
def r213_6 : KV := (.pk .u8 32 30126039903671006845333563358476171846501217767399227019468293379694956794603)
theorem m213_6 : Rn ERK0 213 a213_6 r213_6 := of_eq_true (by kernel_rfl)
theorem c213_6 : KCS Tryz.prog 213 (kcon a213_6 r213_6) := kconR okERK0 m213_6
def a213_7 : List KV := [(.ro false false .sc 0 96 (.pk .u8 96 403924156718207239623128257952075243297628043830135554517912140077357916145763926899600004066361096349589457680315119294850955145220955508801593480422798616282871095310409921537190086703037988549921273350493714599427065405535212588))]
def r213_7 : KV := (.pk .u8 32 100650798749002691258200660989508745656955523408035475584006859743353366237241)
theorem m213_7 : Rn ERK0 213 a213_7 r213_7 := of_eq_true (by kernel_rfl)
theorem c213_7 : KCS Tryz.prog 213 (kcon a213_7 r213_7) := kconR okERK0 m213_7
def a213_8 : List KV := [(.ro false false .sc 0 112 (.pk .u8 112 504101362247799368152583194037059399319148243692416366190434915521345073866181636120367286502164675329764855477317843197692829342981635932998130656047638865062017331481108098136161938100650175869092094815631786032941045340805952249675439960849892309046084945231993552454))]
def r213_8 : KV := (.pk .u8 32 103995639826034783142643009834131474993726737310466156771783347701771942353268)
theorem m213_8 : Rn ERK0 213 a213_8 r213_8 := of_eq_true (by kernel_rfl)
theorem c213_8 : KCS Tryz.prog 213 (kcon a213_8 r213_8) := kconR okERK0 m213_8
def a213_9 : List KV := [(.ro false false .sc 0 96 (.pk .u8 96 1394353564338963334518089833498397805985949629819433539136207107805220596394838920928249525258016968926893811094313505155729225530980053999332017417069870361228722113866446928627031547608319170487231533815972398932777883520066704428))]
def r213_9 : KV := (.pk .u8 32 47067535210800624230086642220607872293566820332338140672623539479912253342839)
theorem m213_9 : Rn ERK0 213 a213_9 r213_9 := of_eq_true (by kernel_rfl)
theorem c213_9 : KCS Tryz.prog 213 (kcon a213_9 r213_9) := kconR okERK0 m213_9
def a213_10 : List KV := [(.ro false false .sc 0 112 (.pk .u8 112 271091029709928857487243257196888192346373155162871616038454656075569600511841099785596706060571837045393852406553927401172723571466353401555912448230196943183144161787127561194536472915563834125478237698567694707220547470425563088934068117284472522616199129316906155590))]
def r213_10 : KV := (.pk .u8 32 7688561091027196164068402900837757227892327934152386234530120427714088511054)
theorem m213_10 : Rn ERK0 213 a213_10 r213_10 := of_eq_true (by kernel_rfl)
theorem c213_10 : KCS Tryz.prog 213 (kcon a213_10 r213_10) := kconR okERK0 m213_10
def a213_11 : List KV := [(.ro false false .sc 0 96 (.pk .u8 96 103086750366122546867534653613056311337106117892108468542007557006261528826214223855558610226645042523061392920281351119517489887424309443414125634254732024798888073098119463806573231184593790789860992295329875126325332304067875884))]
def r213_11 : KV := (.pk .u8 32 114456763330606042026371034945826131321139857887488382555919720545868797518347)
theorem m213_11 : Rn ERK0 213 a213_11 r213_11 := of_eq_true (by kernel_rfl)
theorem c213_11 : KCS Tryz.prog 213 (kcon a213_11 r213_11) := kconR okERK0 m213_11
def a213_12 : List KV := [(.ro false false .sc 0 185 (.pk .u8 185 2465126843133691477203531896890838291283268628245171682462099168036750892515663357821014555148764353052299399883419268833223681884179368213942522915486173590783940201116482919145135814691100243926180480069775893666927451217854464))]
def r213_12 : KV := (.pk .u8 32 71017738448712410051819844076799111165397884009610088724081589448358301996955)
theorem m213_12 : Rn ERK0 213 a213_12 r213_12 := of_eq_true (by kernel_rfl)
theorem c213_12 : KCS Tryz.prog 213 (kcon a213_12 r213_12) := kconR okERK0 m213_12
def a213_13 : List KV := [(.ro false false .sc 0 185 (.pk .u8 185 2552471115284368585477876425932427884587004765632190898546282514896577050918900009315219140039390429402547217228183371776))]
def r213_13 : KV := (.pk .u8 32 64637550186180419616342611539218859510629830792411544588428798965471180257593)
theorem m213_13 : Rn ERK0 213 a213_13 r213_13 := of_eq_true (by kernel_rfl)
theorem c213_13 : KCS Tryz.prog 213 (kcon a213_13 r213_13) := kconR okERK0 m213_13
def a213_14 : List KV := [(.ro false false .sc 0 137 (.pk .u8 137 15986831237785945905703519666694338745671708282203535669162433498195705796796591197095969961542270808368930519616416709838931677870801128613806018146494012902091006288760073470335227384660407853644821983142588960371397055842830364751899910507079925761))]
def r213_14 : KV := (.pk .u8 32 78083477428683488413805964502381641923023826937822751514877386660815472891500)
theorem m213_14 : Rn ERK0 213 a213_14 r213_14 := of_eq_true (by kernel_rfl)
theorem c213_14 : KCS Tryz.prog 213 (kcon a213_14 r213_14) := kconR okERK0 m213_14
def a233_0 : List KV := [(.ro false true .sc 0 32 (.pk .u8 32 32964475149327106443761119737132610979723272928706672007876046231495031425136)), (.ro false true .sc 0 48 (.pk .u8 48 6307603041761560681261696870352796988672920878678077863687324186281087785948526927698342637866851014515749965266944)), (.pk .u8 32 100650798749002691258200660989508745656955523408035475584006859743353366237241)]
def r233_0 : KV := (.bool true)
theorem m233_0 : Rn ERK0 233 a233_0 r233_0 := of_eq_true (by kernel_rfl)
theorem c233_0 : KCS Tryz.prog 233 (kcon a233_0 r233_0) := kconR okERK0 m233_0
def a233_1 : List KV := [(.ro false true .sc 0 32 (.pk .u8 32 32964475149327106443761119737132610979723272928706672007876046231495031425136)), (.ro false true .sc 0 48 (.pk .u8 48 20218892687485677651030198763546132473103399197778689148156638993085992920117137939145176914137957281045954869329920)), (.pk .u8 32 114456763330606042026371034945826131321139857887488382555919720545868797518347)]
def r233_1 : KV := (.bool true)
theorem m233_1 : Rn ERK0 233 a233_1 r233_1 := of_eq_true (by kernel_rfl)
theorem c233_1 : KCS Tryz.prog 233 (kcon a233_1 r233_1) := kconR okERK0 m233_1
def a233_2 : List KV := [(.ro false true .sc 0 32 (.pk .u8 32 32964475149327106443761119737132610979723272928706672007876046231495031425136)), (.ro false true .sc 0 48 (.pk .u8 48 37597597227062722346326465412596886789864915546548206060047357694276067624310052704295313470120810999866612781154304)), (.pk .u8 32 47067535210800624230086642220607872293566820332338140672623539479912253342839)]
def r233_2 : KV := (.bool true)
theorem m233_2 : Rn ERK0 233 a233_2 r233_2 := of_eq_true (by kernel_rfl)
theorem c233_2 : KCS Tryz.prog 233 (kcon a233_2 r233_2) := kconR okERK0 m233_2
def a282_0 : List KV := [(.ro false true .sc 0 137 (.pk .u8 137 5))]
def r282_0 : KV := bigV5
theorem m282_0 : Rn ERK0 282 a282_0 r282_0 := of_eq_true (by kernel_rfl)
theorem c282_0 : KCS Tryz.prog 282 (kcon a282_0 r282_0) := kconR okERK0 m282_0
def a282_1 : List KV := [(.ro false true .sc 0 137 (.pk .u8 137 15986831237785945905703519666694338745671708282203535669162433498195705796796591197095969961542270808368930519616416709838931677870801128613806018146494012902091006288760073470335227384660407853644821983142588960371397055842830364751899910507079925761))]
def r282_1 : KV := bigV6
theorem m282_1 : Rn ERK0 282 a282_1 r282_1 := of_eq_true (by kernel_rfl)
theorem c282_1 : KCS Tryz.prog 282 (kcon a282_1 r282_1) := kconR okERK0 m282_1
def a282_2 : List KV := [(.ro false true .sc 0 185 (.pk .u8 185 2465126843133691477203531896890838291283268628245171682462099168036750892515663357821014555148764353052299399883419268833223681884179368213942522915486173590783940201116482919145135814691100243926180480069775893666927451217854464))]
def r282_2 : KV := bigV7
theorem m282_2 : Rn ERK0 282 a282_2 r282_2 := of_eq_true (by kernel_rfl)
theorem c282_2 : KCS Tryz.prog 282 (kcon a282_2 r282_2) := kconR okERK0 m282_2
def a282_3 : List KV := [(.ro false true .sc 0 185 (.pk .u8 185 2552471115284368585477876425932427884587004765632190898546282514896577050918900009315219140039390429402547217228183371776))]
def r282_3 : KV := bigV8
theorem m282_3 : Rn ERK0 282 a282_3 r282_3 := of_eq_true (by kernel_rfl)
theorem c282_3 : KCS Tryz.prog 282 (kcon a282_3 r282_3) := kconR okERK0 m282_3
def a163_0 : List KV := [(.cons (bN 5) (.cons (.int .u32 (.ofNat 0)) (.cons (.ar 4 (.cons (bN 0) (.cons (.cons (.int .u32 (.ofNat 0)) (.cons (wN 0) .nl)) (.cons (.pk .u8 32 0) .nl))) .te) (.cons (.ar 4 (.cons (bN 0) (.cons (.pk .u8 32 0) .nl)) .te) .nl))))]
def r163_0 : KV := (.tup (.cons (.pk .u8 32 22390878873875203406293031918557694199530038491721336108715618296122088841782) (.cons (iN 0) .nl)))
theorem m163_0 : Rn ERK0 163 a163_0 r163_0 := of_eq_true (by kernel_rfl)
theorem c163_0 : KCS Tryz.prog 163 (kcon a163_0 r163_0) := kconR okERK0 m163_0
def a163_1 : List KV := [bigV0]
def r163_1 : KV := (.tup (.cons (.pk .u8 32 22390878873875203406293031918557694199530038491721336108715618296122088841782) (.cons (iN 0) .nl)))
theorem m163_1 : Rn ERK0 163 a163_1 r163_1 := of_eq_true (by kernel_rfl)
theorem c163_1 : KCS Tryz.prog 163 (kcon a163_1 r163_1) := kconR okERK0 m163_1
def a163_2 : List KV := [bigV1]
def r163_2 : KV := (.tup (.cons (.pk .u8 32 78083477428683488413805964502381641923023826937822751514877386660815472891500) (.cons (iN 0) .nl)))
theorem m163_2 : Rn ERK0 163 a163_2 r163_2 := of_eq_true (by kernel_rfl)
theorem c163_2 : KCS Tryz.prog 163 (kcon a163_2 r163_2) := kconR okERK0 m163_2
def a163_3 : List KV := [bigV2]
def r163_3 : KV := (.tup (.cons (.pk .u8 32 71017738448712410051819844076799111165397884009610088724081589448358301996955) (.cons (iN 0) .nl)))
theorem m163_3 : Rn ERK0 163 a163_3 r163_3 := of_eq_true (by kernel_rfl)
theorem c163_3 : KCS Tryz.prog 163 (kcon a163_3 r163_3) := kconR okERK0 m163_3
def a163_4 : List KV := [bigV3]
def r163_4 : KV := (.tup (.cons (.pk .u8 32 64637550186180419616342611539218859510629830792411544588428798965471180257593) (.cons (iN 0) .nl)))
theorem m163_4 : Rn ERK0 163 a163_4 r163_4 := of_eq_true (by kernel_rfl)
theorem c163_4 : KCS Tryz.prog 163 (kcon a163_4 r163_4) := kconR okERK0 m163_4
def a17_0 : List KV := [bigV14]
def r17_0 : KV := bigV15
theorem m17_0 : Rb ERK0 17 a17_0 r17_0 := of_eq_true (by kernel_rfl)
theorem c17_0 : KCSb Tryz.prog 17 (kcon a17_0 r17_0) := kconRb okERK0 m17_0
def a30_0 : List KV := [bigV15, (iN 2)]
def r30_0 : KV := bigV16
theorem m30_0 : Rb ERK0 30 a30_0 r30_0 := of_eq_true (by kernel_rfl)
theorem c30_0 : KCSb Tryz.prog 30 (kcon a30_0 r30_0) := kconRb okERK0 m30_0
def a30_1 : List KV := [bigV15, (iN 22)]
def r30_1 : KV := bigV17
theorem m30_1 : Rb ERK0 30 a30_1 r30_1 := of_eq_true (by kernel_rfl)
theorem c30_1 : KCSb Tryz.prog 30 (kcon a30_1 r30_1) := kconRb okERK0 m30_1
end
end Go.K
set_option maxRecDepth 10000
namespace Go.K
open Go.Ab Go.RowKit Go.Y Go.Proofs
noncomputable section
def tab313 : List (List KV × KV) := [(a313_0, r313_0)]
theorem PM313 : ∃ fn, Tryz.prog.funcs[313]? = some fn ∧ (fn.name == "runtime.NumGoroutine") = false ∧ fn.body.isNone = false := ⟨Tryz.f313, Tryz.func313, (fnsL.get Tryz.func313).1, by kernel_rfl⟩
theorem kcsT313 : KCS Tryz.prog 313 (sMem tab313) := sMem_s PM313 ⟨c313_0, by kernel_rfl, trivial⟩
def tab301 : List (List KV × KV) := [(a301_0, r301_0)]
theorem PM301 : ∃ fn, Tryz.prog.funcs[301]? = some fn ∧ (fn.name == "runtime.NumGoroutine") = false ∧ fn.body.isNone = false := ⟨Tryz.f301, Tryz.func301, (fnsL.get Tryz.func301).1, by kernel_rfl⟩
theorem kcsT301 : KCS Tryz.prog 301 (sMem tab301) := sMem_s PM301 ⟨c301_0, by kernel_rfl, trivial⟩
def tab213 : List (List KV × KV) := [(a213_0, r213_0), (a213_1, r213_1), (a213_2, r213_2), (a213_3, r213_3), (a213_4, r213_4), (a213_5, r213_5), (a213_6, r213_6), (a213_7, r213_7), (a213_8, r213_8), (a213_9, r213_9), (a213_10, r213_10), (a213_11, r213_11), (a213_12, r213_12), (a213_13, r213_13), (a213_14, r213_14)]
theorem PM213 : ∃ fn, Tryz.prog.funcs[213]? = some fn ∧ (fn.name == "runtime.NumGoroutine") = false ∧ fn.body.isNone = false := ⟨Tryz.f213, Tryz.func213, (fnsL.get Tryz.func213).1, by kernel_rfl⟩
theorem kcsT213 : KCS Tryz.prog 213 (sMem tab213) := sMem_s PM213 ⟨c213_0, by kernel_rfl, ⟨c213_1, by kernel_rfl, ⟨c213_2, by kernel_rfl, ⟨c213_3, by kernel_rfl, ⟨c213_4, by kernel_rfl, ⟨c213_5, by kernel_rfl, ⟨c213_6, by kernel_rfl, ⟨c213_7, by kernel_rfl, ⟨c213_8, by kernel_rfl, ⟨c213_9, by kernel_rfl, ⟨c213_10, by kernel_rfl, ⟨c213_11, by kernel_rfl, ⟨c213_12, by kernel_rfl, ⟨c213_13, by kernel_rfl, ⟨c213_14, by kernel_rfl, trivial⟩⟩⟩⟩⟩⟩⟩⟩⟩⟩⟩⟩⟩⟩⟩
def tab233 : List (List KV × KV) := [(a233_0, r233_0), (a233_1, r233_1), (a233_2, r233_2)]
theorem PM233 : ∃ fn, Tryz.prog.funcs[233]? = some fn ∧ (fn.name == "runtime.NumGoroutine") = false ∧ fn.body.isNone = false := ⟨Tryz.f233, Tryz.func233, (fnsL.get Tryz.func233).1, by kernel_rfl⟩
theorem kcsT233 : KCS Tryz.prog 233 (sMem tab233) := sMem_s PM233 ⟨c233_0, by kernel_rfl, ⟨c233_1, by kernel_rfl, ⟨c233_2, by kernel_rfl, trivial⟩⟩⟩
def tab282 : List (List KV × KV) := [(a282_0, r282_0), (a282_1, r282_1), (a282_2, r282_2), (a282_3, r282_3)]
theorem PM282 : ∃ fn, Tryz.prog.funcs[282]? = some fn ∧ (fn.name == "runtime.NumGoroutine") = false ∧ fn.body.isNone = false := ⟨Tryz.f282, Tryz.func282, (fnsL.get Tryz.func282).1, by kernel_rfl⟩
theorem kcsT282 : KCS Tryz.prog 282 (sMem tab282) := sMem_s PM282 ⟨c282_0, by kernel_rfl, ⟨c282_1, by kernel_rfl, ⟨c282_2, by kernel_rfl, ⟨c282_3, by kernel_rfl, trivial⟩⟩⟩⟩
def tab163 : List (List KV × KV) := [(a163_0, r163_0), (a163_1, r163_1), (a163_2, r163_2), (a163_3, r163_3), (a163_4, r163_4)]
theorem PM163 : ∃ fn, Tryz.prog.funcs[163]? = some fn ∧ (fn.name == "runtime.NumGoroutine") = false ∧ fn.body.isNone = false := ⟨Tryz.f163, Tryz.func163, (fnsL.get Tryz.func163).1, by kernel_rfl⟩
theorem kcsT163 : KCS Tryz.prog 163 (sMem tab163) := sMem_s PM163 ⟨c163_0, by kernel_rfl, ⟨c163_1, by kernel_rfl, ⟨c163_2, by kernel_rfl, ⟨c163_3, by kernel_rfl, ⟨c163_4, by kernel_rfl, trivial⟩⟩⟩⟩⟩
def tab17 : List (List KV × KV) := [(a17_0, r17_0)]
theorem PM17 : ∃ fn, Tryz.prog.funcs[17]? = some fn ∧ (fn.name == "runtime.NumGoroutine") = false ∧ fn.body.isNone = false := ⟨Tryz.f17, Tryz.func17, (fnsL.get Tryz.func17).1, by kernel_rfl⟩
theorem kcsT17 : KCSb Tryz.prog 17 (sMem tab17) := sMemb_s PM17 ⟨c17_0, by kernel_rfl, trivial⟩
def tab30 : List (List KV × KV) := [(a30_0, r30_0), (a30_1, r30_1)]
theorem PM30 : ∃ fn, Tryz.prog.funcs[30]? = some fn ∧ (fn.name == "runtime.NumGoroutine") = false ∧ fn.body.isNone = false := ⟨Tryz.f30, Tryz.func30, (fnsL.get Tryz.func30).1, by kernel_rfl⟩
theorem kcsT30 : KCSb Tryz.prog 30 (sMem tab30) := sMemb_s PM30 ⟨c30_0, by kernel_rfl, ⟨c30_1, by kernel_rfl, trivial⟩⟩
end
end Go.K
set_option maxRecDepth 10000
namespace Go.K
open Go.Ab Go.RowKit Go.Y Go.Proofs
noncomputable section
def ERK1b : KEnv := E0.tab [(273, sCompS), (261, sCompR), (314, sTab1 sbN), (324, kcon [] (.pk .u8 256 sbN)), (302, sEnc), (312, sEncR), (28, kcon [] (.bool true)), (29, kcon [dkF] r29), (313, sMem tab313), (301, sMem tab301), (213, sMem tab213), (233, sMem tab233), (282, sMem tab282), (163, sMem tab163)]
theorem okERK1b : KOk ERK1b := ok0.tab ⟨kcs273, kcs261, kcsSub, kcsTab, kcsEnc.cls, kcsEncR.cls, rlives_s, kcs29, kcsT313, kcsT301, kcsT213, kcsT233, kcsT282, kcsT163, trivial⟩
def ERK1a : KEnv := ERK1b.tabB [(17, sMem tab17), (30, sMem tab30)]
theorem okERK1a : KOk ERK1a := okERK1b.tabB ⟨kcsT17, kcsT30, trivial⟩
def ERK1 : KEnv := ERK1a.olo (fun f => false)
theorem okERK1 : KOk ERK1 := okERK1a.olo _
end
end Go.K
set_option maxRecDepth 10000
namespace Go.K
open Go.Ab Go.RowKit Go.Y Go.Proofs
noncomputable section
attribute [local irreducible] krun callR
def a142_0 : List KV := [(.ro true false .sc 0 7 (.pk .u8 7 31084789086380387)), (.ro false true .sc 0 32 (.pk .u8 32 42224713879204023466108653541345754264002120359733472579832652548952497193728))]
def r142_0 : KV := (.pk .u8 32 27342162514947653583937906222160396351575366345600806056086070088289311440504)
theorem m142_0 : Rn ERK1 142 a142_0 r142_0 := of_eq_true (by kernel_rfl)
theorem c142_0 : KCS Tryz.prog 142 (kcon a142_0 r142_0) := kconR okERK1 m142_0
def a142_1 : List KV := [(.ro false true .sc 0 32 (.pk .u8 32 27342162514947653583937906222160396351575366345600806056086070088289311440504)), (.ro false false .sc 0 8 (.pk .u8 8 104832358248836709))]
def r142_1 : KV := (.pk .u8 32 918395647173819365373735878896344643108083295023627920875243912625669619961)
theorem m142_1 : Rn ERK1 142 a142_1 r142_1 := of_eq_true (by kernel_rfl)
theorem c142_1 : KCS Tryz.prog 142 (kcon a142_1 r142_1) := kconR okERK1 m142_1
def a142_2 : List KV := [(.ro false true .sc 0 32 (.pk .u8 32 27342162514947653583937906222160396351575366345600806056086070088289311440504)), (.ro false false .sc 0 4 (.pk .u8 4 23290221))]
def r142_2 : KV := (.pk .u8 32 32964475149327106443761119737132610979723272928706672007876046231495031425136)
theorem m142_2 : Rn ERK1 142 a142_2 r142_2 := of_eq_true (by kernel_rfl)
theorem c142_2 : KCS Tryz.prog 142 (kcon a142_2 r142_2) := kconR okERK1 m142_2
def a142_3 : List KV := [(.ro false true .sc 0 32 (.pk .u8 32 32964475149327106443761119737132610979723272928706672007876046231495031425136)), (.ro false false .sc 0 48 (.pk .u8 48 6307603041761560681261696870352796988672920878678077863687324186281087785948526927698342637866851014515749965266944))]
def r142_3 : KV := (.pk .u8 32 100650798749002691258200660989508745656955523408035475584006859743353366237241)
theorem m142_3 : Rn ERK1 142 a142_3 r142_3 := of_eq_true (by kernel_rfl)
theorem c142_3 : KCS Tryz.prog 142 (kcon a142_3 r142_3) := kconR okERK1 m142_3
def a142_4 : List KV := [(.ro false true .sc 0 32 (.pk .u8 32 32964475149327106443761119737132610979723272928706672007876046231495031425136)), (.ro false false .sc 0 48 (.pk .u8 48 37597597227062722346326465412596886789864915546548206060047357694276067624310052704295313470120810999866612781154304))]
def r142_4 : KV := (.pk .u8 32 47067535210800624230086642220607872293566820332338140672623539479912253342839)
theorem m142_4 : Rn ERK1 142 a142_4 r142_4 := of_eq_true (by kernel_rfl)
theorem c142_4 : KCS Tryz.prog 142 (kcon a142_4 r142_4) := kconR okERK1 m142_4
def a142_5 : List KV := [(.ro false true .sc 0 32 (.pk .u8 32 32964475149327106443761119737132610979723272928706672007876046231495031425136)), (.ro false false .sc 0 48 (.pk .u8 48 20218892687485677651030198763546132473103399197778689148156638993085992920117137939145176914137957281045954869329920))]
def r142_5 : KV := (.pk .u8 32 114456763330606042026371034945826131321139857887488382555919720545868797518347)
theorem m142_5 : Rn ERK1 142 a142_5 r142_5 := of_eq_true (by kernel_rfl)
theorem c142_5 : KCS Tryz.prog 142 (kcon a142_5 r142_5) := kconR okERK1 m142_5
def a220_0 : List KV := [(.pk .u8 16 125900742916195838709135468801027031289), (.cons (.int .u32 (.ofNat 0)) (.cons (wN 0) .nl)), (iN 0), (.ro false true .sc 0 32 (.pk .u8 32 18536379357050479536178529230962239721255819590925034493199826405830626757024))]
def r220_0 : KV := (.tup (.cons (.ro true true .sc 0 32 (.pk .u8 32 14528991250861404666834535435384615765856667510756806797353855100662256435713)) (.cons (iN 0) .nl)))
theorem m220_0 : Rn ERK1 220 a220_0 r220_0 := of_eq_true (by kernel_rfl)
theorem c220_0 : KCS Tryz.prog 220 (kcon a220_0 r220_0) := kconR okERK1 m220_0
def a220_1 : List KV := [(.pk .u8 16 125900742916195838709135468801027031289), (.cons (.int .u32 (.ofNat 2)) (.cons (wN 8) .nl)), (iN 0), (.ro false true .sc 0 32 (.pk .u8 32 59417985335053681666467945970849407310764521507188025214919095951714432768427))]
def r220_1 : KV := (.tup (.cons (.ro true true .sc 0 32 (.pk .u8 32 43586973752584214000503606306153847297570002532270420392061565301986769307139)) (.cons (iN 0) .nl)))
theorem m220_1 : Rn ERK1 220 a220_1 r220_1 := of_eq_true (by kernel_rfl)
theorem c220_1 : KCS Tryz.prog 220 (kcon a220_1 r220_1) := kconR okERK1 m220_1
def a220_2 : List KV := [(.pk .u8 16 125900742916195838709135468801027031289), (.cons (.int .u32 (.ofNat 1)) (.cons (wN 1) .nl)), (iN 0), (.ro false true .sc 0 32 (.pk .u8 32 110489407862259829357947970960983717272441040035878920116121786122993471097146))]
def r220_2 : KV := (.tup (.cons (.ro true true .sc 0 32 (.pk .u8 32 29057982501722809333669070870769231531713335021513613594707710201324512871426)) (.cons (iN 0) .nl)))
theorem m220_2 : Rn ERK1 220 a220_2 r220_2 := of_eq_true (by kernel_rfl)
theorem c220_2 : KCS Tryz.prog 220 (kcon a220_2 r220_2) := kconR okERK1 m220_2
def a20_0 : List KV := [(iN 4096)]
def r20_0 : KV := bigV4
theorem m20_0 : Rb ERK1 20 a20_0 r20_0 := of_eq_true (by kernel_rfl)
theorem c20_0 : KCSb Tryz.prog 20 (kcon a20_0 r20_0) := kconRb okERK1 m20_0
def a24_0 : List KV := [(iN 4096), bigV9, (.cons (.pk .u8 32 22390878873875203406293031918557694199530038491721336108715618296122088841782) (.cons (wN 0) (.cons (wN 0) .nl)))]
def r24_0 : KV := bigV5
theorem m24_0 : Rb ERK1 24 a24_0 r24_0 := of_eq_true (by kernel_rfl)
theorem c24_0 : KCSb Tryz.prog 24 (kcon a24_0 r24_0) := kconRb okERK1 m24_0
def a32_0 : List KV := [(iN 9), bigV11, (.cons (.pk .u8 32 78083477428683488413805964502381641923023826937822751514877386660815472891500) (.cons (wN 0) (.cons (wN 1000) .nl)))]
def r32_0 : KV := (.tup (.cons (.cons (iN 0) (.cons .nils .nl)) (.cons .nils (.cons (.cons (iN 22) (.cons (bN 1) .nl)) (.cons (iN 9) .nl)))))
theorem m32_0 : Rb ERK1 32 a32_0 r32_0 := of_eq_true (by kernel_rfl)
theorem c32_0 : KCSb Tryz.prog 32 (kcon a32_0 r32_0) := kconRb okERK1 m32_0
end
end Go.K
set_option maxRecDepth 10000
namespace Go.K
open Go.Ab Go.RowKit Go.Y Go.Proofs
noncomputable section
def tab142 : List (List KV × KV) := [(a142_0, r142_0), (a142_1, r142_1), (a142_2, r142_2), (a142_3, r142_3), (a142_4, r142_4), (a142_5, r142_5)]
theorem PM142 : ∃ fn, Tryz.prog.funcs[142]? = some fn ∧ (fn.name == "runtime.NumGoroutine") = false ∧ fn.body.isNone = false := ⟨Tryz.f142, Tryz.func142, (fnsL.get Tryz.func142).1, by kernel_rfl⟩
theorem kcsT142 : KCS Tryz.prog 142 (sMem tab142) := sMem_s PM142 ⟨c142_0, by kernel_rfl, ⟨c142_1, by kernel_rfl, ⟨c142_2, by kernel_rfl, ⟨c142_3, by kernel_rfl, ⟨c142_4, by kernel_rfl, ⟨c142_5, by kernel_rfl, trivial⟩⟩⟩⟩⟩⟩
def tab220 : List (List KV × KV) := [(a220_0, r220_0), (a220_1, r220_1), (a220_2, r220_2)]
theorem PM220 : ∃ fn, Tryz.prog.funcs[220]? = some fn ∧ (fn.name == "runtime.NumGoroutine") = false ∧ fn.body.isNone = false := ⟨Tryz.f220, Tryz.func220, (fnsL.get Tryz.func220).1, by kernel_rfl⟩
theorem kcsT220 : KCS Tryz.prog 220 (sMem tab220) := sMem_s PM220 ⟨c220_0, by kernel_rfl, ⟨c220_1, by kernel_rfl, ⟨c220_2, by kernel_rfl, trivial⟩⟩⟩
def tab20 : List (List KV × KV) := [(a20_0, r20_0)]
theorem PM20 : ∃ fn, Tryz.prog.funcs[20]? = some fn ∧ (fn.name == "runtime.NumGoroutine") = false ∧ fn.body.isNone = false := ⟨Tryz.f20, Tryz.func20, (fnsL.get Tryz.func20).1, by kernel_rfl⟩
theorem kcsT20 : KCSb Tryz.prog 20 (sMem tab20) := sMemb_s PM20 ⟨c20_0, by kernel_rfl, trivial⟩
def tab24 : List (List KV × KV) := [(a24_0, r24_0)]
theorem PM24 : ∃ fn, Tryz.prog.funcs[24]? = some fn ∧ (fn.name == "runtime.NumGoroutine") = false ∧ fn.body.isNone = false := ⟨Tryz.f24, Tryz.func24, (fnsL.get Tryz.func24).1, by kernel_rfl⟩
theorem kcsT24 : KCSb Tryz.prog 24 (sMem tab24) := sMemb_s PM24 ⟨c24_0, by kernel_rfl, trivial⟩
def tab32 : List (List KV × KV) := [(a32_0, r32_0)]
theorem PM32 : ∃ fn, Tryz.prog.funcs[32]? = some fn ∧ (fn.name == "runtime.NumGoroutine") = false ∧ fn.body.isNone = false := ⟨Tryz.f32, Tryz.func32, (fnsL.get Tryz.func32).1, by kernel_rfl⟩
theorem kcsT32 : KCSb Tryz.prog 32 (sMem tab32) := sMemb_s PM32 ⟨c32_0, by kernel_rfl, trivial⟩
end
end Go.K
set_option maxRecDepth 10000
namespace Go.K
open Go.Ab Go.RowKit Go.Y Go.Proofs
noncomputable section
def ERK2b : KEnv := E0.tab [(273, sCompS), (261, sCompR), (314, sTab1 sbN), (324, kcon [] (.pk .u8 256 sbN)), (302, sEnc), (312, sEncR), (28, kcon [] (.bool true)), (29, kcon [dkF] r29), (313, sMem tab313), (301, sMem tab301), (213, sMem tab213), (233, sMem tab233), (282, sMem tab282), (163, sMem tab163), (142, sMem tab142), (220, sMem tab220)]
theorem okERK2b : KOk ERK2b := ok0.tab ⟨kcs273, kcs261, kcsSub, kcsTab, kcsEnc.cls, kcsEncR.cls, rlives_s, kcs29, kcsT313, kcsT301, kcsT213, kcsT233, kcsT282, kcsT163, kcsT142, kcsT220, trivial⟩
def ERK2a : KEnv := ERK2b.tabB [(17, sMem tab17), (30, sMem tab30), (20, sMem tab20), (24, sMem tab24), (32, sMem tab32)]
theorem okERK2a : KOk ERK2a := okERK2b.tabB ⟨kcsT17, kcsT30, kcsT20, kcsT24, kcsT32, trivial⟩
def ERK2 : KEnv := ERK2a.olo (fun f => false)
theorem okERK2 : KOk ERK2 := okERK2a.olo _
end
end Go.K
set_option maxRecDepth 10000
namespace Go.K
open Go.Ab Go.RowKit Go.Y Go.Proofs
noncomputable section
attribute [local irreducible] krun callR
def a58_0 : List KV := [(.pk .u8 16 125900742916195838709135468801027031289), (.pk .u8 32 32964475149327106443761119737132610979723272928706672007876046231495031425136), (iN 0), (.cons (.int .u32 (.ofNat 0)) (.cons (wN 0) .nl)), (.pk .u8 32 14528991250861404666834535435384615765856667510756806797353855100662256435713)]
def r58_0 : KV := (.tup (.cons (.pk .u8 32 18536379357050479536178529230962239721255819590925034493199826405830626757024) (.cons (.pk .u8 32 100650798749002691258200660989508745656955523408035475584006859743353366237241) .nl)))
theorem m58_0 : Rn ERK2 58 a58_0 r58_0 := of_eq_true (by kernel_rfl)
theorem c58_0 : KCS Tryz.prog 58 (kcon a58_0 r58_0) := kconR okERK2 m58_0
def a58_1 : List KV := [(.pk .u8 16 125900742916195838709135468801027031289), (.pk .u8 32 32964475149327106443761119737132610979723272928706672007876046231495031425136), (iN 1), (.cons (.int .u32 (.ofNat 1)) (.cons (wN 1) .nl)), (.pk .u8 32 29057982501722809333669070870769231531713335021513613594707710201324512871426)]
def r58_1 : KV := (.tup (.cons (.pk .u8 32 110489407862259829357947970960983717272441040035878920116121786122993471097146) (.cons (.pk .u8 32 47067535210800624230086642220607872293566820332338140672623539479912253342839) .nl)))
theorem m58_1 : Rn ERK2 58 a58_1 r58_1 := of_eq_true (by kernel_rfl)
theorem c58_1 : KCS Tryz.prog 58 (kcon a58_1 r58_1) := kconR okERK2 m58_1
def a58_2 : List KV := [(.pk .u8 16 125900742916195838709135468801027031289), (.pk .u8 32 32964475149327106443761119737132610979723272928706672007876046231495031425136), (iN 8), (.cons (.int .u32 (.ofNat 2)) (.cons (wN 8) .nl)), (.pk .u8 32 43586973752584214000503606306153847297570002532270420392061565301986769307139)]
def r58_2 : KV := (.tup (.cons (.pk .u8 32 59417985335053681666467945970849407310764521507188025214919095951714432768427) (.cons (.pk .u8 32 114456763330606042026371034945826131321139857887488382555919720545868797518347) .nl)))
theorem m58_2 : Rn ERK2 58 a58_2 r58_2 := of_eq_true (by kernel_rfl)
theorem c58_2 : KCS Tryz.prog 58 (kcon a58_2 r58_2) := kconR okERK2 m58_2
def a55_0 : List KV := [(.pk .u8 32 42224713879204023466108653541345754264002120359733472579832652548952497193728)]
def r55_0 : KV := (.tup (.cons (.pk .u8 16 125900742916195838709135468801027031289) (.cons (.pk .u8 32 32964475149327106443761119737132610979723272928706672007876046231495031425136) .nl)))
theorem m55_0 : Rn ERK2 55 a55_0 r55_0 := of_eq_true (by kernel_rfl)
theorem c55_0 : KCS Tryz.prog 55 (kcon a55_0 r55_0) := kconR okERK2 m55_0
def a175_0 : List KV := [(.cons (.pk .u8 16 125900742916195838709135468801027031289) (.cons (.pk .u8 32 32964475149327106443761119737132610979723272928706672007876046231495031425136) .nl)), (iN 0), (.cons (.int .u32 (.ofNat 0)) (.cons (wN 0) .nl)), (.pk .u8 32 18536379357050479536178529230962239721255819590925034493199826405830626757024), (.pk .u8 32 100650798749002691258200660989508745656955523408035475584006859743353366237241)]
def r175_0 : KV := (.tup (.cons (.pk .u8 32 14528991250861404666834535435384615765856667510756806797353855100662256435713) (.cons (iN 0) .nl)))
theorem m175_0 : Rn ERK2 175 a175_0 r175_0 := of_eq_true (by kernel_rfl)
theorem c175_0 : KCS Tryz.prog 175 (kcon a175_0 r175_0) := kconR okERK2 m175_0
def a175_1 : List KV := [(.cons (.pk .u8 16 125900742916195838709135468801027031289) (.cons (.pk .u8 32 32964475149327106443761119737132610979723272928706672007876046231495031425136) .nl)), (iN 8), (.cons (.int .u32 (.ofNat 2)) (.cons (wN 8) .nl)), (.pk .u8 32 59417985335053681666467945970849407310764521507188025214919095951714432768427), (.pk .u8 32 114456763330606042026371034945826131321139857887488382555919720545868797518347)]
def r175_1 : KV := (.tup (.cons (.pk .u8 32 43586973752584214000503606306153847297570002532270420392061565301986769307139) (.cons (iN 0) .nl)))
theorem m175_1 : Rn ERK2 175 a175_1 r175_1 := of_eq_true (by kernel_rfl)
theorem c175_1 : KCS Tryz.prog 175 (kcon a175_1 r175_1) := kconR okERK2 m175_1
def a175_2 : List KV := [(.cons (.pk .u8 16 125900742916195838709135468801027031289) (.cons (.pk .u8 32 32964475149327106443761119737132610979723272928706672007876046231495031425136) .nl)), (iN 1), (.cons (.int .u32 (.ofNat 1)) (.cons (wN 1) .nl)), (.pk .u8 32 110489407862259829357947970960983717272441040035878920116121786122993471097146), (.pk .u8 32 47067535210800624230086642220607872293566820332338140672623539479912253342839)]
def r175_2 : KV := (.tup (.cons (.pk .u8 32 29057982501722809333669070870769231531713335021513613594707710201324512871426) (.cons (iN 0) .nl)))
theorem m175_2 : Rn ERK2 175 a175_2 r175_2 := of_eq_true (by kernel_rfl)
theorem c175_2 : KCS Tryz.prog 175 (kcon a175_2 r175_2) := kconR okERK2 m175_2
end
end Go.K
set_option maxRecDepth 10000
namespace Go.K
open Go.Ab Go.RowKit Go.Y Go.Proofs
noncomputable section
def tab58 : List (List KV × KV) := [(a58_0, r58_0), (a58_1, r58_1), (a58_2, r58_2)]
theorem PM58 : ∃ fn, Tryz.prog.funcs[58]? = some fn ∧ (fn.name == "runtime.NumGoroutine") = false ∧ fn.body.isNone = false := ⟨Tryz.f58, Tryz.func58, (fnsL.get Tryz.func58).1, by kernel_rfl⟩
theorem kcsT58 : KCS Tryz.prog 58 (sMem tab58) := sMem_s PM58 ⟨c58_0, by kernel_rfl, ⟨c58_1, by kernel_rfl, ⟨c58_2, by kernel_rfl, trivial⟩⟩⟩
def tab55 : List (List KV × KV) := [(a55_0, r55_0)]
theorem PM55 : ∃ fn, Tryz.prog.funcs[55]? = some fn ∧ (fn.name == "runtime.NumGoroutine") = false ∧ fn.body.isNone = false := ⟨Tryz.f55, Tryz.func55, (fnsL.get Tryz.func55).1, by kernel_rfl⟩
theorem kcsT55 : KCS Tryz.prog 55 (sMem tab55) := sMem_s PM55 ⟨c55_0, by kernel_rfl, trivial⟩
def tab175 : List (List KV × KV) := [(a175_0, r175_0), (a175_1, r175_1), (a175_2, r175_2)]
theorem PM175 : ∃ fn, Tryz.prog.funcs[175]? = some fn ∧ (fn.name == "runtime.NumGoroutine") = false ∧ fn.body.isNone = false := ⟨Tryz.f175, Tryz.func175, (fnsL.get Tryz.func175).1, by kernel_rfl⟩
theorem kcsT175 : KCS Tryz.prog 175 (sMem tab175) := sMem_s PM175 ⟨c175_0, by kernel_rfl, ⟨c175_1, by kernel_rfl, ⟨c175_2, by kernel_rfl, trivial⟩⟩⟩
end
end Go.K
set_option maxRecDepth 10000
namespace Go.K
open Go.Ab Go.RowKit Go.Y Go.Proofs
noncomputable section
def ERK3b : KEnv := E0.tab [(273, sCompS), (261, sCompR), (314, sTab1 sbN), (324, kcon [] (.pk .u8 256 sbN)), (302, sEnc), (312, sEncR), (28, kcon [] (.bool true)), (29, kcon [dkF] r29), (313, sMem tab313), (301, sMem tab301), (213, sMem tab213), (233, sMem tab233), (282, sMem tab282), (163, sMem tab163), (142, sMem tab142), (220, sMem tab220), (58, sMem tab58), (55, sMem tab55), (175, sMem tab175)]
theorem okERK3b : KOk ERK3b := ok0.tab ⟨kcs273, kcs261, kcsSub, kcsTab, kcsEnc.cls, kcsEncR.cls, rlives_s, kcs29, kcsT313, kcsT301, kcsT213, kcsT233, kcsT282, kcsT163, kcsT142, kcsT220, kcsT58, kcsT55, kcsT175, trivial⟩
def ERK3a : KEnv := ERK3b.tabB [(17, sMem tab17), (30, sMem tab30), (20, sMem tab20), (24, sMem tab24), (32, sMem tab32)]
theorem okERK3a : KOk ERK3a := okERK3b.tabB ⟨kcsT17, kcsT30, kcsT20, kcsT24, kcsT32, trivial⟩
def ERK3 : KEnv := ERK3a.olo (fun f => false)
theorem okERK3 : KOk ERK3 := okERK3a.olo _
end
end Go.K
set_option maxRecDepth 10000
namespace Go.K
open Go.Ab Go.RowKit Go.Y Go.Proofs
noncomputable section
attribute [local irreducible] krun callR
def a9_0 : List KV := [bigV13]
def r9_0 : KV := bigV14
theorem m9_0 : Rb ERK3 9 a9_0 r9_0 := of_eq_true (by kernel_rfl)
theorem c9_0 : KCSb Tryz.prog 9 (kcon a9_0 r9_0) := kconRb okERK3 m9_0
def a18_0 : List KV := [(iN 4096), bigV9, (.cons (.pk .u8 32 22390878873875203406293031918557694199530038491721336108715618296122088841782) (.cons (wN 0) (.cons (wN 0) .nl))), (.cons (.pk .u8 16 0) (.cons (.pk .u8 32 0) .nl)), (iN 4095)]
def r18_0 : KV := (.tup (.cons (.pk .u8 32 0) (.cons (.cons (iN 0) (.cons (bN 0) .nl)) (.cons (iN 0) .nl))))
theorem m18_0 : Rb ERK3 18 a18_0 r18_0 := of_eq_true (by kernel_rfl)
theorem c18_0 : KCSb Tryz.prog 18 (kcon a18_0 r18_0) := kconRb okERK3 m18_0
def a18_1 : List KV := [(iN 9), bigV10, (.cons (.pk .u8 32 78083477428683488413805964502381641923023826937822751514877386660815472891500) (.cons (wN 0) (.cons (wN 1000) .nl))), (.cons (.pk .u8 16 125900742916195838709135468801027031289) (.cons (.pk .u8 32 32964475149327106443761119737132610979723272928706672007876046231495031425136) .nl)), (iN 0)]
def r18_1 : KV := (.tup (.cons (.pk .u8 32 14528991250861404666834535435384615765856667510756806797353855100662256435713) (.cons (.cons (iN 0) (.cons (bN 0) .nl)) (.cons (iN 0) .nl))))
theorem m18_1 : Rb ERK3 18 a18_1 r18_1 := of_eq_true (by kernel_rfl)
theorem c18_1 : KCSb Tryz.prog 18 (kcon a18_1 r18_1) := kconRb okERK3 m18_1
def a18_2 : List KV := [(iN 9), bigV10, (.cons (.pk .u8 32 78083477428683488413805964502381641923023826937822751514877386660815472891500) (.cons (wN 0) (.cons (wN 1000) .nl))), (.cons (.pk .u8 16 125900742916195838709135468801027031289) (.cons (.pk .u8 32 32964475149327106443761119737132610979723272928706672007876046231495031425136) .nl)), (iN 1)]
def r18_2 : KV := (.tup (.cons (.pk .u8 32 0) (.cons (.cons (iN 2) (.cons (bN 1) .nl)) (.cons (iN 9) .nl))))
theorem m18_2 : Rb ERK3 18 a18_2 r18_2 := of_eq_true (by kernel_rfl)
theorem c18_2 : KCSb Tryz.prog 18 (kcon a18_2 r18_2) := kconRb okERK3 m18_2
def a18_3 : List KV := [(iN 9), bigV10, (.cons (.pk .u8 32 78083477428683488413805964502381641923023826937822751514877386660815472891500) (.cons (wN 0) (.cons (wN 1000) .nl))), (.cons (.pk .u8 16 125900742916195838709135468801027031289) (.cons (.pk .u8 32 32964475149327106443761119737132610979723272928706672007876046231495031425136) .nl)), (iN 2)]
def r18_3 : KV := (.tup (.cons (.pk .u8 32 0) (.cons (.cons (iN 0) (.cons (bN 0) .nl)) (.cons (iN 0) .nl))))
theorem m18_3 : Rb ERK3 18 a18_3 r18_3 := of_eq_true (by kernel_rfl)
theorem c18_3 : KCSb Tryz.prog 18 (kcon a18_3 r18_3) := kconRb okERK3 m18_3
def a18_4 : List KV := [(iN 9), bigV10, (.cons (.pk .u8 32 78083477428683488413805964502381641923023826937822751514877386660815472891500) (.cons (wN 0) (.cons (wN 1000) .nl))), (.cons (.pk .u8 16 125900742916195838709135468801027031289) (.cons (.pk .u8 32 32964475149327106443761119737132610979723272928706672007876046231495031425136) .nl)), (iN 3)]
def r18_4 : KV := (.tup (.cons (.pk .u8 32 0) (.cons (.cons (iN 0) (.cons (bN 0) .nl)) (.cons (iN 0) .nl))))
theorem m18_4 : Rb ERK3 18 a18_4 r18_4 := of_eq_true (by kernel_rfl)
theorem c18_4 : KCSb Tryz.prog 18 (kcon a18_4 r18_4) := kconRb okERK3 m18_4
def a18_5 : List KV := [(iN 9), bigV10, (.cons (.pk .u8 32 78083477428683488413805964502381641923023826937822751514877386660815472891500) (.cons (wN 0) (.cons (wN 1000) .nl))), (.cons (.pk .u8 16 125900742916195838709135468801027031289) (.cons (.pk .u8 32 32964475149327106443761119737132610979723272928706672007876046231495031425136) .nl)), (iN 4)]
def r18_5 : KV := (.tup (.cons (.pk .u8 32 0) (.cons (.cons (iN 0) (.cons (bN 0) .nl)) (.cons (iN 0) .nl))))
theorem m18_5 : Rb ERK3 18 a18_5 r18_5 := of_eq_true (by kernel_rfl)
theorem c18_5 : KCSb Tryz.prog 18 (kcon a18_5 r18_5) := kconRb okERK3 m18_5
end
end Go.K
