/- Values of the runs. No condition. An environment. No condition. -/
import Derived.Test.YtfpmealbbibhpaaGreatDoorAE4
import Derived.Test.YtfpmealbbibhpaaGreatDoorAS7
import Derived.Test.YtfpmealbbibhpaaGreatDoorK17
set_option linter.unusedVariables false
set_option maxRecDepth 10000
namespace Go.K
open Go.Ab Go.RowKit Go.Y Go.Proofs
noncomputable section
def RunL (E:KEnv) (f:Nat) (a:List KV) (r:KV):Prop:=callR E (krun E 1000000) 0 f a .e 0 0 (fun x zm _ _=>tK (fzB zm 60 x r))
theorem kconRL {E:KEnv}{f:Nat}{a:List KV}{r:KV}(hE:KOk E) (h:RunL E f a r):KCS E.P f (kcon a r):=kconF_s hE h
def RubL (E:KEnv) (f:Nat) (a:List KV) (r:KV):Prop:=callR E (krun E 1000000) 0 f a .e 0 0 (fun x zm _ _=>tK (fzG true zm 60 x r))
theorem kconRbL {E:KEnv}{f:Nat}{a:List KV}{r:KV}(hE:KOk E) (h:RubL E f a r):KCSb E.P f (kcon a r):=kconB_s hE h
def ul0:KV:=(.int .i64 (.ofNat 1))
def ul1:KV:=(.int .i64 (.ofNat 4))
def ul2:KV:=(.bool true)
def ul3:KV:=(.tn (.ref true (.cons .sc (.cons .sc (.cons .sc (.cons .sc .nl)))) (.cons ul2 (.cons (.ro true false .sc 0 185 (.pk .u8 185 0)) (.cons ul0 (.cons .nilp .nl))))) .te .te .te .te)
def ul4:KV:=(.cons ul1 (.cons ul0 (.cons (.ro true true .sc 0 1 (.ar 1 .nilp (.tn (.ref true (.arr 64 .sc) (.ar 64 .nilp (.tb .te ul3 .te .te))) .te .te .te .te))) .nl)))
def ul5:KV:=(.pk .u8 32 49335936114469730489519566754954389822356494958623753279784912804745734766010)
def ul6:KV:=(.int .u64 (.ofNat 0))
def ul7:KV:=(.cons ul5 (.cons ul6 (.cons ul6 .nl)))
def ul8:KV:=(.int .i64 (.ofNat 0))
def ul9:KV:=(.cons ul8 .nl)
def ul10:KV:=(.int .u8 (.ofNat 0))
def ul11:KV:=(.int .u32 (.ofNat 0))
def ul12:KV:=(.cons ul11 (.cons ul6 .nl))
def ul13:KV:=(.cons ul10 (.cons ul12 (.cons (.pk .u8 32 0) .nl)))
def ul14:KV:=(.cons (.ar 4 (.cons ul10 (.cons (.pk .u8 32 0) .nl)) .te) .nl)
def ul15:KV:=(.cons ul10 (.cons ul11 (.cons (.ar 4 ul13 .te) ul14)))
def ul16:KV:=(.tn ul13 .te .te .te .te)
def ul17:KV:=(.cons ul10 (.cons ul11 (.cons (.ar 4 ul13 (.tn ul13 ul16 ul16 ul16 .te)) ul14)))
def ul18:KV:=(.cons (.cons ul8 (.cons ul10 .nl)) ul9)
def ul19:KV:=(.tup (.cons (.cons ul0 (.cons (.ro true true (.cons .sc (.cons .sc (.cons (.arr 4 (.cons .sc (.cons (.cons .sc (.cons .sc .nl)) (.cons (.arr 32 .sc) .nl)))) (.cons (.arr 4 (.cons .sc (.cons (.arr 32 .sc) .nl))) .nl)))) 0 1 (.ar 1 ul15 (.tn ul17 .te .te .te .te))) .nl)) (.cons (.ro true true .sc 0 1 (.pk .i64 1 0)) ul18)))
def ul20:KV:=(.pk .u8 32 77773555286223993989197584332479028260158872153580951624184781127730642780543)
def ul21:KV:=(.ref true (.cons .sc (.cons .sc (.cons .sc (.cons .sc .nl)))) (.cons ul2 (.cons (.ro true false .sc 0 32 ul20) (.cons ul0 (.cons .nilp .nl)))))
def ul22:KV:=(.cons ul1 (.cons (.int .i64 (.ofNat 2)) (.cons (.ro true true .sc 0 1 (.ar 1 .nilp (.tn (.ref true (.arr 64 .sc) (.ar 64 .nilp (.tn ul21 .te ul3 .te .te))) .te .te .te .te))) .nl)))
def ul23:KV:=(.cons (.int .u64 (.ofNat 1)) .nl)
def ul24:KV:=(.int .i64 (.ofNat 3))
def ul25:KV:=(.pk .u8 185 1222621298711205098564423862645691712610177135502706148576408300910028730459527103541980821210215902108739056150423535616)
def ul26:KV:=(.tn (.ref true (.cons .sc (.cons .sc (.cons .sc (.cons .sc .nl)))) (.cons ul2 (.cons (.ro true false .sc 0 185 ul25) (.cons ul0 (.cons .nilp .nl))))) .te .te .te .te)
def ul27:KV:=(.cons ul1 (.cons ul24 (.cons (.ro true true .sc 0 1 (.ar 1 .nilp (.tn (.ref true (.arr 64 .sc) (.ar 64 .nilp (.tn ul21 .te ul3 ul26 .te))) .te .te .te .te))) .nl)))
def ul28:KV:=(.cons (.pk .u8 32 49775669123396852030780016671701111976123315433404932463929416542176000552704) (.cons (.int .u64 (.ofNat 1)) ul23))
def ul29:KV:=(.pk .u8 32 54824235146714404905716340570719670350989373507769512854271060994813696181990)
def ul30:KV:=(.cons (.int .u8 (.ofNat 1)) (.cons ul12 (.cons ul29 .nl)))
def ul31:KV:=(.cons ul10 (.cons ul11 (.cons (.ar 4 ul13 (.tn ul30 ul16 ul16 ul16 .te)) ul14)))
def ul32:KV:=(.tup (.cons (.cons ul0 (.cons (.ro true true (.cons .sc (.cons .sc (.cons (.arr 4 (.cons .sc (.cons (.cons .sc (.cons .sc .nl)) (.cons (.arr 32 .sc) .nl)))) (.cons (.arr 4 (.cons .sc (.cons (.arr 32 .sc) .nl))) .nl)))) 0 1 (.ar 1 ul15 (.tn ul31 .te .te .te .te))) .nl)) (.cons (.ro true true .sc 0 1 (.pk .i64 1 1)) ul18)))
def ul33:KV:=(.ref true (.cons .sc (.cons .sc (.cons .sc (.cons .sc .nl)))) (.cons (.bool false) (.cons .nils (.cons (.int .i64 (.ofNat 2)) (.cons ul21 .nl)))))
def ul34:KV:=(.cons ul1 (.cons ul1 (.cons (.ro true true .sc 0 1 (.ar 1 .nilp (.tn (.ref true (.arr 64 .sc) (.ar 64 .nilp (.tn ul33 .te ul3 ul26 .te))) .te .te .te .te))) .nl)))
def ul35:KV:=(.cons ul1 (.cons (.int .i64 (.ofNat 5)) (.cons (.ro true true .sc 0 1 (.ar 1 .nilp (.tn (.ref true (.arr 64 .sc) (.ar 64 .nilp (.tn (.ref true (.cons .sc (.cons .sc (.cons .sc (.cons .sc .nl)))) (.cons ul2 (.cons (.ro true false .sc 0 32 ul20) (.cons ul24 (.cons ul33 .nl))))) .te ul3 ul26 .te))) .te .te .te .te))) .nl)))
def ul36:KV:=(.cons (.bool false) (.cons (.ar 4 (.bool false) .te) .nl))
def ul37:KV:=(.cons ul15 (.cons ul8 ul36))
def ul38:KV:=(.cons ul0 (.cons (.ro true true (.cons (.cons .sc (.cons .sc (.cons (.arr 4 (.cons .sc (.cons (.cons .sc (.cons .sc .nl)) (.cons (.arr 32 .sc) .nl)))) (.cons (.arr 4 (.cons .sc (.cons (.arr 32 .sc) .nl))) .nl)))) (.cons .sc (.cons .sc (.cons (.arr 4 .sc) .nl)))) 0 1 (.ar 1 ul37 (.tn (.cons ul17 (.cons ul8 ul36)) .te .te .te .te))) .nl))
def ul39:KV:=(.cons ul0 (.cons (.ro true true (.cons (.cons .sc (.cons .sc (.cons (.arr 4 (.cons .sc (.cons (.cons .sc (.cons .sc .nl)) (.cons (.arr 32 .sc) .nl)))) (.cons (.arr 4 (.cons .sc (.cons (.arr 32 .sc) .nl))) .nl)))) (.cons .sc (.cons .sc (.cons (.arr 4 .sc) .nl)))) 0 1 (.ar 1 ul37 (.tn (.cons ul31 (.cons ul0 ul36)) .te .te .te .te))) .nl))
def ul40:KV:=(.pk .u8 16 227015987498948502906164254901188771340)
def ul41:KV:=(.pk .u8 32 85605116408068634764354859088308476708945388568925487932757023355439670112230)
def ul42:KV:=(.cons ul40 (.cons ul41 .nl))
def ul43:KV:=(.pk .u8 32 14528991250861404666834535435384615765856667510756806797353855100662256435713)
def ul44:KV:=(.pk .u8 32 29057982501722809333669070870769231531713335021513613594707710201324512871426)
def ul45:KV:=(.pk .u8 32 40534933773443598259307249639579227891330505945742228213652837262567856107753)
def ul46:KV:=(.pk .u8 32 21724942072177058255366736527489229353846122874970786787569582028659785350350)
def ul47:KV:=(.cons ul8 (.cons ul2 (.cons (.ar 4 (.bool false) (.tn ul2 .te .te .te .te)) .nl)))
def ul48:KV:=(.cons ul0 (.cons (.ro true true (.cons (.cons .sc (.cons .sc (.cons (.arr 4 (.cons .sc (.cons (.cons .sc (.cons .sc .nl)) (.cons (.arr 32 .sc) .nl)))) (.cons (.arr 4 (.cons .sc (.cons (.arr 32 .sc) .nl))) .nl)))) (.cons .sc (.cons .sc (.cons (.arr 4 .sc) .nl)))) 0 1 (.ar 1 ul37 (.tn (.cons ul31 ul47) .te .te .te .te))) .nl))
def ul49:KV:=(.cons ul0 (.cons (.ro true true (.cons (.cons .sc (.cons .sc (.cons (.arr 4 (.cons .sc (.cons (.cons .sc (.cons .sc .nl)) (.cons (.arr 32 .sc) .nl)))) (.cons (.arr 4 (.cons .sc (.cons (.arr 32 .sc) .nl))) .nl)))) (.cons .sc (.cons .sc (.cons (.arr 4 .sc) .nl)))) 0 1 (.ar 1 ul37 (.tn (.cons (.cons ul10 (.cons ul11 (.cons (.ar 4 ul13 (.tn (.cons (.int .u8 (.ofNat 1)) (.cons (.cons ul11 ul23) (.cons ul46 .nl))) ul16 ul16 ul16 .te)) ul14))) ul47) .te .te .te .te))) .nl))
def ul50:KV:=(.ro true true (.cons .sc (.cons .sc .nl)) 0 1 (.ar 1 (.cons ul8 (.cons .nils .nl)) (.tn (.cons ul24 (.cons (.ro true true .sc 0 185 ul25) .nl)) .te .te .te .te)))
end
end Go.K
set_option maxRecDepth 10000
namespace Go.K
open Go.Ab Go.RowKit Go.Y Go.Proofs
noncomputable section
def ESL0a:KEnv:=E0s.tab [(273,sCompS),(314,sTab1 sbN),(302,sEnc),(210,sIs 2147483896 2147483648 9117368320)]
theorem okESL0a:KOk ESL0a:=ok0s.tab ⟨kcs273,kcsSub,kcsEnc.cls,kcs210,trivial⟩
def ESL0:KEnv:=ESL0a.olo (fun f=>false)
theorem okESL0:KOk ESL0:=okESL0a.olo _
end
end Go.K
