/- disks: data. No condition. -/
import Derived.Test.YtkllahedaiddgaaGreatDoorUG5
import Derived.Test.YtkllahedaiddgaaGreatDoorSC3
set_option linter.unusedSimpArgs false
set_option linter.unusedVariables false
set_option maxRecDepth 100000
namespace Go.K
open Go.Ab Go.RowKit Go.Y Go.Proofs
noncomputable section
attribute [local instance 10000] gO
structure Vr where
 th:Bool
 ln:Nat
 by':Nat→Nat
 nm:Nat
noncomputable def roN (n:Nat) (b:Nat→Nat):KV:=.ro true false .sc 0 n (.fa n fun i=>kU8 (b i))
noncomputable def zbv (n:Nat) (b:Nat→Nat):KV:=.ro true true .sc 0 n (.fa n fun i=>kU8 (b i))
noncomputable def shV:Shape:=.cons .sc (.cons .sc (.cons .sc (.cons .sc .nl)))
noncomputable def shC:Shape:=.arr 64 .sc
noncomputable def qD:Shape:=.cons .sc (.cons .sc (.cons .sc .nl))
noncomputable def Vr.c (v:Vr):KV:=.cons (.bool v.th) (.cons (roN v.ln v.by') (.cons (nI v.nm) (.cons .unk .nl)))
noncomputable def Vr.k (v:Vr):KV:=.ref true shV v.c
noncomputable def Zl (o:Option Vr):KV:=match o with
 | none=>.nilp
 | some v=>v.k
noncomputable def vi (o:Option Vr):KV:=.clo (Zl o)
abbrev Ck:=Nat→Nat→Option Vr
noncomputable def chK (f:Ck) (j:Nat):KV:=.ref true shC (.fa 64 fun i=>vi (f j i))
noncomputable def zp3 (q:Nat) (f:Ck):KV:=.ro true false .sc 0 q (.fa q (chK f))
noncomputable def dkK (L c q:Nat) (f:Ck):KV:=.cons (nI L) (.cons (nI c) (.cons (zp3 q f) .nl))
noncomputable def Jr (o:Option Vr):Nat:=match o with
 | none=>0
 | some v=>v.nm
noncomputable def lnO (o:Option Vr):Nat:=match o with
 | none=>0
 | some v=>@Bool.rec (fun _=>Nat) 0 v.ln v.th
noncomputable def thO (o:Option Vr):Bool:=match o with
 | none=>false
 | some v=>v.th
noncomputable def byO (o:Option Vr):Nat→Nat:=match o with
 | none=>fun _=>0
 | some v=>v.by'
noncomputable def erO (o:Option Vr):Nat:=@Bool.rec (fun _=>Nat) 11 0 (thO o)
noncomputable def wI (o:Option Vr):KV:=.tup (.cons (zbv (lnO o) (byO o)) (.cons (nI (erO o)) .nl))
end
end Go.K
