/- caissonref18.node: the pieces. No condition. -/
import Derived.Test.YtkllahedaiddgaaGreatDoorCPS
import Derived.Test.YtkllahedaiddgaaGreatDoorK34
set_option linter.unusedSimpArgs false
set_option linter.unusedVariables false
set_option maxRecDepth 100000
namespace Go.K
open Go.Ab Go.RowKit Go.Y Go.Proofs
noncomputable section
attribute [local instance 10000] gO
noncomputable def cOf (n:Nat):Code:=match Tryz.prog.funcs[n]? with
 | some fn=>match fn.body with
  | some c=>c
  | none=>.skip
 | none=>.skip
noncomputable def rOf (n:Nat):List ResultVar:=match Tryz.prog.funcs[n]? with
 | some fn=>fn.results.toList
 | none=>[]
noncomputable def mOf (n:Nat):Nat:=znD.getD n 0
abbrev QT:=Exit→List KV→List (Option KBlk)→Nat→Prop
abbrev RT:=KV→List (Option KBlk)→Nat→Prop
noncomputable def bx (t:Nat) (s:Shape) (v:KV):KBlk:=⟨.box t,s,v⟩
noncomputable def pc (E:KEnv) (f:Nat) (l:List Code) (lt li:List Nat) (s:LS) (Q:QT) (R:RT):Prop:=kpre E 60 (mOf f) l (vE s.1) (vZ s.2.1) s.2.2 0 (zht Tryz.prog (rOf f) lt li Q R)
noncomputable def xv:Shape:=.cons .sc (.cons (.cons .sc (.cons .sc .nl)) (.cons (.arr 32 .sc) .nl))
noncomputable def zqk:Shape:=.cons .sc (.cons (.arr 32 .sc) .nl)
noncomputable def zED:Shape:=.cons .sc (.cons .sc (.cons (.arr 4 xv) (.cons (.arr 4 zqk) .nl)))
noncomputable def Z4:Shape:=.cons zED (.cons .sc (.cons .sc (.cons (.arr 4 .sc) .nl)))
noncomputable def Z5:Shape:=.cons .sc (.cons .sc .nl)
structure Un where
 nd:Nd
 sl:Int
 di:Bool
 ch:Nat→Bool
noncomputable def Un.k (x:Un):KV:=.cons x.nd.k (.cons (.int .i64 x.sl) (.cons (.bool x.di) (.cons (kAr 4 (.bool false) fun i=>.bool (x.ch i)) .nl)))
noncomputable def trK (n m:Nat) (c:Nat→Un):KV:=.cons (nI n) (.cons (.ro true false Z4 0 m (.fa m fun i=>(c i).k)) .nl)
noncomputable def zi (n l j:Nat):Nat:=@Nat.rec (fun _=>Nat) j (fun k ih=>Nat.add ih (zQ n k)) l
noncomputable def zql:zg:=fun l K=>on3 l fun n l j=>(zT n=true∧l≤2∧j < 4294967296)∧K (nI (zi n l j))
noncomputable def zvR:zg:=fun l K=>on3 l fun n l i=>(zT n=true∧isS n l i=true)∧K (nI (zw n l i))
noncomputable def vz:KEnv:=EO0.tab [(82,zql),(58,zqp),(117,zvR),(55,zeW)]
noncomputable def jh:List Code:=fl (cOf 110)
noncomputable def zj1:Code:=lpB (blB (jh.getD 7 .skip))
noncomputable def zj2:Code:=lpB (blB (jh.getD 10 .skip))
noncomputable def X6:Code:=lpB (blB (jh.getD 14 .skip))
noncomputable def Z6:Code:=blB ((fl X6).getD 2 .skip)
noncomputable def zj3:Code:=lpB (blB ((fl Z6).getD 4 .skip))
abbrev zj:=KV→Prop
noncomputable def zTr (n m:Nat) (c:Nat→Un):KBlk:=bx 37 Z5 (trK n m c)
noncomputable def zUn (y:Un):KBlk:=bx 105 Z4 y.k
noncomputable def sA (n m:Nat) (c:Nat→Un) (l j:Nat):LS:=(vy (mOf 110) 0 [trK n m c,nI l,nI j],[],0)
noncomputable def pT:KV:=.ptr 0 [] Z5
noncomputable def pU:KV:=.ptr 1 [] Z4
noncomputable def vB (n l j w:Nat) (d:Bool):List KV:=[nI l,nI j,pT,nI n,pU,.bool d,nI w]
noncomputable def sB (n m:Nat) (c:Nat→Un) (y:Un) (l j w:Nat) (d:Bool):LS:=([(1,nI l),(2,nI j),(3,pT),(7,nI n),(8,pU),(9,.bool d),(10,nI w)],[(0,zTr n m c),(1,zUn y)],2)
noncomputable def zB2 (n m:Nat) (c:Nat→Un) (y:Un):List (Option KBlk):=[some (zTr n m c),some (zUn y)]
noncomputable def pA (n m:Nat) (c:Nat→Un) (l j:Nat) (Q:QT) (R:zj):Prop:=pc vz 110 (jh.take 7) [1,2,3,7,8,9,10] [0,1] (sA n m c l j) Q fun v _ _=>R v
noncomputable def eqN (a b:Nat):Bool:=eqI (.ofNat a) (.ofNat b)
theorem eA (n m:Nat) (c:Nat→Un) (l j:Nat) (Q:QT) (R:zj):pA n m c l j Q R=((zT n=true∧l≤2∧j < 4294967296)∧cnd (ixB (.ofNat (zi n l j)) m) (cnd (b63 (c (Nat.add 0 (zi n l j))).nd.lv) (alt (!eqN (c (Nat.add 0 (zi n l j))).nd.lv l) (R (nI 17))
 (cnd (b63 (c (Nat.add 0 (zi n l j))).nd.ix) (alt (!eqN (c (Nat.add 0 (zi n l j))).nd.ix j) (R (nI 17)) ((zT n=true∧(c (Nat.add 0 (zi n l j))).nd.lv < 256∧(c (Nat.add 0 (zi n l j))).nd.ix < 4294967296)∧alt (!eZ ((c (Nat.add 0 (zi n l j))).nd.nf.fe n)) (R (nI 17)) (Q .normal (vB n l j 0 false) (zB2 n m c (c (Nat.add 0 (zi n l j)))) 2))))))):=by kernel_rfl
noncomputable def pB (n m:Nat) (c:Nat→Un) (y:Un) (l j w:Nat) (d:Bool) (Q:QT) (R:zj):Prop:=pc vz 110 (fl zj1) [1,2,3,7,8,9,10] [0,1] (sB n m c y l j w d) Q fun v _ _=>R v
noncomputable def fBn (n m:Nat) (c:Nat→Un) (y:Un) (l j w:Nat) (d:Bool) (Q:QT) (R:zj) (bad:Prop→Prop):Prop :=
 alt (y.ch w) (bad (Q .normal (vB n l j (Nat.succ w) (@Bool.rec (fun _=>Bool) (y.ch w) true d)) (zB2 n m c y) 2)) (Q .normal (vB n l j (Nat.succ w) (@Bool.rec (fun _=>Bool) (y.ch w) true d)) (zB2 n m c y) 2)
noncomputable def ya (y:Un) (l w:Nat) (R:zj) (q:Prop):Prop:=@Nat.rec (fun _=>Prop) (alt (eZ (y.nd.rc w).st) (R (nI 9)) q) (fun _ _=>R (nI 9)) l
theorem zv8 (n m:Nat) (c:Nat→Un) (y:Un) (l j:Nat) (Q:QT) (R:zj):pB n m c y 0 j 0 false Q R=fBn n m c y 0 j 0 false Q R (ya y 0 0 R):=by kernel_rfl
theorem zv9 (n m:Nat) (c:Nat→Un) (y:Un) (l j:Nat) (Q:QT) (R:zj):pB n m c y 0 j 0 true Q R=fBn n m c y 0 j 0 true Q R (ya y 0 0 R):=by kernel_rfl
theorem zwa (n m:Nat) (c:Nat→Un) (y:Un) (l j:Nat) (Q:QT) (R:zj):pB n m c y (Nat.succ l) j 0 false Q R=fBn n m c y (Nat.succ l) j 0 false Q R (ya y (Nat.succ l) 0 R):=by kernel_rfl
theorem zwb (n m:Nat) (c:Nat→Un) (y:Un) (l j:Nat) (Q:QT) (R:zj):pB n m c y (Nat.succ l) j 0 true Q R=fBn n m c y (Nat.succ l) j 0 true Q R (ya y (Nat.succ l) 0 R):=by kernel_rfl
theorem zwc (n m:Nat) (c:Nat→Un) (y:Un) (l j:Nat) (Q:QT) (R:zj):pB n m c y 0 j 1 false Q R=fBn n m c y 0 j 1 false Q R (ya y 0 1 R):=by kernel_rfl
theorem zwd (n m:Nat) (c:Nat→Un) (y:Un) (l j:Nat) (Q:QT) (R:zj):pB n m c y 0 j 1 true Q R=fBn n m c y 0 j 1 true Q R (ya y 0 1 R):=by kernel_rfl
theorem zwe (n m:Nat) (c:Nat→Un) (y:Un) (l j:Nat) (Q:QT) (R:zj):pB n m c y (Nat.succ l) j 1 false Q R=fBn n m c y (Nat.succ l) j 1 false Q R (ya y (Nat.succ l) 1 R):=by kernel_rfl
theorem zwf (n m:Nat) (c:Nat→Un) (y:Un) (l j:Nat) (Q:QT) (R:zj):pB n m c y (Nat.succ l) j 1 true Q R=fBn n m c y (Nat.succ l) j 1 true Q R (ya y (Nat.succ l) 1 R):=by kernel_rfl
theorem zwg (n m:Nat) (c:Nat→Un) (y:Un) (l j:Nat) (Q:QT) (R:zj):pB n m c y 0 j 2 false Q R=fBn n m c y 0 j 2 false Q R (ya y 0 2 R):=by kernel_rfl
theorem zwh (n m:Nat) (c:Nat→Un) (y:Un) (l j:Nat) (Q:QT) (R:zj):pB n m c y 0 j 2 true Q R=fBn n m c y 0 j 2 true Q R (ya y 0 2 R):=by kernel_rfl
theorem zwi (n m:Nat) (c:Nat→Un) (y:Un) (l j:Nat) (Q:QT) (R:zj):pB n m c y (Nat.succ l) j 2 false Q R=fBn n m c y (Nat.succ l) j 2 false Q R (ya y (Nat.succ l) 2 R):=by kernel_rfl
theorem zwj (n m:Nat) (c:Nat→Un) (y:Un) (l j:Nat) (Q:QT) (R:zj):pB n m c y (Nat.succ l) j 2 true Q R=fBn n m c y (Nat.succ l) j 2 true Q R (ya y (Nat.succ l) 2 R):=by kernel_rfl
theorem zwk (n m:Nat) (c:Nat→Un) (y:Un) (l j:Nat) (Q:QT) (R:zj):pB n m c y 0 j 3 false Q R=fBn n m c y 0 j 3 false Q R (ya y 0 3 R):=by kernel_rfl
theorem zwl (n m:Nat) (c:Nat→Un) (y:Un) (l j:Nat) (Q:QT) (R:zj):pB n m c y 0 j 3 true Q R=fBn n m c y 0 j 3 true Q R (ya y 0 3 R):=by kernel_rfl
theorem zwm (n m:Nat) (c:Nat→Un) (y:Un) (l j:Nat) (Q:QT) (R:zj):pB n m c y (Nat.succ l) j 3 false Q R=fBn n m c y (Nat.succ l) j 3 false Q R (ya y (Nat.succ l) 3 R):=by kernel_rfl
theorem zwn (n m:Nat) (c:Nat→Un) (y:Un) (l j:Nat) (Q:QT) (R:zj):pB n m c y (Nat.succ l) j 3 true Q R=fBn n m c y (Nat.succ l) j 3 true Q R (ya y (Nat.succ l) 3 R):=by kernel_rfl
theorem eB {n m:Nat}{c:Nat→Un}{y:Un}{l j w:Nat}{d:Bool}{Q:QT}{R:zj}(hw:w < 4):pB n m c y l j w d Q R=fBn n m c y l j w d Q R (ya y l w R):=by
 match w,hw,l,d with
 | 0,_,0,false=>exact zv8 n m c y 0 j Q R
 | 0,_,0,true=>exact zv9 n m c y 0 j Q R
 | 0,_,l + 1,false=>exact zwa n m c y l j Q R
 | 0,_,l + 1,true=>exact zwb n m c y l j Q R
 | 1,_,0,false=>exact zwc n m c y 0 j Q R
 | 1,_,0,true=>exact zwd n m c y 0 j Q R
 | 1,_,l + 1,false=>exact zwe n m c y l j Q R
 | 1,_,l + 1,true=>exact zwf n m c y l j Q R
 | 2,_,0,false=>exact zwg n m c y 0 j Q R
 | 2,_,0,true=>exact zwh n m c y 0 j Q R
 | 2,_,l + 1,false=>exact zwi n m c y l j Q R
 | 2,_,l + 1,true=>exact zwj n m c y l j Q R
 | 3,_,0,false=>exact zwk n m c y 0 j Q R
 | 3,_,0,true=>exact zwl n m c y 0 j Q R
 | 3,_,l + 1,false=>exact zwm n m c y l j Q R
 | 3,_,l + 1,true=>exact zwn n m c y l j Q R
theorem eB4 (n m:Nat) (c:Nat→Un) (y:Un) (l j:Nat) (d:Bool) (Q:QT) (R:zj):pB n m c y l j 4 d Q R=Q (.exit 0) (vB n l j 4 d) (zB2 n m c y) 2:=by kernel_rfl
noncomputable def vC (n l j p w:Nat) (d:Bool):List KV:=[nI l,nI j,pT,nI n,pU,.bool d,nI p,nI w]
noncomputable def sC (n m:Nat) (c:Nat→Un) (y:Un) (l j p w:Nat) (d:Bool):LS:=([(1,nI l),(2,nI j),(3,pT),(7,nI n),(8,pU),(9,.bool d),(11,nI p),(12,nI w)],[(0,zTr n m c),(1,zUn y)],2)
noncomputable def pC (n m:Nat) (c:Nat→Un) (y:Un) (l j:Nat) (d:Bool) (Q:QT) (R:zj):Prop:=pc vz 110 ((jh.drop 8).take 2) [1,2,3,7,8,9,11,12] [0,1] (sB n m c y l j 4 d) Q fun v _ _=>R v
theorem eC (n m:Nat) (c:Nat→Un) (y:Un) (l j:Nat) (d:Bool) (Q:QT) (R:zj):pC n m c y l j d Q R=((zT n=true∧isS n l j=true)∧Q .normal (vC n l j (zw n l j) 0 d) (zB2 n m c y) 2):=by kernel_rfl
noncomputable def pD (n m:Nat) (c:Nat→Un) (y:Un) (l j p w:Nat) (d:Bool) (Q:QT) (R:zj):Prop:=pc vz 110 (fl zj2) [1,2,3,7,8,9,11,12] [0,1] (sC n m c y l j p w d) Q fun v _ _=>R v
noncomputable def ltN (a b:Nat):Bool:=ltI (.ofNat a) (.ofNat b)
theorem eD0 (n m:Nat) (c:Nat→Un) (y:Un) (j p w:Nat) (d:Bool) (Q:QT) (R:zj):pD n m c y 0 j p w d Q R=alt (ltN w p) (Q (.exit 2) (vC n 0 j p w d) (zB2 n m c y) 2) (Q (.exit 2) (vC n 0 j p w d) (zB2 n m c y) 2):=by kernel_rfl
noncomputable def j4 (j w:Nat):Nat:=Nat.add (Nat.mul 4 j) w
theorem eDt (n m:Nat) (c:Nat→Un) (y:Un) (l j p w:Nat) (Q:QT) (R:zj):pD n m c y (Nat.succ l) j p w true Q R=alt (ltN w p) (cnd (b63 (Nat.add w 1)) (Q .normal (vC n (Nat.succ l) j p (Nat.add w 1) true) (zB2 n m c y) 2)) (Q (.exit 2) (vC n (Nat.succ l) j p w true) (zB2 n m c y) 2):=by kernel_rfl
theorem eDf (n m:Nat) (c:Nat→Un) (y:Un) (l j p w:Nat) (Q:QT) (R:zj):pD n m c y (Nat.succ l) j p w false Q R=alt (ltN w p) (cnd (b63 (Nat.sub (Nat.succ l) 1)) (cnd (b63 (Nat.mul 4 j)) (cnd (b63 (j4 j w)) ((zT n=true∧l≤2∧j4 j w < 4294967296)∧cnd (ixB (.ofNat (zi n l (j4 j w))) m) (cnd (b63 (Nat.add w 1)) (Q .normal (vC n (Nat.succ l) j p (Nat.add w 1) (c (Nat.add 0 (zi n l (j4 j w)))).di) (zB2 n m c y) 2)))))) (Q (.exit 2) (vC n (Nat.succ l) j p w false) (zB2 n m c y) 2):=by kernel_rfl
noncomputable def vF (n l j p w:Nat):List KV:=[nI l,nI j,pT,nI n,pU,nI p,nI w]
noncomputable def tF (n l j p w:Nat):List (Nat×KV):=[(1,nI l),(2,nI j),(3,pT),(7,nI n),(8,pU),(11,nI p),(13,nI w)]
noncomputable def sF (n m:Nat) (c:Nat→Un) (y:Un) (l j p w:Nat):LS:=(tF n l j p w,[(0,zTr n m c),(1,zUn y)],2)
noncomputable def pE (n m:Nat) (c:Nat→Un) (y:Un) (l j p w:Nat) (d:Bool) (Q:QT) (R:zj):Prop:=pc vz 110 ((jh.drop 11).take 3) [1,2,3,7,8,11,13] [0,1] (sC n m c y l j p w d) Q fun v _ _=>R v
theorem eE (n m:Nat) (c:Nat→Un) (y:Un) (l j p w:Nat) (d:Bool) (Q:QT) (R:zj):pE n m c y l j p w d Q R=alt (!ZU y.di d) (R (nI 9)) (Q .normal (vF n l j p 0) (zB2 n m c y) 2):=by kernel_rfl
noncomputable def pF (n m:Nat) (c:Nat→Un) (y:Un) (l j p w:Nat) (Q:QT) (R:zj):Prop:=pc vz 110 ((fl X6).take 2) [1,2,3,7,8,11,13] [0,1] (sF n m c y l j p w) Q fun v _ _=>R v
theorem eF0 (n m:Nat) (c:Nat→Un) (y:Un) (j p w:Nat) (Q:QT) (R:zj):pF n m c y 0 j p w Q R=alt (ltN w p) (Q (.exit 4) (vF n 0 j p w) (zB2 n m c y) 2) (Q (.exit 4) (vF n 0 j p w) (zB2 n m c y) 2):=by kernel_rfl
theorem eFs (n m:Nat) (c:Nat→Un) (y:Un) (l j p w:Nat) (Q:QT) (R:zj):pF n m c y (Nat.succ l) j p w Q R=alt (ltN w p) (Q .normal (vF n (Nat.succ l) j p w) (zB2 n m c y) 2) (Q (.exit 4) (vF n (Nat.succ l) j p w) (zB2 n m c y) 2):=by kernel_rfl
noncomputable def pV:KV:=.ptr 2 [] Z4
noncomputable def pW:KV:=.ptr 3 [] zqk
noncomputable def vG (n l j p w:Nat) (u:Bool) (i:Nat):List KV:=[nI l,nI j,pT,nI n,pU,nI p,nI w,pV,pW,.bool u,nI i]
noncomputable def sG (n m:Nat) (c:Nat→Un) (y z:Un) (l j p w:Nat) (u:Bool) (i:Nat):LS:=(tF n l j p w++[(14,pV),(15,pW),(16,.bool u),(17,nI i)],[(0,zTr n m c),(1,zUn y),(2,zUn z),(3,bx 99 zqk enZ)],4)
noncomputable def zG (n m:Nat) (c:Nat→Un) (y z:Un):List (Option KBlk):=[some (zTr n m c),some (zUn y),some (zUn z),some (bx 99 zqk enZ)]
noncomputable def pG (n m:Nat) (c:Nat→Un) (y:Un) (l j p w:Nat) (Q:QT) (R:zj):Prop:=pc vz 110 ((fl Z6).take 4) [1,2,3,7,8,11,13,14,15,16,17] [0,1,2,3] (sF n m c y l j p w) Q fun v _ _=>R v
theorem eG (n m:Nat) (c:Nat→Un) (y:Un) (l j p w:Nat) (Q:QT) (R:zj):pG n m c y (Nat.succ l) j p w Q R=cnd (b63 (Nat.sub (Nat.succ l) 1)) (cnd (b63 (Nat.mul 4 j)) (cnd (b63 (j4 j w)) ((zT n=true∧l≤2∧j4 j w < 4294967296)∧cnd (ixB (.ofNat (zi n l (j4 j w))) m) (Q .normal (vG n (Nat.succ l) j p w false 0) (zG n m c y (c (Nat.add 0 (zi n l (j4 j w))))) 4)))):=by kernel_rfl
noncomputable def gtZ (a:Nat):Bool:=ltI (.ofNat 0) (.ofNat a)
noncomputable def pH (n m:Nat) (c:Nat→Un) (y z:Un) (l j p w:Nat) (u:Bool) (i:Nat) (Q:QT) (R:zj):Prop:=pc vz 110 (fl zj3) [1,2,3,7,8,11,13,14,15,16,17] [0,1,2,3] (sG n m c y z l j p w u i) Q fun v _ _=>R v
noncomputable def fHx (n m:Nat) (c:Nat→Un) (y z:Un) (l j p w i:Nat) (u:Bool) (Q:QT):Prop:=@Bool.rec (fun _=>Prop) (alt (gtZ (z.nd.rc i).st) (Q .normal (vG n l j p w true (Nat.succ i)) (zG n m c y z) 4) (Q .normal (vG n l j p w (gtZ (z.nd.en i).st) (Nat.succ i)) (zG n m c y z) 4)) (Q .normal (vG n l j p w true (Nat.succ i)) (zG n m c y z) 4) u
theorem zA2 (n m:Nat) (c:Nat→Un) (y z:Un) (l j p w:Nat) (Q:QT) (R:zj):pH n m c y z l j p w false 0 Q R=fHx n m c y z l j p w 0 false Q:=by kernel_rfl
theorem zA3 (n m:Nat) (c:Nat→Un) (y z:Un) (l j p w:Nat) (Q:QT) (R:zj):pH n m c y z l j p w true 0 Q R=fHx n m c y z l j p w 0 true Q:=by kernel_rfl
theorem zA4 (n m:Nat) (c:Nat→Un) (y z:Un) (l j p w:Nat) (Q:QT) (R:zj):pH n m c y z l j p w false 1 Q R=fHx n m c y z l j p w 1 false Q:=by kernel_rfl
theorem zA5 (n m:Nat) (c:Nat→Un) (y z:Un) (l j p w:Nat) (Q:QT) (R:zj):pH n m c y z l j p w true 1 Q R=fHx n m c y z l j p w 1 true Q:=by kernel_rfl
theorem zA6 (n m:Nat) (c:Nat→Un) (y z:Un) (l j p w:Nat) (Q:QT) (R:zj):pH n m c y z l j p w false 2 Q R=fHx n m c y z l j p w 2 false Q:=by kernel_rfl
theorem zA7 (n m:Nat) (c:Nat→Un) (y z:Un) (l j p w:Nat) (Q:QT) (R:zj):pH n m c y z l j p w true 2 Q R=fHx n m c y z l j p w 2 true Q:=by kernel_rfl
theorem zA8 (n m:Nat) (c:Nat→Un) (y z:Un) (l j p w:Nat) (Q:QT) (R:zj):pH n m c y z l j p w false 3 Q R=fHx n m c y z l j p w 3 false Q:=by kernel_rfl
theorem zA9 (n m:Nat) (c:Nat→Un) (y z:Un) (l j p w:Nat) (Q:QT) (R:zj):pH n m c y z l j p w true 3 Q R=fHx n m c y z l j p w 3 true Q:=by kernel_rfl
theorem eH {n m:Nat}{c:Nat→Un}{y z:Un}{l j p w i:Nat}{u:Bool}{Q:QT}{R:zj}(hi:i < 4):pH n m c y z l j p w u i Q R=fHx n m c y z l j p w i u Q:=by
 match i,hi,u with
 | 0,_,false=>exact zA2 n m c y z l j p w Q R
 | 0,_,true=>exact zA3 n m c y z l j p w Q R
 | 1,_,false=>exact zA4 n m c y z l j p w Q R
 | 1,_,true=>exact zA5 n m c y z l j p w Q R
 | 2,_,false=>exact zA6 n m c y z l j p w Q R
 | 2,_,true=>exact zA7 n m c y z l j p w Q R
 | 3,_,false=>exact zA8 n m c y z l j p w Q R
 | 3,_,true=>exact zA9 n m c y z l j p w Q R
theorem eH4 (n m:Nat) (c:Nat→Un) (y z:Un) (l j p w:Nat) (u:Bool) (Q:QT) (R:zj):pH n m c y z l j p w u 4 Q R=Q (.exit 6) (vG n l j p w u 4) (zG n m c y z) 4:=by kernel_rfl
noncomputable def eqB (n:Nat) (f g:Nat→Nat):Bool:=@Nat.rec (fun _=>Bool) true (fun i ih=>nd ih (eqN (f i) (g i))) n
noncomputable def En.eqb (a b:En):Bool:=nd (eqN a.st b.st) (nd (eqB 32 (nN a.dg) (nN b.dg)) true)
noncomputable def pI (n m:Nat) (c:Nat→Un) (y z:Un) (l j p w:Nat) (u:Bool) (Q:QT) (R:zj):Prop:=pc vz 110 ((fl Z6).drop 5) [1,2,3,7,8,11,13] [0,1] (sG n m c y z l j p w u 4) Q fun v _ _=>R v
noncomputable def Un.w (z:Un) (s:Int) (d:Bool):Un:=⟨z.nd,s,d,z.ch⟩
noncomputable def fIx (n m:Nat) (c:Nat→Un) (y z:Un) (l j p w:Nat) (st:Nat) (Q:QT) (R:zj):Prop:=zrl z.nd.nf∧alt (!(y.nd.en w).eqb ⟨st,z.nd.nf.dg⟩) (R (nI 9)) (Q .normal (vF n l j p w) (zB2 n m c y) 4)
theorem zEI (n m:Nat) (c:Nat→Un) (y z:Un) (l j p:Nat) (Q:QT) (R:zj):pI n m c y z l j p 0 false Q R=alt (!(y.nd.en 0).zb) (R (nI 9)) (Q .normal (vF n l j p 0) (zB2 n m c y) 4):=by kernel_rfl
theorem zwo (n m:Nat) (c:Nat→Un) (y z:Un) (l j p:Nat) (Q:QT) (R:zj):pI n m c y (z.w 0 false) l j p 0 true Q R=fIx n m c y z l j p 0 1 Q R:=by kernel_rfl
theorem zwp (n m:Nat) (c:Nat→Un) (y z:Un) (l j p:Nat) (Q:QT) (R:zj):pI n m c y (z.w 0 true) l j p 0 true Q R=fIx n m c y z l j p 0 2 Q R:=by kernel_rfl
theorem zwq (n m:Nat) (c:Nat→Un) (y z:Un) (l j p:Nat) (Q:QT) (R:zj):pI n m c y (z.w 1 false) l j p 0 true Q R=fIx n m c y z l j p 0 2 Q R:=by kernel_rfl
theorem zwr (n m:Nat) (c:Nat→Un) (y z:Un) (l j p:Nat) (Q:QT) (R:zj):pI n m c y (z.w 1 true) l j p 0 true Q R=fIx n m c y z l j p 0 1 Q R:=by kernel_rfl
theorem zEJ (n m:Nat) (c:Nat→Un) (y z:Un) (l j p:Nat) (Q:QT) (R:zj):pI n m c y z l j p 1 false Q R=alt (!(y.nd.en 1).zb) (R (nI 9)) (Q .normal (vF n l j p 1) (zB2 n m c y) 4):=by kernel_rfl
theorem zws (n m:Nat) (c:Nat→Un) (y z:Un) (l j p:Nat) (Q:QT) (R:zj):pI n m c y (z.w 0 false) l j p 1 true Q R=fIx n m c y z l j p 1 1 Q R:=by kernel_rfl
theorem zwt (n m:Nat) (c:Nat→Un) (y z:Un) (l j p:Nat) (Q:QT) (R:zj):pI n m c y (z.w 0 true) l j p 1 true Q R=fIx n m c y z l j p 1 2 Q R:=by kernel_rfl
theorem zwu (n m:Nat) (c:Nat→Un) (y z:Un) (l j p:Nat) (Q:QT) (R:zj):pI n m c y (z.w 1 false) l j p 1 true Q R=fIx n m c y z l j p 1 2 Q R:=by kernel_rfl
theorem zwv (n m:Nat) (c:Nat→Un) (y z:Un) (l j p:Nat) (Q:QT) (R:zj):pI n m c y (z.w 1 true) l j p 1 true Q R=fIx n m c y z l j p 1 1 Q R:=by kernel_rfl
theorem zEK (n m:Nat) (c:Nat→Un) (y z:Un) (l j p:Nat) (Q:QT) (R:zj):pI n m c y z l j p 2 false Q R=alt (!(y.nd.en 2).zb) (R (nI 9)) (Q .normal (vF n l j p 2) (zB2 n m c y) 4):=by kernel_rfl
theorem zww (n m:Nat) (c:Nat→Un) (y z:Un) (l j p:Nat) (Q:QT) (R:zj):pI n m c y (z.w 0 false) l j p 2 true Q R=fIx n m c y z l j p 2 1 Q R:=by kernel_rfl
theorem zwx (n m:Nat) (c:Nat→Un) (y z:Un) (l j p:Nat) (Q:QT) (R:zj):pI n m c y (z.w 0 true) l j p 2 true Q R=fIx n m c y z l j p 2 2 Q R:=by kernel_rfl
theorem zwy (n m:Nat) (c:Nat→Un) (y z:Un) (l j p:Nat) (Q:QT) (R:zj):pI n m c y (z.w 1 false) l j p 2 true Q R=fIx n m c y z l j p 2 2 Q R:=by kernel_rfl
theorem zwz (n m:Nat) (c:Nat→Un) (y z:Un) (l j p:Nat) (Q:QT) (R:zj):pI n m c y (z.w 1 true) l j p 2 true Q R=fIx n m c y z l j p 2 1 Q R:=by kernel_rfl
theorem zEL (n m:Nat) (c:Nat→Un) (y z:Un) (l j p:Nat) (Q:QT) (R:zj):pI n m c y z l j p 3 false Q R=alt (!(y.nd.en 3).zb) (R (nI 9)) (Q .normal (vF n l j p 3) (zB2 n m c y) 4):=by kernel_rfl
theorem zwA (n m:Nat) (c:Nat→Un) (y z:Un) (l j p:Nat) (Q:QT) (R:zj):pI n m c y (z.w 0 false) l j p 3 true Q R=fIx n m c y z l j p 3 1 Q R:=by kernel_rfl
theorem zwB (n m:Nat) (c:Nat→Un) (y z:Un) (l j p:Nat) (Q:QT) (R:zj):pI n m c y (z.w 0 true) l j p 3 true Q R=fIx n m c y z l j p 3 2 Q R:=by kernel_rfl
theorem zwC (n m:Nat) (c:Nat→Un) (y z:Un) (l j p:Nat) (Q:QT) (R:zj):pI n m c y (z.w 1 false) l j p 3 true Q R=fIx n m c y z l j p 3 2 Q R:=by kernel_rfl
theorem zwD (n m:Nat) (c:Nat→Un) (y z:Un) (l j p:Nat) (Q:QT) (R:zj):pI n m c y (z.w 1 true) l j p 3 true Q R=fIx n m c y z l j p 3 1 Q R:=by kernel_rfl
noncomputable def Un.stS (z:Un):Nat:=@Int.rec (fun _=>Nat) (fun a=>@Nat.rec (fun _=>Nat) (@Bool.rec (fun _=>Nat) 1 2 z.di) (fun _ _=>@Bool.rec (fun _=>Nat) 2 1 z.di) a) (fun _=>0) z.sl
theorem eI0 {n m:Nat}{c:Nat→Un}{y z:Un}{l j p w:Nat}{Q:QT}{R:zj}(hw:w < 4):pI n m c y z l j p w false Q R=alt (!(y.nd.en w).zb) (R (nI 9)) (Q .normal (vF n l j p w) (zB2 n m c y) 4):=by
 match w,hw with
 | 0,_=>exact zEI n m c y z l j p Q R
 | 1,_=>exact zEJ n m c y z l j p Q R
 | 2,_=>exact zEK n m c y z l j p Q R
 | 3,_=>exact zEL n m c y z l j p Q R
theorem eI1 {n m:Nat}{c:Nat→Un}{y z:Un}{l j p w:Nat}{Q:QT}{R:zj}(hw:w < 4) (hz:z.sl=0∨z.sl=1):pI n m c y z l j p w true Q R=fIx n m c y z l j p w z.stS Q R:=by
 obtain⟨nd,sl,di,ch⟩:=z
 rcases (show sl=0∨sl=1 from hz) with rfl | rfl
 ·match w,hw,di with
  | 0,_,false=>exact zwo n m c y ⟨nd,0,false,ch⟩ l j p Q R
  | 0,_,true=>exact zwp n m c y ⟨nd,0,true,ch⟩ l j p Q R
  | 1,_,false=>exact zws n m c y ⟨nd,0,false,ch⟩ l j p Q R
  | 1,_,true=>exact zwt n m c y ⟨nd,0,true,ch⟩ l j p Q R
  | 2,_,false=>exact zww n m c y ⟨nd,0,false,ch⟩ l j p Q R
  | 2,_,true=>exact zwx n m c y ⟨nd,0,true,ch⟩ l j p Q R
  | 3,_,false=>exact zwA n m c y ⟨nd,0,false,ch⟩ l j p Q R
  | 3,_,true=>exact zwB n m c y ⟨nd,0,true,ch⟩ l j p Q R
 ·match w,hw,di with
  | 0,_,false=>exact zwq n m c y ⟨nd,1,false,ch⟩ l j p Q R
  | 0,_,true=>exact zwr n m c y ⟨nd,1,true,ch⟩ l j p Q R
  | 1,_,false=>exact zwu n m c y ⟨nd,1,false,ch⟩ l j p Q R
  | 1,_,true=>exact zwv n m c y ⟨nd,1,true,ch⟩ l j p Q R
  | 2,_,false=>exact zwy n m c y ⟨nd,1,false,ch⟩ l j p Q R
  | 2,_,true=>exact zwz n m c y ⟨nd,1,true,ch⟩ l j p Q R
  | 3,_,false=>exact zwC n m c y ⟨nd,1,false,ch⟩ l j p Q R
  | 3,_,true=>exact zwD n m c y ⟨nd,1,true,ch⟩ l j p Q R
noncomputable def pJ (n m:Nat) (c:Nat→Un) (y:Un) (l j p w:Nat) (Q:QT) (R:zj):Prop:=pc vz 110 ((fl X6).drop 3) [1,2,3,7,8,11,13] [0,1] (sF n m c y l j p w) Q fun v _ _=>R v
theorem eJ (n m:Nat) (c:Nat→Un) (y:Un) (l j p w:Nat) (Q:QT) (R:zj):pJ n m c y l j p w Q R=cnd (b63 (Nat.add w 1)) (Q .normal (vF n l j p (Nat.add w 1)) (zB2 n m c y) 2):=by kernel_rfl
noncomputable def pL (n m:Nat) (c:Nat→Un) (y:Un) (l j p w:Nat) (Q:QT) (R:zj):Prop:=pc vz 110 (jh.drop 15) [] [] (sF n m c y l j p w) Q fun v _ _=>R v
theorem eL (n m:Nat) (c:Nat→Un) (y:Un) (l j p w:Nat) (Q:QT) (R:zj):pL n m c y l j p w Q R=R (nI 0):=by kernel_rfl
end
end Go.K
