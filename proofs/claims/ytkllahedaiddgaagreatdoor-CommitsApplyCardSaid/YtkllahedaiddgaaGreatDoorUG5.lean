/- caissonref14: New. No condition. -/
import Derived.Test.YtkllahedaiddgaaGreatDoorPV0
import Derived.Test.YtkllahedaiddgaaGreatDoorUG3
import Derived.Test.YtkllahedaiddgaaGreatDoorRW
set_option linter.unusedSimpArgs false
set_option linter.unusedVariables false
set_option maxRecDepth 100000
namespace Go.K
open Go.Ab Go.RowKit Go.Y Go.Proofs
noncomputable section
attribute [local instance 10000] gO
noncomputable def z32:List Nat:=[0,0,0,0,0,0,0,0,0,0,0,0,0,0,0,0,0,0,0,0,0,0,0,0,0,0,0,0,0,0,0,0]
noncomputable def zRc:Rc:=⟨0,0,0,z32⟩
attribute [local irreducible] kpre cOf mOf rOf JL zp xO hS wK xv
end
end Go.K
set_option maxRecDepth 100000
namespace Go.K
open Go.Ab Go.RowKit Go.Y Go.Proofs
noncomputable section
attribute [local instance 10000] gO
attribute [local irreducible] kpre cOf mOf rOf JL zp xO hS wK xv
end
end Go.K
set_option maxRecDepth 100000
namespace Go.K
open Go.Ab Go.RowKit Go.Y Go.Proofs
noncomputable section
attribute [local instance 10000] gO
noncomputable def dsL (a:Nat):List Nat:=lsF 32 fun i=>Nat.mod (Nat.add a (Nat.mod (Nat.mul 7 i) 256)) 256
noncomputable def rcT (a b:Nat) (x:Nat):Rc:=⟨a % 3,Nat.mod (b % 8) 4294967296,Nat.mod (Nat.mul (Nat.mod b 18446744073709551616) 257) 18446744073709551616,dsL x⟩
noncomputable def zh7 (a b:Nat):Rc:=if a % 3=0 then zRc else rcT a b b
structure Md where
 nb:Nat
 p:Nat
 pp:Nat→Nat→Nat
 q:Nat
 ss:Nat→Nat
noncomputable def Md.k (x:Md):KV:=.cons (kU8 x.nb) (.cons (roK (.arr 2 .sc) x.p fun i=>.fa 2 fun j=>kU8 (x.pp i j)) (.cons (roK .sc x.q fun i=>kU8 (x.ss i)) .nl))
end
end Go.K
set_option maxRecDepth 100000
namespace Go.K
open Go.Ab Go.RowKit Go.Y Go.Proofs
noncomputable section
attribute [local instance 10000] gO
section
variable {F:List Nat}{ρ:Nat→Nat}{nx k n:Nat}{zm:KZ}{f:Nat→Rc}{g:Nat→Nat}{x:Md}
end
end
end Go.K
set_option maxRecDepth 100000
namespace Go.K
open Go.Ab Go.RowKit Go.Y Go.Proofs
noncomputable section
attribute [local instance 10000] gO
noncomputable def rcM (x:Md) (i:Nat):Rc:=if i < x.p then zh7 (x.pp (Nat.add 0 i) 0) (x.pp (Nat.add 0 i) 1) else zRc
noncomputable def slM (x:Md) (i:Nat):Nat:=if i < x.q then x.ss (Nat.add 0 i) % 2 else 0
noncomputable def nM (x:Md):Nat:=Nat.add 1 (x.nb % 24)
attribute [local irreducible] kpre cOf mOf rOf JL zp xO hS wK xv zh7
section
variable {x:Md}{n k:Nat}{f:Nat→Rc}{g:Nat→Nat}{tr:KTm}{zm:KZ}
end
end
end Go.K
set_option maxRecDepth 100000
namespace Go.K
open Go.Ab Go.RowKit Go.Y Go.Proofs
noncomputable section
attribute [local instance 10000] gO
attribute [local irreducible] kpre cOf mOf rOf JL zp xO hS wK xv zh7
section
variable {x:Md}{n k:Nat}{f:Nat→Rc}{g:Nat→Nat}{tr:KTm}{zm:KZ}
end
end
end Go.K
set_option maxRecDepth 100000
namespace Go.K
open Go.Ab Go.RowKit Go.Y Go.Proofs
noncomputable section
attribute [local instance 10000] gO
attribute [local irreducible] kpre cOf mOf rOf JL zp xO hS wK xv zh7
noncomputable def resM (x:Md):KV:=.tup (.cons (zyk (nM x) (rcM x)) (.cons (zuU (wK (nM x)) (slM x)) .nl))
section
variable {x:Md}{B N k:Nat}
end
end
end Go.K
set_option maxRecDepth 100000
namespace Go.K
open Go.Ab Go.RowKit Go.Y Go.Proofs
noncomputable section
attribute [local instance 10000] gO
attribute [local irreducible] kpre cOf mOf rOf JL zp xO hS wK xv
end
end Go.K
set_option maxRecDepth 100000
namespace Go.K
open Go.Ab Go.RowKit Go.Y Go.Proofs
noncomputable section
attribute [local instance 10000] gO
structure Sd where
 t:Md
 c:Nat
 sp:Nat→Nat→Nat
noncomputable def Sd.k (x:Sd):KV:=.cons x.t.k (.cons (roK (.arr 2 .sc) x.c fun i=>.fa 2 fun j=>kU8 (x.sp i j)) .nl)
attribute [local irreducible] kpre cOf mOf rOf JL zp xO hS wK xv zh7
theorem FzP.ub {zm:KZ}{v:KV}(h:ubK v=true):FzP true zm v v:=fun B C M _ _=>R.allT_fr h
theorem VU {n:Nat}{f:Nat→KV}(h:∀ i,ubK (f i)=true):ubK (.fa n f)=true:=ZT.2 h
section
variable {x:Sd}{B N:Nat}
end
noncomputable def preS (x:Sd):Prop:=x.t.nb < 256∧∀ i j,x.sp i j < 256
end
end Go.K
set_option maxRecDepth 100000
namespace Go.K
open Go.Ab Go.RowKit Go.Y Go.Proofs
noncomputable section
attribute [local instance 10000] gO
section
variable {x:Sd}{n:Nat}{u:Ud}
end
noncomputable def zK (y:Un) (b o c:Int):KV:=.cons y.k (.cons (.int .i64 b) (.cons (.int .u8 o) (.cons (.int .i64 c) .nl)))
noncomputable def a5 (x:Sd) (a:Nat) (y:Un) (b o c:Int):List KV:=[x.k,kU8 a,zK y b o c]
noncomputable def wG (l:List KV) (w:KV):zk:=fun l' K=>l'=l∧K w
end
end Go.K
set_option maxRecDepth 100000
namespace Go.K
open Go.Ab Go.RowKit Go.Y Go.Proofs
noncomputable section
attribute [local instance 10000] gO
structure Cv where
 th:Bool
 ln:Nat
 st:Nat
noncomputable def Cv.k (x:Cv):KV:=.cons (.bool x.th) (.cons (.str x.ln x.st) .nl)
structure Dd where
 cn:Nat→Nat
 cv:Nat→Nat→Cv
noncomputable def vh:Shape:=.cons .sc (.cons .sc .nl)
noncomputable def Dd.el (d:Dd) (i:Nat):KV:=.ro true false vh 0 (Nat.succ (d.cn i)) (.fa (Nat.succ (d.cn i)) fun j=>(d.cv i j).k)
noncomputable def dK (L:Nat) (d:Dd):KV:=.cons (.ro true false .sc 0 L (.fa L d.el)) .nl
noncomputable def p74 (L:Nat) (d:Dd) (s:Nat) (K:KV→Prop):Prop:=zo EO0 (zp EO0 200) 0 74 [dK L d,nI s] .e 0 0 fun r _ _ _=>K r
noncomputable def Dd.last (d:Dd) (s:Nat):Cv:=d.cv s (d.cn s)
theorem e74 (L:Nat) (d:Dd) (s:Nat) (K:KV→Prop):p74 L d s K=cnd (ixB (.ofNat s) L) (cnd (ixB (.ofNat s) L) (cnd (b63 (Nat.sub (Nat.succ (d.cn (Nat.add 0 s))) 1)) (cnd (ixB (.ofNat (Nat.sub (Nat.succ (d.cn (Nat.add 0 s))) 1)) (Nat.succ (d.cn (Nat.add 0 s)))) (K (d.cv (Nat.add 0 s) (Nat.add 0 (Nat.sub (Nat.succ (d.cn (Nat.add 0 s))) 1))).k)))):=by kernel_rfl
abbrev P3d:=Nat×Dd×Nat
noncomputable def zuV:zk:=qw (fun x:P3d=>[dK x.1 x.2.1,nI x.2.2]) (fun x=>x.2.2 < x.1∧x.2.1.cn x.2.2 < 4611686018427387904) fun x=>(x.2.1.last x.2.2).k
theorem zmv:KCS Tryz.prog 74 zuV:=zes ⟨Tryz.f74,Tryz.func74,by kernel_rfl,by kernel_rfl⟩ fun l K hs=>by
 obtain⟨⟨L,d,s⟩,rfl,⟨h1,h2⟩,hk⟩:=hs
 have h1:s < L:=h1
 have h2:d.cn s < 4611686018427387904:=h2
 refine⟨EO0,zR,rfl,200,fun r=>r=(d.last s).k,_,hk,by kernel_rfl,fun r hr=>by rw[hr]; exact Imp.refl _,Eq.mpr (e74 L d s _) ?_⟩
 rw[ji]
 refine ze.2 ⟨xQ.2 h1,ze.2 ⟨xQ.2 h1,ze.2 ⟨xe.2 (by show d.cn s < _; omega),ze.2 ⟨xQ.2 (Nat.lt_succ_self (d.cn s)),?_⟩⟩⟩⟩
 rw[ji]
 rfl
noncomputable def l65:List Code:=fl (cOf 65)
noncomputable def b65:Code:=lpB (blB (l65.getD 3 .skip))
noncomputable def shD:Shape:=.cons .sc .nl
noncomputable def wE (k:Nat) (e:Nat→KV):KBlk:=⟨.row 258,.arr k .sc,.fa k e⟩
noncomputable def z65 (L:Nat) (d:Dd) (v:Cv) (e:Nat→KV) (i:Nat):List (Nat×KBlk):=@Nat.rec (fun _=>List (Nat×KBlk)) [(0,bx 77 shD (dK L d)),(1,bx 163 vh v.k),(2,bx 77 shD (.cons .nils .nl)),(3,bx 77 shD (.cons .nils .nl))] (fun k _=>[(0,bx 77 shD (dK L d)),(1,bx 163 vh v.k),(2,bx 77 shD (.cons .nils .nl)),(3,bx 77 shD (.cons (.row 4 .sc (Nat.succ k)) .nl)),(4,wE (Nat.succ k) e)]) i
noncomputable def n65 (i:Nat):Nat:=@Nat.rec (fun _=>Nat) 4 (fun _ _=>5) i
noncomputable def s65 (L:Nat) (d:Dd) (s:Nat) (v:Cv) (e:Nat→KV) (i:Nat):LS:=([(1,nI s),(3,.ptr 0 [] shD),(5,.ptr 1 [] vh),(6,.ptr 2 [] shD),(7,.ptr 3 [] shD),(8,nI i)],z65 L d v e i,n65 i)
noncomputable def ztr (L:Nat) (d:Dd) (s:Nat) (v:Cv) (Q:QT) (R:RT):Prop:=pc EO0 65 (l65.take 3) [1,3,5,6,7,8] [0,1,2,3] (xc (mOf 65) 0 [dK L d,nI s,v.k],[],0) Q R
noncomputable def b3o (L:Nat) (d:Dd) (v:Cv) (o:KV):List (Option KBlk):=[some (bx 77 shD (dK L d)),some (bx 163 vh v.k),some (bx 77 shD (.cons .nils .nl)),some (bx 77 shD (.cons o .nl))]
noncomputable def v65 (s i:Nat):List KV:=[nI s,.ptr 0 [] shD,.ptr 1 [] vh,.ptr 2 [] shD,.ptr 3 [] shD,nI i]
theorem zxe (L:Nat) (d:Dd) (s:Nat) (v:Cv) (Q:QT) (R:RT):ztr L d s v Q R=Q .normal (v65 s 0) (b3o L d v .nils) 4:=by kernel_rfl
noncomputable def apO (a b:List (Option KBlk)):List (Option KBlk):=@List.rec (Option KBlk) (fun _=>List (Option KBlk)) b (fun x _ ih=>x::ih) a
noncomputable def lnE (d:Dd) (i:Nat):Nat:=Nat.succ (d.cn (Nat.add 0 i))
noncomputable def elE (d:Dd) (v:Cv) (i:Nat):KBlk:=⟨.row 163,.arr (Nat.add (lnE d i) 1) vh,.fa (Nat.add (lnE d i) 1) fun j=>ifN j (Nat.add (lnE d i) 0) v.k (d.cv (Nat.add 0 i) j).k⟩
noncomputable def elN (d:Dd) (i:Nat):KBlk:=⟨.row 163,.arr (lnE d i) vh,.fa (lnE d i) fun j=>(d.cv (Nat.add 0 i) j).k⟩
noncomputable def ded (n:Nat) (s:Shape):KBlk:=⟨.dead,.arr n s,.unk⟩
noncomputable def rw1 (x:KV):KBlk:=⟨.row 258,.arr 1 .sc,kAr 1 .nils fun _=>x⟩
noncomputable def rwS (k:Nat) (x:KV) (e:Nat→KV):KBlk:=⟨.row 258,.arr (Nat.add (Nat.succ k) 1) .sc,.fa (Nat.add (Nat.succ k) 1) fun i=>ifN i (Nat.add (Nat.succ k) 0) x (e i)⟩
noncomputable def zl4 (L:Nat) (d:Dd) (s:Nat) (v:Cv) (e:Nat→KV) (Q:QT) (R:RT):Prop:=pc EO0 65 (fl b65) [1,3,5,6,7,8] [0,1,2,3,4,6,8] (s65 L d s v e 0) Q R
theorem zts (L:Nat) (d:Dd) (s:Nat) (v:Cv) (e:Nat→KV) (Q:QT) (R:RT):zl4 L d s v e Q R=alt (ltN 0 L) (cnd (ixB (.ofNat 0) L) (cnd (apB 0 (lnE d 0)) (alt (eqN 0 s) (cnd (apB (lnE d 0) 1) (Q .normal (v65 s 1) (apO (b3o L d v (.row 8 .sc 1)) [some (ded (lnE d 0) vh),some (elE d v 0),some (rw1 (.row 6 vh (Nat.add (lnE d 0) 1)))]) 9)) (Q .normal (v65 s 1) (apO (b3o L d v (.row 6 .sc 1)) [some (elN d 0),some (rw1 (.row 4 vh (lnE d 0))),none]) 7)))) (Q (.exit 0) (v65 s 0) (apO (b3o L d v .nils) [none,none,none]) 4):=by kernel_rfl
noncomputable def zl5 (L:Nat) (d:Dd) (s:Nat) (v:Cv) (e:Nat→KV) (k:Nat) (Q:QT) (R:RT):Prop:=pc EO0 65 (fl b65) [1,3,5,6,7,8] [0,1,2,3,4,5,7,9] (s65 L d s v e (Nat.succ k)) Q R
theorem ztt (L:Nat) (d:Dd) (s:Nat) (v:Cv) (e:Nat→KV) (k:Nat) (Q:QT) (R:RT):zl5 L d s v e k Q R=alt (ltN (Nat.succ k) L) (cnd (ixB (.ofNat (Nat.succ k)) L) (cnd (apB 0 (lnE d (Nat.succ k))) (alt (eqN (Nat.succ k) s) (cnd (apB (lnE d (Nat.succ k)) 1) (cnd (apB (Nat.succ k) 1) (cnd (b63 (Nat.add (Nat.succ k) 1)) (Q .normal (v65 s (Nat.add (Nat.succ k) 1)) (apO (b3o L d v (.row 9 .sc (Nat.add (Nat.succ k) 1))) [some (ded (Nat.succ k) .sc),some (ded (lnE d (Nat.succ k)) vh),some (elE d v (Nat.succ k)),some (rwS k (.row 7 vh (Nat.add (lnE d (Nat.succ k)) 1)) e)]) 10))))
  (cnd (apB (Nat.succ k) 1) (cnd (b63 (Nat.add (Nat.succ k) 1)) (Q .normal (v65 s (Nat.add (Nat.succ k) 1)) (apO (b3o L d v (.row 7 .sc (Nat.add (Nat.succ k) 1))) [some (ded (Nat.succ k) .sc),some (elN d (Nat.succ k)),some (rwS k (.row 5 vh (lnE d (Nat.succ k))) e),none]) 8)))))) (Q (.exit 0) (v65 s (Nat.succ k)) (apO (b3o L d v (.row 4 .sc (Nat.succ k))) [some (wE (Nat.succ k) e),none,none,none]) 5):=by kernel_rfl
noncomputable def ztu (L:Nat) (d:Dd) (s:Nat) (v:Cv) (e:Nat→KV) (k:Nat) (Q:QT) (R:RT):Prop:=pc EO0 65 (l65.drop 4) [] [4] (s65 L d s v e (Nat.succ k)) Q R
theorem zxf (L:Nat) (d:Dd) (s:Nat) (v:Cv) (e:Nat→KV) (k:Nat) (Q:QT) (R:RT):ztu L d s v e k Q R=R (.cons (.row 4 .sc (Nat.succ k)) .nl) [some (wE (Nat.succ k) e)] 5:=by kernel_rfl
end
end Go.K
set_option maxRecDepth 100000
namespace Go.K
open Go.Ab Go.RowKit Go.Y Go.Proofs
noncomputable section
attribute [local instance 10000] gO
open Classical in
noncomputable def jS (d:Dd) (s:Nat) (v:Cv):Dd:=⟨fun i=>if i=s then Nat.succ (d.cn i) else d.cn i,fun i j=>if i=s∧j=Nat.succ (d.cn i) then v else d.cv i j⟩
theorem ziR {F:List Nat}{ρ:Nat→Nat}{n id k n1:Nat}{zm:KZ}{e:Shape}{b:KBlk}{f:Nat→V}{g:Nat→KV}(hF:id∈F) (hb:kb zm id=some b) (ha:j0 b.k=true) (hv:b.v.v=.arr n1 f) (hfg:∀ i,i < k→f i=(g i).v) (hk:∀ i,zY 0 (g i)=true):RnF (am zm) F ρ n (KV.row id e k).v (KV.ro true false e 0 k (.fa k g)).v:=by
 have h:=RnF.row (ρ:=ρ) (n:=n) (e:=e) (k:=k) (g:=fun i=>(g i).v) hF (zu hb) ((zU b.k b.sh b.v.v).trans ha) hv (fun i hi=>by
  rw[hfg i hi]
  exact RnF.nf (vY 0 _ (hk i)).1)
 show RnF (am zm) F ρ n (V.row id e k) (V.ro true false e k fun i=>(g (0 + i)).v)
 simpa only [Nat.zero_add] using h
attribute [local irreducible] kpre cOf mOf rOf JL zp l65 b65
theorem zyE:Tryz.f65.ntmps=37:=by kernel_rfl
theorem zyF:Tryz.f65.results.toList=rOf 65:=by kernel_rfl
theorem zyG:fl (cOf 65)=l65:=by kernel_rfl
noncomputable def zb3 (r i:Nat):Nat:=@Bool.rec (fun _=>Nat) i r (Nat.beq i 4)
section
variable {L:Nat}{d:Dd}{s:Nat}{v:Cv}{B N:Nat}
noncomputable abbrev eW (d:Dd) (s:Nat) (v:Cv):Nat→KV:=(jS d s v).el
theorem VT (x:Cv):zY 0 x.k=true:=by kernel_rfl
theorem ziS (L:Nat) (d:Dd):zY 0 (bx 77 shD (dK L d)).v=true:=by kernel_rfl
theorem WG (d:Dd) (i:Nat):zY 0 (d.el i)=true:=by kernel_rfl
theorem zm4 (d:Dd) (i:Nat):ubK (d.el i)=true:=by
 show nd true (ubK (.fa (Nat.succ (d.cn i)) fun j=>(d.cv i j).k))=true
 rw[VU fun j=>rfl]; rfl
theorem zra (L:Nat) (d:Dd) (s:Nat) (v:Cv) (e:Nat→KV):∀ i,nd (ltL (s65 L d s v e i).2.2 (s65 L d s v e i).2.1) (vS (mOf 65) (s65 L d s v e i).1)=true
 | 0=>by kernel_rfl
 | k + 1=>by kernel_rfl
theorem pkW {F:List Nat}{zm:KZ}{r:Nat}{sh:Shape}(b:Nat) (h:zb3 r b=b) (hb:b < 5):RnV (am zm) F (zb3 r) 5 (KV.ptr b [] sh).v (KV.ptr b [] sh).v:=(show RnB (am zm) F (zb3 r) 5 (V.ptr b [] sh) (V.ptr b [] sh) from RnB.ptr h hb).v
theorem ziT {k r:Nat}{F:List Nat}{b:KBlk}{tr:KTm}{zm:KZ}(hF:zfQ F (zb3 r) 5 (z65 L d v (eW d s v) (Nat.succ k))=true) (ht:[1,3,5,6,7,8].map (zj tr)=v65 s (Nat.succ k)) (hz:[0,1,2,3].map (kb zm)=b3o L d v (.row r .sc (Nat.succ k))) (hr:kb zm r=some b) (hbk:b.k=.row 258) (hbs:b.sh=.arr (Nat.succ k) .sc)
  (hb:RnB (am zm) F (zb3 r) 5 b.v.v (wE (Nat.succ k) (eW d s v)).v.v):atS (mOf 65) (s65 L d s v (eW d s v) (Nat.succ k)) tr zm:=by
 have h0:kb zm 0=some (bx 77 shD (dK L d)):=congrArg (fun l=>l.getD 0 none) hz
 have h1:kb zm 1=some (bx 163 vh v.k):=congrArg (fun l=>l.getD 1 none) hz
 have h2:kb zm 2=some (bx 77 shD (.cons .nils .nl)):=congrArg (fun l=>l.getD 2 none) hz
 have h3:kb zm 3=some (bx 77 shD (.cons (.row r .sc (Nat.succ k)) .nl)):=congrArg (fun l=>l.getD 3 none) hz
 refine atS.of (s:=s65 L d s v (eW d s v) (Nat.succ k)) F (zb3 r) (vs:=v65 s (Nat.succ k)) (os:=[some (bx 77 shD (dK L d)),some (bx 163 vh v.k),some (bx 77 shD (.cons .nils .nl)),some (bx 77 shD (.cons (.row r .sc (Nat.succ k)) .nl)),some b]) ht ?_ hF
  ⟨nfV rfl,pkW 0 rfl (ltk rfl),pkW 1 rfl (ltk rfl),pkW 2 rfl (ltk rfl),pkW 3 rfl (ltk rfl),nfV rfl,trivial⟩
  ⟨RnK.nf (ziS L d),RnK.nf (VT v),RnK.nf rfl,RnK.mk' rfl rfl (RnB.cons (show RnB (am zm) F (zb3 r) 5 (V.row r .sc (Nat.succ k)) (V.row 4 .sc (Nat.succ k)) from RnB.row rfl (ltk rfl)) (nfB rfl)),⟨b,rfl,hbk,hbs,hb⟩,trivial⟩
 show [kb zm 0,kb zm 1,kb zm 2,kb zm 3,kb zm r]=_
 rw[h0,h1,h2,h3,hr]
noncomputable abbrev Q65 (L:Nat) (d:Dd) (s:Nat) (v:Cv):K4:=retJ EO0 Tryz.f65 true (dK L (jS d s v))
theorem zrb {i:Nat}(h:i≠s):(jS d s v).el i=d.el i:=by
 unfold Dd.el jS
 simp only[if_neg h,if_neg (fun q:i=s∧_=>h q.1)]
theorem zv7 {zm:KZ}{ρ:Nat→Nat}{n id i:Nat}{F:List Nat}(hF:id∈F) (hb:kb zm id=some (elN d i)) (h:i≠s):RnB (am zm) F ρ n (KV.row id vh (lnE d i)).v (eW d s v i).v:=by
 show RnB (am zm) F ρ n (KV.row id vh (lnE d i)).v ((jS d s v).el i).v
 rw[zrb h]
 have e:lnE d i=Nat.succ (d.cn i):=by unfold lnE; rw[ji]
 rw[e]
 refine (ziR hF hb rfl (f:=fun j=>((d.cv (Nat.add 0 i) j).k).v) rfl (g:=fun j=>(d.cv i j).k) (fun j hj=>?_) fun j=>VT _).b
 rw[ji]
theorem zv8 {zm:KZ}{ρ:Nat→Nat}{n id i:Nat}{F:List Nat}(hF:id∈F) (hb:kb zm id=some (elE d v i)) (h:i=s):RnB (am zm) F ρ n (KV.row id vh (Nat.add (lnE d i) 1)).v (eW d s v i).v:=by
 subst h
 have e:lnE d i=Nat.succ (d.cn i):=by unfold lnE; rw[ji]
 have e2:(jS d i v).el i=.ro true false vh 0 (Nat.succ (Nat.succ (d.cn i))) (.fa (Nat.succ (Nat.succ (d.cn i))) fun j=>((jS d i v).cv i j).k):=by
  unfold Dd.el
  rw[show (jS d i v).cn i=Nat.succ (d.cn i) from if_pos rfl]
 show RnB (am zm) F ρ n (KV.row id vh (Nat.add (lnE d i) 1)).v ((jS d i v).el i).v
 rw[e2,e]
 refine (ziR hF hb rfl (f:=fun j=>(ifN j (Nat.add (lnE d i) 0) v.k (d.cv (Nat.add 0 i) j).k).v) rfl (g:=fun j=>((jS d i v).cv i j).k) (fun j hj=>?_) fun j=>VT _).b
 show (ifN j (Nat.add (lnE d i) 0) v.k (d.cv (Nat.add 0 i) j).k).v=((if i=i∧j=Nat.succ (d.cn i) then v else d.cv i j):Cv).k.v
 rw[qZ,ji,e]
 by_cases hj2:j=Nat.succ (d.cn i)
 ·rw[if_pos (show j=Nat.add (Nat.succ (d.cn i)) 0 from hj2),if_pos ⟨rfl,hj2⟩]
 ·rw[if_neg (show ¬ j=Nat.add (Nat.succ (d.cn i)) 0 from hj2),if_neg (fun q=>hj2 q.2)]
theorem zm5 {zm:KZ}{F:List Nat}{ρ:Nat→Nat}{x:KV}(h:RnB (am zm) F ρ 5 x.v (eW d s v 0).v):RnB (am zm) F ρ 5 (rw1 x).v.v (wE 1 (eW d s v)).v.v:=by
 refine RnB.arr fun j hj=>?_
 obtain rfl:j=0:=by omega
 exact h
theorem zm6 {zm:KZ}{F:List Nat}{ρ:Nat→Nat}{k:Nat}{x:KV}(h:RnB (am zm) F ρ 5 x.v (eW d s v (Nat.succ k)).v):RnB (am zm) F ρ 5 (rwS k x (eW d s v)).v.v (wE (Nat.succ (Nat.succ k)) (eW d s v)).v.v:=by
 refine RnB.arr fun j hj=>?_
 show RnB (am zm) F ρ 5 (ifN j (Nat.succ k) x (eW d s v j)).v (eW d s v j).v
 rw[qZ]
 by_cases e:j=Nat.succ k
 ·rw[if_pos e,e]; exact h
 ·rw[if_neg e]; exact nfB (WG _ _)
theorem Xh {a b:Nat}(h:a + b≤134217728):apB a b=true:=Nat.ble_eq_true_of_le h
theorem j65 (h1:0 < L) (h2:L < 1000) (h3:∀ i,i < L→d.cn i < 1000):JFn Tryz.prog 65 true [dK L d,nI s,v.k] (dK L (jS d s v)):=by
 refine JFn.of (P:=Tryz.prog) zR rfl (c:=cOf 65) (mOf 65) Tryz.func65 (by kernel_rfl) fun B N hN=>?_
 rw[zyE] at hN
 rw[zyG]
 refine JL.stp (n:=60) (s:=(xc (mOf 65) 0 [dK L d,nI s,v.k],[],0)) zR rfl 3 (rOf 65) [1,3,5,6,7,8] [0,1,2,3] hN (by kernel_rfl) (by kernel_rfl) (fun v=>False) (fun v tr zm nx h1 h2 h3 h4=>h1.elim) ?_
 show ztr L d s v _ _
 rw[zxe]
 intro tr zm ht hz hmb hi
 refine JL.loopT zR (fun i=>s65 L d s v (eW d s v) i) (fun i=>L - i) (fun i=>i≤L) (id:=0) (b:=b65) (l2:=l65.drop 4) (by kernel_rfl) (zra L d s v _) 0 (Nat.zero_le _) ?_ hmb hi ?_
 ·exact atS.of (s:=s65 L d s v (eW d s v) 0) [] id ht hz (by kernel_rfl) ⟨zq _ rfl,xU (ltk rfl),xU (ltk rfl),xU (ltk rfl),xU (ltk rfl),zq _ rfl,trivial⟩ ⟨RnK.nf (ziS L d),RnK.nf (VT v),RnK.nf rfl,RnK.nf rfl,trivial⟩
 intro i hi
 have el:∀ i,lnE d i=Nat.succ (d.cn i):=fun i=>by unfold lnE; rw[ji]
 cases i with
 | zero =>
  refine JL.all (n:=60) zR rfl (rOf 65) [1,3,5,6,7,8] [0,1,2,3,4,6,8] hN (by kernel_rfl) (zra L d s v _ 0) (fun v=>False) (fun v tr zm nx h1 h2 h3 h4=>h1.elim) ?_
  show zl4 L d s v (eW d s v) _ _
  rw[zts]
  have hc:=h3 0 h1
  refine zh.2 ⟨fun q=>ze.2 ⟨xQ.2 h1,ze.2 ⟨Xh (by rw[el]; omega),zh.2 ⟨fun q2=>ze.2 ⟨Xh (by rw[el]; omega),?_⟩,fun q2=>?_⟩⟩⟩,fun q=>absurd h1 (by have:=(bf jM).1 q; omega)⟩
  ·have q2:=zdp.1 q2
   intro tr zm ht hz hmb hi
   have g6:kb zm 6=some (elE d v 0):=congrArg (fun l=>l.getD 5 none) hz
   have g8:kb zm 8=some (rw1 (.row 6 vh (Nat.add (lnE d 0) 1))):=congrArg (fun l=>l.getD 6 none) hz
   have hz':[0,1,2,3].map (kb zm)=b3o L d v (.row 8 .sc (Nat.succ 0)):=congrArg (fun l=>l.take 4) hz
   exact⟨1,by omega,by omega,ziT (r:=8) (F:=[6]) (by kernel_rfl) ht hz' g8 rfl rfl (zm5 (zv8 (List.mem_singleton.2 rfl) g6 q2))⟩
  ·have q2:(0:Nat)≠s:=(bf zdp).1 q2
   intro tr zm ht hz hmb hi
   have g4:kb zm 4=some (elN d 0):=congrArg (fun l=>l.getD 4 none) hz
   have g6:kb zm 6=some (rw1 (.row 4 vh (lnE d 0))):=congrArg (fun l=>l.getD 5 none) hz
   have hz':[0,1,2,3].map (kb zm)=b3o L d v (.row 6 .sc (Nat.succ 0)):=congrArg (fun l=>l.take 4) hz
   exact⟨1,by omega,by omega,ziT (r:=6) (F:=[4]) (by kernel_rfl) ht hz' g6 rfl rfl (zm5 (zv7 (List.mem_singleton.2 rfl) g4 q2))⟩
 | succ k =>
  refine JL.all (n:=60) zR rfl (rOf 65) [1,3,5,6,7,8] [0,1,2,3,4,5,7,9] hN (by kernel_rfl) (zra L d s v _ (k + 1)) (fun v=>False) (fun v tr zm nx h1 h2 h3 h4=>h1.elim) ?_
  show zl5 L d s v (eW d s v) k _ _
  rw[ztt]
  refine zh.2 ⟨fun q=>?_,fun q=>?_⟩
  ·have q:=jM.1 q
   have hc:=h3 (Nat.succ k) q
   refine ze.2 ⟨xQ.2 q,ze.2 ⟨Xh (by rw[el]; omega),zh.2 ⟨fun q2=>ze.2 ⟨Xh (by rw[el]; omega),ze.2 ⟨Xh (by omega),ze.2 ⟨xe.2 (by show k + 1 + 1 < _; omega),?_⟩⟩⟩,fun q2=>ze.2 ⟨Xh (by omega),ze.2 ⟨xe.2 (by show k + 1 + 1 < _; omega),?_⟩⟩⟩⟩⟩
   ·have q2:=zdp.1 q2
    intro tr zm ht hz hmb hi
    have g7:kb zm 7=some (elE d v (Nat.succ k)):=congrArg (fun l=>l.getD 6 none) hz
    have g9:kb zm 9=some (rwS k (.row 7 vh (Nat.add (lnE d (Nat.succ k)) 1)) (eW d s v)):=congrArg (fun l=>l.getD 7 none) hz
    have hz':[0,1,2,3].map (kb zm)=b3o L d v (.row 9 .sc (Nat.succ (Nat.succ k))):=congrArg (fun l=>l.take 4) hz
    exact⟨k + 2,by omega,by omega,ziT (k:=Nat.succ k) (r:=9) (F:=[7]) (by kernel_rfl) ht hz' g9 rfl rfl (zm6 (zv8 (List.mem_singleton.2 rfl) g7 q2))⟩
   ·have q2:Nat.succ k≠s:=(bf zdp).1 q2
    intro tr zm ht hz hmb hi
    have g5:kb zm 5=some (elN d (Nat.succ k)):=congrArg (fun l=>l.getD 5 none) hz
    have g7:kb zm 7=some (rwS k (.row 5 vh (lnE d (Nat.succ k))) (eW d s v)):=congrArg (fun l=>l.getD 6 none) hz
    have hz':[0,1,2,3].map (kb zm)=b3o L d v (.row 7 .sc (Nat.succ (Nat.succ k))):=congrArg (fun l=>l.take 4) hz
    exact⟨k + 2,by omega,by omega,ziT (k:=Nat.succ k) (r:=7) (F:=[5]) (by kernel_rfl) ht hz' g7 rfl rfl (zm6 (zv7 (List.mem_singleton.2 rfl) g5 q2))⟩
  ·have q:¬ (Nat.succ k < L):=(bf jM).1 q
   obtain rfl:L=Nat.succ k:=by omega
   intro tr zm ht hz hmb hi
   show (if (0:Nat)=0 then JL EO0 B N (mOf 65) (l65.drop 4) tr zm 5 (Q65 (Nat.succ k) d s v) else Q65 (Nat.succ k) d s v (.exit 0) tr zm 5)
   rw[if_pos rfl]
   have g4:kb zm 4=some (wE (Nat.succ k) (eW d s v)):=congrArg (fun l=>l.getD 4 none) hz
   have hz':[0,1,2,3].map (kb zm)=b3o (Nat.succ k) d v (.row 4 .sc (Nat.succ k)):=congrArg (fun l=>l.take 4) hz
   refine JL.preS zR (ziT (r:=4) (F:=[]) (by kernel_rfl) ht hz' g4 rfl rfl (RnB.arr fun j hj=>nfB (WG _ _))) (xx (by kernel_rfl)) ?_
   have:=JL.goR (B:=B) (N:=N) (mask:=mOf 65) (l1:=l65.drop 4) (l2:=[]) (Q:=Q65 (Nat.succ k) d s v) (n:=60) zR rfl (rOf 65) [] [4] (lt0:=(s65 (Nat.succ k) d s v (eW d s v) (Nat.succ k)).1) (lz0:=(s65 (Nat.succ k) d s v (eW d s v) (Nat.succ k)).2.1) (n0:=5) hN (by kernel_rfl) (by kernel_rfl) ?_
   ·rwa [List.append_nil] at this
   ·show ztu (Nat.succ k) d s v (eW d s v) k _ _
    rw[zxf]
    intro tr zm hz hmb hi hr
    have g4:kb zm 4=some (wE (Nat.succ k) (eW d s v)):=congrArg (fun l=>l.getD 0 none) hz
    exact retJ.mk rfl zyF (FzP.cons (FzP.row g4 rfl rfl fun i hi B C M h4 h5 mm hm=>R.allT_fr (zm4 (jS d s v) i) _ hm) (FzP.noref rfl)) hr
end
end
end Go.K
set_option maxRecDepth 100000
namespace Go.K
open Go.Ab Go.RowKit Go.Y Go.Proofs
noncomputable section
attribute [local instance 10000] gO
abbrev P4w:=Nat×Dd×Nat×Cv
theorem zmO:KCSb Tryz.prog 65 (qw (fun x:P4w=>[dK x.1 x.2.1,nI x.2.2.1,x.2.2.2.k]) (fun x=>0 < x.1∧x.1 < 1000∧∀ i,i < x.1→x.2.1.cn i < 1000) fun x=>dK x.1 (jS x.2.1 x.2.2.1 x.2.2.2)):=qk ⟨Tryz.f65,Tryz.func65,by kernel_rfl,by kernel_rfl⟩ fun x h=>j65 h.1 h.2.1 h.2.2
noncomputable def zCv:Cv:=⟨false,0,0⟩
noncomputable def jj:Dd:=⟨fun _=>0,fun _ _=>zCv⟩
noncomputable def l71:List Code:=fl (cOf 71)
noncomputable def b71:Code:=lpB (blB (l71.getD 3 .skip))
noncomputable def z71 (e:Nat→KV) (i:Nat):List (Nat×KBlk):=@Nat.rec (fun _=>List (Nat×KBlk)) [(0,bx 77 shD (.cons .nils .nl)),(1,bx 77 shD (.cons .nils .nl))] (fun k _=>[(0,bx 77 shD (.cons .nils .nl)),(1,bx 77 shD (.cons (.row 2 .sc (Nat.succ k)) .nl)),(2,wE (Nat.succ k) e)]) i
noncomputable def n71 (i:Nat):Nat:=@Nat.rec (fun _=>Nat) 2 (fun _ _=>3) i
noncomputable def s71 (L:Nat) (e:Nat→KV) (i:Nat):LS:=([(0,nI L),(2,.ptr 0 [] shD),(3,.ptr 1 [] shD),(4,nI i)],z71 e i,n71 i)
noncomputable def v71 (L i:Nat):List KV:=[nI L,.ptr 0 [] shD,.ptr 1 [] shD,nI i]
noncomputable def o71 (o:KV):List (Option KBlk):=[some (bx 77 shD (.cons .nils .nl)),some (bx 77 shD (.cons o .nl))]
noncomputable def zvP (L:Nat) (Q:QT) (R:RT):Prop:=pc EO0 71 (l71.take 3) [0,2,3,4] [0,1] (xc (mOf 71) 0 [nI L],[],0) Q R
theorem zyu (L:Nat) (Q:QT) (R:RT):zvP L Q R=Q .normal (v71 L 0) (o71 .nils) 2:=by kernel_rfl
noncomputable def el1:KBlk:=⟨.row 163,.arr 1 vh,kAr 1 zCv.k fun _=>zCv.k⟩
noncomputable def zmP (L:Nat) (e:Nat→KV) (Q:QT) (R:RT):Prop:=pc EO0 71 (fl b71) [0,2,3,4] [0,1,2,4] (s71 L e 0) Q R
theorem zvQ (L:Nat) (e:Nat→KV) (Q:QT) (R:RT):zmP L e Q R=alt (ltN 0 L) (Q .normal (v71 L 1) (apO (o71 (.row 4 .sc 1)) [some el1,some (rw1 (.row 2 vh 1))]) 5) (Q (.exit 0) (v71 L 0) (apO (o71 .nils) [none,none]) 2):=by kernel_rfl
noncomputable def zmQ (L:Nat) (e:Nat→KV) (k:Nat) (Q:QT) (R:RT):Prop:=pc EO0 71 (fl b71) [0,2,3,4] [0,1,2,3,5] (s71 L e (Nat.succ k)) Q R
theorem zvR (L:Nat) (e:Nat→KV) (k:Nat) (Q:QT) (R:RT):zmQ L e k Q R=alt (ltN (Nat.succ k) L) (cnd (apB (Nat.succ k) 1) (cnd (b63 (Nat.add (Nat.succ k) 1)) (Q .normal (v71 L (Nat.add (Nat.succ k) 1)) (apO (o71 (.row 5 .sc (Nat.add (Nat.succ k) 1))) [some (ded (Nat.succ k) .sc),some el1,some (rwS k (.row 3 vh 1) e)]) 6))) (Q (.exit 0) (v71 L (Nat.succ k)) (apO (o71 (.row 2 .sc (Nat.succ k))) [some (wE (Nat.succ k) e),none,none]) 3):=by kernel_rfl
noncomputable def zvS (L:Nat) (e:Nat→KV) (k:Nat) (Q:QT) (R:RT):Prop:=pc EO0 71 (l71.drop 4) [] [2] (s71 L e (Nat.succ k)) Q R
theorem zyv (L:Nat) (e:Nat→KV) (k:Nat) (Q:QT) (R:RT):zvS L e k Q R=R (.cons (.row 2 .sc (Nat.succ k)) .nl) [some (wE (Nat.succ k) e)] 3:=by kernel_rfl
attribute [local irreducible] kpre cOf mOf rOf JL zp l71 b71
theorem zyw:Tryz.f71.ntmps=18:=by kernel_rfl
theorem zyx:Tryz.f71.results.toList=rOf 71:=by kernel_rfl
theorem zyy:fl (cOf 71)=l71:=by kernel_rfl
noncomputable def rh2 (r i:Nat):Nat:=@Bool.rec (fun _=>Nat) i r (Nat.beq i 2)
section
variable {L B N:Nat}
noncomputable abbrev eNw:Nat→KV:=jj.el
theorem zqA (L:Nat) (e:Nat→KV):∀ i,nd (ltL (s71 L e i).2.2 (s71 L e i).2.1) (vS (mOf 71) (s71 L e i).1)=true
 | 0=>by kernel_rfl
 | k + 1=>by kernel_rfl
theorem pk2 {F:List Nat}{zm:KZ}{r:Nat}{sh:Shape}(b:Nat) (h:rh2 r b=b) (hb:b < 3):RnV (am zm) F (rh2 r) 3 (KV.ptr b [] sh).v (KV.ptr b [] sh).v:=(show RnB (am zm) F (rh2 r) 3 (V.ptr b [] sh) (V.ptr b [] sh) from RnB.ptr h hb).v
theorem zqB {k r:Nat}{F:List Nat}{b:KBlk}{tr:KTm}{zm:KZ}(hF:zfQ F (rh2 r) 3 (z71 eNw (Nat.succ k))=true) (ht:[0,2,3,4].map (zj tr)=v71 L (Nat.succ k)) (hz:[0,1].map (kb zm)=o71 (.row r .sc (Nat.succ k))) (hr:kb zm r=some b) (hbk:b.k=.row 258) (hbs:b.sh=.arr (Nat.succ k) .sc)
  (hb:RnB (am zm) F (rh2 r) 3 b.v.v (wE (Nat.succ k) eNw).v.v):atS (mOf 71) (s71 L eNw (Nat.succ k)) tr zm:=by
 have h0:kb zm 0=some (bx 77 shD (.cons .nils .nl)):=congrArg (fun l=>l.getD 0 none) hz
 have h1:kb zm 1=some (bx 77 shD (.cons (.row r .sc (Nat.succ k)) .nl)):=congrArg (fun l=>l.getD 1 none) hz
 refine atS.of (s:=s71 L eNw (Nat.succ k)) F (rh2 r) (vs:=v71 L (Nat.succ k)) (os:=[some (bx 77 shD (.cons .nils .nl)),some (bx 77 shD (.cons (.row r .sc (Nat.succ k)) .nl)),some b]) ht ?_ hF
  ⟨nfV rfl,pk2 0 rfl (ltk rfl),pk2 1 rfl (ltk rfl),nfV rfl,trivial⟩
  ⟨RnK.nf rfl,RnK.mk' rfl rfl (RnB.cons (show RnB (am zm) F (rh2 r) 3 (V.row r .sc (Nat.succ k)) (V.row 2 .sc (Nat.succ k)) from RnB.row rfl (ltk rfl)) (nfB rfl)),⟨b,rfl,hbk,hbs,hb⟩,trivial⟩
 show [kb zm 0,kb zm 1,kb zm r]=_
 rw[h0,h1,hr]
theorem zvT {zm:KZ}{ρ:Nat→Nat}{n id:Nat}{F:List Nat}(i:Nat) (hF:id∈F) (hb:kb zm id=some el1):RnB (am zm) F ρ n (KV.row id vh 1).v (eNw i).v:=by
 refine (ziR hF hb rfl (f:=fun j=>KV.atv (vm zCv.k (enc 0) .te) (enc j) zCv.k.v) rfl (g:=fun j=>zCv.k) (fun j hj=>?_) fun j=>VT _).b
 obtain rfl:j=0:=by omega
 rfl
theorem zqC {zm:KZ}{F:List Nat}{ρ:Nat→Nat}{x:KV}(h:RnB (am zm) F ρ 3 x.v (eNw 0).v):RnB (am zm) F ρ 3 (rw1 x).v.v (wE 1 eNw).v.v:=by
 refine RnB.arr fun j hj=>?_
 obtain rfl:j=0:=by omega
 exact h
theorem zqD {zm:KZ}{F:List Nat}{ρ:Nat→Nat}{k:Nat}{x:KV}(h:RnB (am zm) F ρ 3 x.v (eNw (Nat.succ k)).v):RnB (am zm) F ρ 3 (rwS k x eNw).v.v (wE (Nat.succ (Nat.succ k)) eNw).v.v:=by
 refine RnB.arr fun j hj=>?_
 show RnB (am zm) F ρ 3 (ifN j (Nat.succ k) x (eNw j)).v (eNw j).v
 rw[qZ]
 by_cases e:j=Nat.succ k
 ·rw[if_pos e,e]; exact h
 ·rw[if_neg e]; exact nfB (WG _ _)
noncomputable abbrev Q71 (L:Nat):K4:=retJ EO0 Tryz.f71 true (dK L jj)
theorem j71 (h1:0 < L) (h2:L < 1000):JFn Tryz.prog 71 true [nI L] (dK L jj):=by
 refine JFn.of (P:=Tryz.prog) zR rfl (c:=cOf 71) (mOf 71) Tryz.func71 (by kernel_rfl) fun B N hN=>?_
 rw[zyw] at hN
 rw[zyy]
 refine JL.stp (n:=60) (s:=(xc (mOf 71) 0 [nI L],[],0)) zR rfl 3 (rOf 71) [0,2,3,4] [0,1] hN (by kernel_rfl) (by kernel_rfl) (fun v=>False) (fun v tr zm nx h1 h2 h3 h4=>h1.elim) ?_
 show zvP L _ _
 rw[zyu]
 intro tr zm ht hz hmb hi
 refine JL.loopT zR (fun i=>s71 L eNw i) (fun i=>L - i) (fun i=>i≤L) (id:=0) (b:=b71) (l2:=l71.drop 4) (by kernel_rfl) (zqA L _) 0 (Nat.zero_le _) ?_ hmb hi ?_
 ·exact atS.of (s:=s71 L eNw 0) [] id ht hz (by kernel_rfl) ⟨zq _ rfl,xU (ltk rfl),xU (ltk rfl),zq _ rfl,trivial⟩ ⟨RnK.nf rfl,RnK.nf rfl,trivial⟩
 intro i hi
 cases i with
 | zero =>
  refine JL.all (n:=60) zR rfl (rOf 71) [0,2,3,4] [0,1,2,4] hN (by kernel_rfl) (zqA L _ 0) (fun v=>False) (fun v tr zm nx h1 h2 h3 h4=>h1.elim) ?_
  show zmP L eNw _ _
  rw[zvQ]
  refine zh.2 ⟨fun q=>?_,fun q=>absurd h1 (by have:=(bf jM).1 q; omega)⟩
  intro tr zm ht hz hmb hi
  have g2:kb zm 2=some el1:=congrArg (fun l=>l.getD 2 none) hz
  have g4:kb zm 4=some (rw1 (.row 2 vh 1)):=congrArg (fun l=>l.getD 3 none) hz
  have hz':[0,1].map (kb zm)=o71 (.row 4 .sc (Nat.succ 0)):=congrArg (fun l=>l.take 2) hz
  exact⟨1,by omega,by omega,zqB (r:=4) (F:=[2]) (by kernel_rfl) ht hz' g4 rfl rfl (zqC (zvT 0 (List.mem_singleton.2 rfl) g2))⟩
 | succ k =>
  refine JL.all (n:=60) zR rfl (rOf 71) [0,2,3,4] [0,1,2,3,5] hN (by kernel_rfl) (zqA L _ (k + 1)) (fun v=>False) (fun v tr zm nx h1 h2 h3 h4=>h1.elim) ?_
  show zmQ L eNw k _ _
  rw[zvR]
  refine zh.2 ⟨fun q=>?_,fun q=>?_⟩
  ·have q:=jM.1 q
   refine ze.2 ⟨Xh (by omega),ze.2 ⟨xe.2 (by show k + 1 + 1 < _; omega),?_⟩⟩
   intro tr zm ht hz hmb hi
   have g3:kb zm 3=some el1:=congrArg (fun l=>l.getD 3 none) hz
   have g5:kb zm 5=some (rwS k (.row 3 vh 1) eNw):=congrArg (fun l=>l.getD 4 none) hz
   have hz':[0,1].map (kb zm)=o71 (.row 5 .sc (Nat.succ (Nat.succ k))):=congrArg (fun l=>l.take 2) hz
   exact⟨k + 2,by omega,by omega,zqB (k:=Nat.succ k) (r:=5) (F:=[3]) (by kernel_rfl) ht hz' g5 rfl rfl (zqD (zvT _ (List.mem_singleton.2 rfl) g3))⟩
  ·have q:¬ (Nat.succ k < L):=(bf jM).1 q
   obtain rfl:L=Nat.succ k:=by omega
   intro tr zm ht hz hmb hi
   show (if (0:Nat)=0 then JL EO0 B N (mOf 71) (l71.drop 4) tr zm 3 (Q71 (Nat.succ k)) else Q71 (Nat.succ k) (.exit 0) tr zm 3)
   rw[if_pos rfl]
   have g2:kb zm 2=some (wE (Nat.succ k) eNw):=congrArg (fun l=>l.getD 2 none) hz
   have hz':[0,1].map (kb zm)=o71 (.row 2 .sc (Nat.succ k)):=congrArg (fun l=>l.take 2) hz
   refine JL.preS zR (zqB (r:=2) (F:=[]) (by kernel_rfl) ht hz' g2 rfl rfl (RnB.arr fun j hj=>nfB (WG _ _))) (xx (by kernel_rfl)) ?_
   have:=JL.goR (B:=B) (N:=N) (mask:=mOf 71) (l1:=l71.drop 4) (l2:=[]) (Q:=Q71 (Nat.succ k)) (n:=60) zR rfl (rOf 71) [] [2] (lt0:=(s71 (Nat.succ k) eNw (Nat.succ k)).1) (lz0:=(s71 (Nat.succ k) eNw (Nat.succ k)).2.1) (n0:=3) hN (by kernel_rfl) (by kernel_rfl) ?_
   ·rwa [List.append_nil] at this
   ·show zvS (Nat.succ k) eNw k _ _
    rw[zyv]
    intro tr zm hz hmb hi hr
    have g4:kb zm 2=some (wE (Nat.succ k) eNw):=congrArg (fun l=>l.getD 0 none) hz
    exact retJ.mk rfl zyx (FzP.cons (FzP.row g4 rfl rfl fun i hi B C M h4 h5 mm hm=>R.allT_fr (zm4 jj i) _ hm) (FzP.noref rfl)) hr
end
theorem zmR:KCSb Tryz.prog 71 (qw (fun L:Nat=>[nI L]) (fun L=>0 < L∧L < 1000) fun L=>dK L jj):=qk ⟨Tryz.f71,Tryz.func71,by kernel_rfl,by kernel_rfl⟩ fun x h=>j71 h.1 h.2
end
end Go.K
