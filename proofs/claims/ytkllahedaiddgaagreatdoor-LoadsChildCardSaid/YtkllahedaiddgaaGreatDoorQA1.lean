/- nodes.Get as a contract. No condition. -/
import Derived.Test.YtkllahedaiddgaaGreatDoorRW
import Derived.Shelf.Sort.Plain
import Derived.Shelf.Slices.In.SortNone
import Derived.Test.YtkllahedaiddgaaGreatDoorProg
import Derived.Maps.OwnSet
import Derived.Maps.AppendAt
import Derived.Maps.Range
import Derived.Maps.RangeWalk
import Derived.Sort.OwnSortedInts
import Derived.WalkKit
import Derived.OwnWalk
import Derived.Deep.RegionWith
import Derived.Test.YtkllahedaiddgaaGreatDoorQC0
set_option linter.unusedSimpArgs false
set_option linter.unusedVariables false
set_option maxRecDepth 100000
namespace Go.K
open Go.Ab Go.RowKit Go.Y Go.Proofs
noncomputable section
attribute [local instance 10000] gO
noncomputable def l65:List Code:=fl (cOf 65)
noncomputable def b65:Code:=lpB (blB (l65.getD 3 .skip))
noncomputable def shD:Shape:=.cons .sc .nl
noncomputable def yi (k:Nat) (e:Nat→KV):KBlk:=⟨.row 258,.arr k .sc,.fa k e⟩
noncomputable def z65 (L:Nat) (d:Dd) (v:Cv) (e:Nat→KV) (i:Nat):List (Nat×KBlk):=@Nat.rec (fun _=>List (Nat×KBlk)) [(0,bx 77 shD (dK L d)),(1,bx 163 vl v.k),(2,bx 77 shD (.cons .nils .nl)),(3,bx 77 shD (.cons .nils .nl))] (fun k _=>[(0,bx 77 shD (dK L d)),(1,bx 163 vl v.k),(2,bx 77 shD (.cons .nils .nl)),(3,bx 77 shD (.cons (.row 4 .sc (Nat.succ k)) .nl)),(4,yi (Nat.succ k) e)]) i
noncomputable def n65 (i:Nat):Nat:=@Nat.rec (fun _=>Nat) 4 (fun _ _=>5) i
noncomputable def s65 (L:Nat) (d:Dd) (s:Nat) (v:Cv) (e:Nat→KV) (i:Nat):LS:=([(1,nI s),(3,.ptr 0 [] shD),(5,.ptr 1 [] vl),(6,.ptr 2 [] shD),(7,.ptr 3 [] shD),(8,nI i)],z65 L d v e i,n65 i)
def zwe (L:Nat) (d:Dd) (s:Nat) (v:Cv) (Q:QT) (R:RT):Prop:=pc EO0 65 (l65.take 3) [1,3,5,6,7,8] [0,1,2,3] (z7 (mOf 65) 0 [dK L d,nI s,v.k],[],0) Q R
noncomputable def b3o (L:Nat) (d:Dd) (v:Cv) (o:KV):List (Option KBlk):=[some (bx 77 shD (dK L d)),some (bx 163 vl v.k),some (bx 77 shD (.cons .nils .nl)),some (bx 77 shD (.cons o .nl))]
noncomputable def v65 (s i:Nat):List KV:=[nI s,.ptr 0 [] shD,.ptr 1 [] vl,.ptr 2 [] shD,.ptr 3 [] shD,nI i]
theorem zBJ (L:Nat) (d:Dd) (s:Nat) (v:Cv) (Q:QT) (R:RT):zwe L d s v Q R=Q .normal (v65 s 0) (b3o L d v .nils) 4:=by kernel_rfl
noncomputable def apO (a b:List (Option KBlk)):List (Option KBlk):=@List.rec (Option KBlk) (fun _=>List (Option KBlk)) b (fun x _ ih=>x::ih) a
noncomputable def lnE (d:Dd) (i:Nat):Nat:=Nat.succ (d.cn (Nat.add 0 i))
noncomputable def elE (d:Dd) (v:Cv) (i:Nat):KBlk:=⟨.row 163,.arr (Nat.add (lnE d i) 1) vl,.fa (Nat.add (lnE d i) 1) fun j=>ifN j (Nat.add (lnE d i) 0) v.k (d.cv (Nat.add 0 i) j).k⟩
noncomputable def elN (d:Dd) (i:Nat):KBlk:=⟨.row 163,.arr (lnE d i) vl,.fa (lnE d i) fun j=>(d.cv (Nat.add 0 i) j).k⟩
noncomputable def ded (n:Nat) (s:Shape):KBlk:=⟨.dead,.arr n s,.unk⟩
noncomputable def rw1 (x:KV):KBlk:=⟨.row 258,.arr 1 .sc,kAr 1 .nils fun _=>x⟩
noncomputable def rwS (k:Nat) (x:KV) (e:Nat→KV):KBlk:=⟨.row 258,.arr (Nat.add (Nat.succ k) 1) .sc,.fa (Nat.add (Nat.succ k) 1) fun i=>ifN i (Nat.add (Nat.succ k) 0) x (e i)⟩
def zoE (L:Nat) (d:Dd) (s:Nat) (v:Cv) (e:Nat→KV) (Q:QT) (R:RT):Prop:=pc EO0 65 (fl b65) [1,3,5,6,7,8] [0,1,2,3,4,6,8] (s65 L d s v e 0) Q R
theorem zwf (L:Nat) (d:Dd) (s:Nat) (v:Cv) (e:Nat→KV) (Q:QT) (R:RT):zoE L d s v e Q R=alt (ltN 0 L) (cnd (ixB (.ofNat 0) L) (cnd (apB 0 (lnE d 0)) (alt (eqN 0 s) (cnd (apB (lnE d 0) 1) (Q .normal (v65 s 1) (apO (b3o L d v (.row 8 .sc 1)) [some (ded (lnE d 0) vl),some (elE d v 0),some (rw1 (.row 6 vl (Nat.add (lnE d 0) 1)))]) 9)) (Q .normal (v65 s 1) (apO (b3o L d v (.row 6 .sc 1)) [some (elN d 0),some (rw1 (.row 4 vl (lnE d 0))),none]) 7)))) (Q (.exit 0) (v65 s 0) (apO (b3o L d v .nils) [none,none,none]) 4):=by kernel_rfl
def zoF (L:Nat) (d:Dd) (s:Nat) (v:Cv) (e:Nat→KV) (k:Nat) (Q:QT) (R:RT):Prop:=pc EO0 65 (fl b65) [1,3,5,6,7,8] [0,1,2,3,4,5,7,9] (s65 L d s v e (Nat.succ k)) Q R
theorem zwg (L:Nat) (d:Dd) (s:Nat) (v:Cv) (e:Nat→KV) (k:Nat) (Q:QT) (R:RT):zoF L d s v e k Q R=alt (ltN (Nat.succ k) L) (cnd (ixB (.ofNat (Nat.succ k)) L) (cnd (apB 0 (lnE d (Nat.succ k))) (alt (eqN (Nat.succ k) s) (cnd (apB (lnE d (Nat.succ k)) 1) (cnd (apB (Nat.succ k) 1) (cnd (b63 (Nat.add (Nat.succ k) 1)) (Q .normal (v65 s (Nat.add (Nat.succ k) 1)) (apO (b3o L d v (.row 9 .sc (Nat.add (Nat.succ k) 1))) [some (ded (Nat.succ k) .sc),some (ded (lnE d (Nat.succ k)) vl),some (elE d v (Nat.succ k)),some (rwS k (.row 7 vl (Nat.add (lnE d (Nat.succ k)) 1)) e)]) 10))))
  (cnd (apB (Nat.succ k) 1) (cnd (b63 (Nat.add (Nat.succ k) 1)) (Q .normal (v65 s (Nat.add (Nat.succ k) 1)) (apO (b3o L d v (.row 7 .sc (Nat.add (Nat.succ k) 1))) [some (ded (Nat.succ k) .sc),some (elN d (Nat.succ k)),some (rwS k (.row 5 vl (lnE d (Nat.succ k))) e),none]) 8)))))) (Q (.exit 0) (v65 s (Nat.succ k)) (apO (b3o L d v (.row 4 .sc (Nat.succ k))) [some (yi (Nat.succ k) e),none,none,none]) 5):=by kernel_rfl
def zwh (L:Nat) (d:Dd) (s:Nat) (v:Cv) (e:Nat→KV) (k:Nat) (Q:QT) (R:RT):Prop:=pc EO0 65 (l65.drop 4) [] [4] (s65 L d s v e (Nat.succ k)) Q R
theorem zBK (L:Nat) (d:Dd) (s:Nat) (v:Cv) (e:Nat→KV) (k:Nat) (Q:QT) (R:RT):zwh L d s v e k Q R=R (.cons (.row 4 .sc (Nat.succ k)) .nl) [some (yi (Nat.succ k) e)] 5:=by kernel_rfl
end
end Go.K
set_option maxRecDepth 100000
namespace Go.K
open Go.Ab Go.RowKit Go.Y Go.Proofs
noncomputable section
attribute [local instance 10000] gO
open Classical in
noncomputable def vg (d:Dd) (s:Nat) (v:Cv):Dd:=⟨fun i=>if i=s then Nat.succ (d.cn i) else d.cn i,fun i j=>if i=s∧j=Nat.succ (d.cn i) then v else d.cv i j⟩
theorem zkJ {F:List Nat}{ρ:Nat→Nat}{n id k n1:Nat}{zm:KZ}{e:Shape}{b:KBlk}{f:Nat→V}{g:Nat→KV}(hF:id∈F) (hb:kb zm id=some b) (ha:wg b.k=true) (hv:b.v.v=.arr n1 f) (hfg:∀ i,i < k→f i=(g i).v) (hk:∀ i,zS 0 (g i)=true):RnF (am zm) F ρ n (KV.row id e k).v (KV.ro true false e 0 k (.fa k g)).v:=by
 have h:=RnF.row (ρ:=ρ) (n:=n) (e:=e) (k:=k) (g:=fun i=>(g i).v) hF (zJ hb) ((xk b.k b.sh b.v.v).trans ha) hv (fun i hi=>by
  rw[hfg i hi]
  exact RnF.nf (jm 0 _ (hk i)).1)
 show RnF (am zm) F ρ n (V.row id e k) (V.ro true false e k fun i=>(g (0 + i)).v)
 simpa only [Nat.zero_add] using h
attribute [local irreducible] kpre cOf mOf rOf JL zj l65 b65
theorem zE0:Tryz.f65.ntmps=37:=by kernel_rfl
theorem zE1:Tryz.f65.results.toList=rOf 65:=by kernel_rfl
theorem zE2:fl (cOf 65)=l65:=by kernel_rfl
noncomputable def zc8 (r i:Nat):Nat:=@Bool.rec (fun _=>Nat) i r (Nat.beq i 4)
section
variable {L:Nat}{d:Dd}{s:Nat}{v:Cv}{B N:Nat}
noncomputable abbrev eW (d:Dd) (s:Nat) (v:Cv):Nat→KV:=(vg d s v).el
theorem JJ (x:Cv):zS 0 x.k=true:=by kernel_rfl
theorem zkK (L:Nat) (d:Dd):zS 0 (bx 77 shD (dK L d)).v=true:=by kernel_rfl
theorem YI (d:Dd) (i:Nat):zS 0 (d.el i)=true:=by kernel_rfl
theorem zkL (d:Dd) (i:Nat):ubK (d.el i)=true:=by
 show nd true (ubK (.fa (Nat.succ (d.cn i)) fun j=>(d.cv i j).k))=true
 rw[XG fun j=>rfl]; rfl
theorem zuL (L:Nat) (d:Dd) (s:Nat) (v:Cv) (e:Nat→KV):∀ i,nd (ltL (s65 L d s v e i).2.2 (s65 L d s v e i).2.1) (jR (mOf 65) (s65 L d s v e i).1)=true
 | 0=>by kernel_rfl
 | k + 1=>by kernel_rfl
theorem pkW {F:List Nat}{zm:KZ}{r:Nat}{sh:Shape}(b:Nat) (h:zc8 r b=b) (hb:b < 5):RnV (am zm) F (zc8 r) 5 (KV.ptr b [] sh).v (KV.ptr b [] sh).v:=(show RnB (am zm) F (zc8 r) 5 (V.ptr b [] sh) (V.ptr b [] sh) from RnB.ptr h hb).v
theorem zkM {k r:Nat}{F:List Nat}{b:KBlk}{tr:KTm}{zm:KZ}(hF:zbU F (zc8 r) 5 (z65 L d v (eW d s v) (Nat.succ k))=true) (ht:[1,3,5,6,7,8].map (zn tr)=v65 s (Nat.succ k)) (hz:[0,1,2,3].map (kb zm)=b3o L d v (.row r .sc (Nat.succ k))) (hr:kb zm r=some b) (hbk:b.k=.row 258) (hbs:b.sh=.arr (Nat.succ k) .sc)
  (hb:RnB (am zm) F (zc8 r) 5 b.v.v (yi (Nat.succ k) (eW d s v)).v.v):atS (mOf 65) (s65 L d s v (eW d s v) (Nat.succ k)) tr zm:=by
 have h0:kb zm 0=some (bx 77 shD (dK L d)):=congrArg (fun l=>l.getD 0 none) hz
 have h1:kb zm 1=some (bx 163 vl v.k):=congrArg (fun l=>l.getD 1 none) hz
 have h2:kb zm 2=some (bx 77 shD (.cons .nils .nl)):=congrArg (fun l=>l.getD 2 none) hz
 have h3:kb zm 3=some (bx 77 shD (.cons (.row r .sc (Nat.succ k)) .nl)):=congrArg (fun l=>l.getD 3 none) hz
 refine atS.of (s:=s65 L d s v (eW d s v) (Nat.succ k)) F (zc8 r) (vs:=v65 s (Nat.succ k)) (os:=[some (bx 77 shD (dK L d)),some (bx 163 vl v.k),some (bx 77 shD (.cons .nils .nl)),some (bx 77 shD (.cons (.row r .sc (Nat.succ k)) .nl)),some b]) ht ?_ hF
  ⟨nfV rfl,pkW 0 rfl (ltk rfl),pkW 1 rfl (ltk rfl),pkW 2 rfl (ltk rfl),pkW 3 rfl (ltk rfl),nfV rfl,trivial⟩
  ⟨RnK.nf (zkK L d),RnK.nf (JJ v),RnK.nf rfl,RnK.mk' rfl rfl (RnB.cons (show RnB (am zm) F (zc8 r) 5 (V.row r .sc (Nat.succ k)) (V.row 4 .sc (Nat.succ k)) from RnB.row rfl (ltk rfl)) (nfB rfl)),⟨b,rfl,hbk,hbs,hb⟩,trivial⟩
 show [kb zm 0,kb zm 1,kb zm 2,kb zm 3,kb zm r]=_
 rw[h0,h1,h2,h3,hr]
noncomputable abbrev Q65 (L:Nat) (d:Dd) (s:Nat) (v:Cv):K4:=retJ EO0 Tryz.f65 true (dK L (vg d s v))
theorem zuM {i:Nat}(h:i≠s):(vg d s v).el i=d.el i:=by
 unfold Dd.el vg
 simp only[if_neg h,if_neg (fun q:i=s∧_=>h q.1)]
theorem zAA {zm:KZ}{ρ:Nat→Nat}{n id i:Nat}{F:List Nat}(hF:id∈F) (hb:kb zm id=some (elN d i)) (h:i≠s):RnB (am zm) F ρ n (KV.row id vl (lnE d i)).v (eW d s v i).v:=by
 show RnB (am zm) F ρ n (KV.row id vl (lnE d i)).v ((vg d s v).el i).v
 rw[zuM h]
 have e:lnE d i=Nat.succ (d.cn i):=by unfold lnE; rw[va]
 rw[e]
 refine (zkJ hF hb rfl (f:=fun j=>((d.cv (Nat.add 0 i) j).k).v) rfl (g:=fun j=>(d.cv i j).k) (fun j hj=>?_) fun j=>JJ _).b
 rw[va]
theorem zAB {zm:KZ}{ρ:Nat→Nat}{n id i:Nat}{F:List Nat}(hF:id∈F) (hb:kb zm id=some (elE d v i)) (h:i=s):RnB (am zm) F ρ n (KV.row id vl (Nat.add (lnE d i) 1)).v (eW d s v i).v:=by
 subst h
 have e:lnE d i=Nat.succ (d.cn i):=by unfold lnE; rw[va]
 have e2:(vg d i v).el i=.ro true false vl 0 (Nat.succ (Nat.succ (d.cn i))) (.fa (Nat.succ (Nat.succ (d.cn i))) fun j=>((vg d i v).cv i j).k):=by
  unfold Dd.el
  rw[show (vg d i v).cn i=Nat.succ (d.cn i) from if_pos rfl]
 show RnB (am zm) F ρ n (KV.row id vl (Nat.add (lnE d i) 1)).v ((vg d i v).el i).v
 rw[e2,e]
 refine (zkJ hF hb rfl (f:=fun j=>(ifN j (Nat.add (lnE d i) 0) v.k (d.cv (Nat.add 0 i) j).k).v) rfl (g:=fun j=>((vg d i v).cv i j).k) (fun j hj=>?_) fun j=>JJ _).b
 show (ifN j (Nat.add (lnE d i) 0) v.k (d.cv (Nat.add 0 i) j).k).v=((if i=i∧j=Nat.succ (d.cn i) then v else d.cv i j):Cv).k.v
 rw[jp,va,e]
 by_cases hj2:j=Nat.succ (d.cn i)
 ·rw[if_pos (show j=Nat.add (Nat.succ (d.cn i)) 0 from hj2),if_pos ⟨rfl,hj2⟩]
 ·rw[if_neg (show ¬ j=Nat.add (Nat.succ (d.cn i)) 0 from hj2),if_neg (fun q=>hj2 q.2)]
theorem zp2 {zm:KZ}{F:List Nat}{ρ:Nat→Nat}{x:KV}(h:RnB (am zm) F ρ 5 x.v (eW d s v 0).v):RnB (am zm) F ρ 5 (rw1 x).v.v (yi 1 (eW d s v)).v.v:=by
 refine RnB.arr fun j hj=>?_
 obtain rfl:j=0:=by omega
 exact h
theorem zp3 {zm:KZ}{F:List Nat}{ρ:Nat→Nat}{k:Nat}{x:KV}(h:RnB (am zm) F ρ 5 x.v (eW d s v (Nat.succ k)).v):RnB (am zm) F ρ 5 (rwS k x (eW d s v)).v.v (yi (Nat.succ (Nat.succ k)) (eW d s v)).v.v:=by
 refine RnB.arr fun j hj=>?_
 show RnB (am zm) F ρ 5 (ifN j (Nat.succ k) x (eW d s v j)).v (eW d s v j).v
 rw[jp]
 by_cases e:j=Nat.succ k
 ·rw[if_pos e,e]; exact h
 ·rw[if_neg e]; exact nfB (YI _ _)
theorem qd {a b:Nat}(h:a + b≤134217728):apB a b=true:=Nat.ble_eq_true_of_le h
theorem j65 (h1:0 < L) (h2:L < 1000) (h3:∀ i,i < L→d.cn i < 1000):JFn Tryz.prog 65 true [dK L d,nI s,v.k] (dK L (vg d s v)):=by
 refine JFn.of (P:=Tryz.prog) zr rfl (c:=cOf 65) (mOf 65) Tryz.func65 (by kernel_rfl) fun B N hN=>?_
 rw[zE0] at hN
 rw[zE2]
 refine JL.stp (n:=60) (s:=(z7 (mOf 65) 0 [dK L d,nI s,v.k],[],0)) zr rfl 3 (rOf 65) [1,3,5,6,7,8] [0,1,2,3] hN (by kernel_rfl) (by kernel_rfl) (fun v=>False) (fun v tr zm nx h1 h2 h3 h4=>h1.elim) ?_
 show zwe L d s v _ _
 rw[zBJ]
 intro tr zm ht hz hmb hi
 refine JL.loopT zr (fun i=>s65 L d s v (eW d s v) i) (fun i=>L - i) (fun i=>i≤L) (id:=0) (b:=b65) (l2:=l65.drop 4) (by kernel_rfl) (zuL L d s v _) 0 (Nat.zero_le _) ?_ hmb hi ?_
 ·exact atS.of (s:=s65 L d s v (eW d s v) 0) [] id ht hz (by kernel_rfl) ⟨jh _ rfl,xG (ltk rfl),xG (ltk rfl),xG (ltk rfl),xG (ltk rfl),jh _ rfl,trivial⟩ ⟨RnK.nf (zkK L d),RnK.nf (JJ v),RnK.nf rfl,RnK.nf rfl,trivial⟩
 intro i hi
 have el:∀ i,lnE d i=Nat.succ (d.cn i):=fun i=>by unfold lnE; rw[va]
 cases i with
 | zero =>
  refine JL.all (n:=60) zr rfl (rOf 65) [1,3,5,6,7,8] [0,1,2,3,4,6,8] hN (by kernel_rfl) (zuL L d s v _ 0) (fun v=>False) (fun v tr zm nx h1 h2 h3 h4=>h1.elim) ?_
  show zoE L d s v (eW d s v) _ _
  rw[zwf]
  have hc:=h3 0 h1
  refine zg.2 ⟨fun q=>za.2 ⟨xq.2 h1,za.2 ⟨qd (by rw[el]; omega),zg.2 ⟨fun q2=>za.2 ⟨qd (by rw[el]; omega),?_⟩,fun q2=>?_⟩⟩⟩,fun q=>absurd h1 (by have:=(bf xw).1 q; omega)⟩
  ·have q2:=z9.1 q2
   intro tr zm ht hz hmb hi
   have g6:kb zm 6=some (elE d v 0):=congrArg (fun l=>l.getD 5 none) hz
   have g8:kb zm 8=some (rw1 (.row 6 vl (Nat.add (lnE d 0) 1))):=congrArg (fun l=>l.getD 6 none) hz
   have hz':[0,1,2,3].map (kb zm)=b3o L d v (.row 8 .sc (Nat.succ 0)):=congrArg (fun l=>l.take 4) hz
   exact⟨1,by omega,by omega,zkM (r:=8) (F:=[6]) (by kernel_rfl) ht hz' g8 rfl rfl (zp2 (zAB (List.mem_singleton.2 rfl) g6 q2))⟩
  ·have q2:(0:Nat)≠s:=(bf z9).1 q2
   intro tr zm ht hz hmb hi
   have g4:kb zm 4=some (elN d 0):=congrArg (fun l=>l.getD 4 none) hz
   have g6:kb zm 6=some (rw1 (.row 4 vl (lnE d 0))):=congrArg (fun l=>l.getD 5 none) hz
   have hz':[0,1,2,3].map (kb zm)=b3o L d v (.row 6 .sc (Nat.succ 0)):=congrArg (fun l=>l.take 4) hz
   exact⟨1,by omega,by omega,zkM (r:=6) (F:=[4]) (by kernel_rfl) ht hz' g6 rfl rfl (zp2 (zAA (List.mem_singleton.2 rfl) g4 q2))⟩
 | succ k =>
  refine JL.all (n:=60) zr rfl (rOf 65) [1,3,5,6,7,8] [0,1,2,3,4,5,7,9] hN (by kernel_rfl) (zuL L d s v _ (k + 1)) (fun v=>False) (fun v tr zm nx h1 h2 h3 h4=>h1.elim) ?_
  show zoF L d s v (eW d s v) k _ _
  rw[zwg]
  refine zg.2 ⟨fun q=>?_,fun q=>?_⟩
  ·have q:=xw.1 q
   have hc:=h3 (Nat.succ k) q
   refine za.2 ⟨xq.2 q,za.2 ⟨qd (by rw[el]; omega),zg.2 ⟨fun q2=>za.2 ⟨qd (by rw[el]; omega),za.2 ⟨qd (by omega),za.2 ⟨zH.2 (by show k + 1 + 1 < _; omega),?_⟩⟩⟩,fun q2=>za.2 ⟨qd (by omega),za.2 ⟨zH.2 (by show k + 1 + 1 < _; omega),?_⟩⟩⟩⟩⟩
   ·have q2:=z9.1 q2
    intro tr zm ht hz hmb hi
    have g7:kb zm 7=some (elE d v (Nat.succ k)):=congrArg (fun l=>l.getD 6 none) hz
    have g9:kb zm 9=some (rwS k (.row 7 vl (Nat.add (lnE d (Nat.succ k)) 1)) (eW d s v)):=congrArg (fun l=>l.getD 7 none) hz
    have hz':[0,1,2,3].map (kb zm)=b3o L d v (.row 9 .sc (Nat.succ (Nat.succ k))):=congrArg (fun l=>l.take 4) hz
    exact⟨k + 2,by omega,by omega,zkM (k:=Nat.succ k) (r:=9) (F:=[7]) (by kernel_rfl) ht hz' g9 rfl rfl (zp3 (zAB (List.mem_singleton.2 rfl) g7 q2))⟩
   ·have q2:Nat.succ k≠s:=(bf z9).1 q2
    intro tr zm ht hz hmb hi
    have g5:kb zm 5=some (elN d (Nat.succ k)):=congrArg (fun l=>l.getD 5 none) hz
    have g7:kb zm 7=some (rwS k (.row 5 vl (lnE d (Nat.succ k))) (eW d s v)):=congrArg (fun l=>l.getD 6 none) hz
    have hz':[0,1,2,3].map (kb zm)=b3o L d v (.row 7 .sc (Nat.succ (Nat.succ k))):=congrArg (fun l=>l.take 4) hz
    exact⟨k + 2,by omega,by omega,zkM (k:=Nat.succ k) (r:=7) (F:=[5]) (by kernel_rfl) ht hz' g7 rfl rfl (zp3 (zAA (List.mem_singleton.2 rfl) g5 q2))⟩
  ·have q:¬ (Nat.succ k < L):=(bf xw).1 q
   obtain rfl:L=Nat.succ k:=by omega
   intro tr zm ht hz hmb hi
   show (if (0:Nat)=0 then JL EO0 B N (mOf 65) (l65.drop 4) tr zm 5 (Q65 (Nat.succ k) d s v) else Q65 (Nat.succ k) d s v (.exit 0) tr zm 5)
   rw[if_pos rfl]
   have g4:kb zm 4=some (yi (Nat.succ k) (eW d s v)):=congrArg (fun l=>l.getD 4 none) hz
   have hz':[0,1,2,3].map (kb zm)=b3o (Nat.succ k) d v (.row 4 .sc (Nat.succ k)):=congrArg (fun l=>l.take 4) hz
   refine JL.preS zr (zkM (r:=4) (F:=[]) (by kernel_rfl) ht hz' g4 rfl rfl (RnB.arr fun j hj=>nfB (YI _ _))) (vp (by kernel_rfl)) ?_
   have:=JL.goR (B:=B) (N:=N) (mask:=mOf 65) (l1:=l65.drop 4) (l2:=[]) (Q:=Q65 (Nat.succ k) d s v) (n:=60) zr rfl (rOf 65) [] [4] (lt0:=(s65 (Nat.succ k) d s v (eW d s v) (Nat.succ k)).1) (lz0:=(s65 (Nat.succ k) d s v (eW d s v) (Nat.succ k)).2.1) (n0:=5) hN (by kernel_rfl) (by kernel_rfl) ?_
   ·rwa [List.append_nil] at this
   ·show zwh (Nat.succ k) d s v (eW d s v) k _ _
    rw[zBK]
    intro tr zm hz hmb hi hr
    have g4:kb zm 4=some (yi (Nat.succ k) (eW d s v)):=congrArg (fun l=>l.getD 0 none) hz
    exact retJ.mk rfl zE1 (FzP.cons (FzP.row g4 rfl rfl fun i hi B C M h4 h5 mm hm=>R.allT_fr (zkL (vg d s v) i) _ hm) (FzP.noref rfl)) hr
end
end
end Go.K
set_option maxRecDepth 100000
namespace Go.K
open Go.Ab Go.RowKit Go.Y Go.Proofs
noncomputable section
attribute [local instance 10000] gO
abbrev P4w:=Nat×Dd×Nat×Cv
theorem zpR:qo Tryz.prog 65 (xM (fun x:P4w=>[dK x.1 x.2.1,nI x.2.2.1,x.2.2.2.k]) (fun x=>0 < x.1∧x.1 < 1000∧∀ i,i < x.1→x.2.1.cn i < 1000) fun x=>dK x.1 (vg x.2.1 x.2.2.1 x.2.2.2)):=jC ⟨Tryz.f65,Tryz.func65,by kernel_rfl,by kernel_rfl⟩ fun x h=>j65 h.1 h.2.1 h.2.2
noncomputable def zCv:Cv:=⟨false,0,0⟩
noncomputable def X2:Dd:=⟨fun _=>0,fun _ _=>zCv⟩
noncomputable def l71:List Code:=fl (cOf 71)
noncomputable def b71:Code:=lpB (blB (l71.getD 3 .skip))
noncomputable def z71 (e:Nat→KV) (i:Nat):List (Nat×KBlk):=@Nat.rec (fun _=>List (Nat×KBlk)) [(0,bx 77 shD (.cons .nils .nl)),(1,bx 77 shD (.cons .nils .nl))] (fun k _=>[(0,bx 77 shD (.cons .nils .nl)),(1,bx 77 shD (.cons (.row 2 .sc (Nat.succ k)) .nl)),(2,yi (Nat.succ k) e)]) i
noncomputable def n71 (i:Nat):Nat:=@Nat.rec (fun _=>Nat) 2 (fun _ _=>3) i
noncomputable def s71 (L:Nat) (e:Nat→KV) (i:Nat):LS:=([(0,nI L),(2,.ptr 0 [] shD),(3,.ptr 1 [] shD),(4,nI i)],z71 e i,n71 i)
noncomputable def v71 (L i:Nat):List KV:=[nI L,.ptr 0 [] shD,.ptr 1 [] shD,nI i]
noncomputable def o71 (o:KV):List (Option KBlk):=[some (bx 77 shD (.cons .nils .nl)),some (bx 77 shD (.cons o .nl))]
def zz7 (L:Nat) (Q:QT) (R:RT):Prop:=pc EO0 71 (l71.take 3) [0,2,3,4] [0,1] (z7 (mOf 71) 0 [nI L],[],0) Q R
theorem zEk (L:Nat) (Q:QT) (R:RT):zz7 L Q R=Q .normal (v71 L 0) (o71 .nils) 2:=by kernel_rfl
noncomputable def el1:KBlk:=⟨.row 163,.arr 1 vl,kAr 1 zCv.k fun _=>zCv.k⟩
def zpS (L:Nat) (e:Nat→KV) (Q:QT) (R:RT):Prop:=pc EO0 71 (fl b71) [0,2,3,4] [0,1,2,4] (s71 L e 0) Q R
theorem zz8 (L:Nat) (e:Nat→KV) (Q:QT) (R:RT):zpS L e Q R=alt (ltN 0 L) (Q .normal (v71 L 1) (apO (o71 (.row 4 .sc 1)) [some el1,some (rw1 (.row 2 vl 1))]) 5) (Q (.exit 0) (v71 L 0) (apO (o71 .nils) [none,none]) 2):=by kernel_rfl
def zpT (L:Nat) (e:Nat→KV) (k:Nat) (Q:QT) (R:RT):Prop:=pc EO0 71 (fl b71) [0,2,3,4] [0,1,2,3,5] (s71 L e (Nat.succ k)) Q R
theorem zz9 (L:Nat) (e:Nat→KV) (k:Nat) (Q:QT) (R:RT):zpT L e k Q R=alt (ltN (Nat.succ k) L) (cnd (apB (Nat.succ k) 1) (cnd (b63 (Nat.add (Nat.succ k) 1)) (Q .normal (v71 L (Nat.add (Nat.succ k) 1)) (apO (o71 (.row 5 .sc (Nat.add (Nat.succ k) 1))) [some (ded (Nat.succ k) .sc),some el1,some (rwS k (.row 3 vl 1) e)]) 6))) (Q (.exit 0) (v71 L (Nat.succ k)) (apO (o71 (.row 2 .sc (Nat.succ k))) [some (yi (Nat.succ k) e),none,none]) 3):=by kernel_rfl
def zAa (L:Nat) (e:Nat→KV) (k:Nat) (Q:QT) (R:RT):Prop:=pc EO0 71 (l71.drop 4) [] [2] (s71 L e (Nat.succ k)) Q R
theorem zEl (L:Nat) (e:Nat→KV) (k:Nat) (Q:QT) (R:RT):zAa L e k Q R=R (.cons (.row 2 .sc (Nat.succ k)) .nl) [some (yi (Nat.succ k) e)] 3:=by kernel_rfl
attribute [local irreducible] kpre cOf mOf rOf JL zj l71 b71
theorem zEm:Tryz.f71.ntmps=18:=by kernel_rfl
theorem zEo:Tryz.f71.results.toList=rOf 71:=by kernel_rfl
theorem zEp:fl (cOf 71)=l71:=by kernel_rfl
noncomputable def rh2 (r i:Nat):Nat:=@Bool.rec (fun _=>Nat) i r (Nat.beq i 2)
section
variable {L B N:Nat}
noncomputable abbrev eNw:Nat→KV:=X2.el
theorem zuj (L:Nat) (e:Nat→KV):∀ i,nd (ltL (s71 L e i).2.2 (s71 L e i).2.1) (jR (mOf 71) (s71 L e i).1)=true
 | 0=>by kernel_rfl
 | k + 1=>by kernel_rfl
theorem pk2 {F:List Nat}{zm:KZ}{r:Nat}{sh:Shape}(b:Nat) (h:rh2 r b=b) (hb:b < 3):RnV (am zm) F (rh2 r) 3 (KV.ptr b [] sh).v (KV.ptr b [] sh).v:=(show RnB (am zm) F (rh2 r) 3 (V.ptr b [] sh) (V.ptr b [] sh) from RnB.ptr h hb).v
theorem zuk {k r:Nat}{F:List Nat}{b:KBlk}{tr:KTm}{zm:KZ}(hF:zbU F (rh2 r) 3 (z71 eNw (Nat.succ k))=true) (ht:[0,2,3,4].map (zn tr)=v71 L (Nat.succ k)) (hz:[0,1].map (kb zm)=o71 (.row r .sc (Nat.succ k))) (hr:kb zm r=some b) (hbk:b.k=.row 258) (hbs:b.sh=.arr (Nat.succ k) .sc)
  (hb:RnB (am zm) F (rh2 r) 3 b.v.v (yi (Nat.succ k) eNw).v.v):atS (mOf 71) (s71 L eNw (Nat.succ k)) tr zm:=by
 have h0:kb zm 0=some (bx 77 shD (.cons .nils .nl)):=congrArg (fun l=>l.getD 0 none) hz
 have h1:kb zm 1=some (bx 77 shD (.cons (.row r .sc (Nat.succ k)) .nl)):=congrArg (fun l=>l.getD 1 none) hz
 refine atS.of (s:=s71 L eNw (Nat.succ k)) F (rh2 r) (vs:=v71 L (Nat.succ k)) (os:=[some (bx 77 shD (.cons .nils .nl)),some (bx 77 shD (.cons (.row r .sc (Nat.succ k)) .nl)),some b]) ht ?_ hF
  ⟨nfV rfl,pk2 0 rfl (ltk rfl),pk2 1 rfl (ltk rfl),nfV rfl,trivial⟩
  ⟨RnK.nf rfl,RnK.mk' rfl rfl (RnB.cons (show RnB (am zm) F (rh2 r) 3 (V.row r .sc (Nat.succ k)) (V.row 2 .sc (Nat.succ k)) from RnB.row rfl (ltk rfl)) (nfB rfl)),⟨b,rfl,hbk,hbs,hb⟩,trivial⟩
 show [kb zm 0,kb zm 1,kb zm r]=_
 rw[h0,h1,hr]
theorem zAb {zm:KZ}{ρ:Nat→Nat}{n id:Nat}{F:List Nat}(i:Nat) (hF:id∈F) (hb:kb zm id=some el1):RnB (am zm) F ρ n (KV.row id vl 1).v (eNw i).v:=by
 refine (zkJ hF hb rfl (f:=fun j=>KV.atv (xD zCv.k (enc 0) .te) (enc j) zCv.k.v) rfl (g:=fun j=>zCv.k) (fun j hj=>?_) fun j=>JJ _).b
 obtain rfl:j=0:=by omega
 rfl
theorem zul {zm:KZ}{F:List Nat}{ρ:Nat→Nat}{x:KV}(h:RnB (am zm) F ρ 3 x.v (eNw 0).v):RnB (am zm) F ρ 3 (rw1 x).v.v (yi 1 eNw).v.v:=by
 refine RnB.arr fun j hj=>?_
 obtain rfl:j=0:=by omega
 exact h
theorem zum {zm:KZ}{F:List Nat}{ρ:Nat→Nat}{k:Nat}{x:KV}(h:RnB (am zm) F ρ 3 x.v (eNw (Nat.succ k)).v):RnB (am zm) F ρ 3 (rwS k x eNw).v.v (yi (Nat.succ (Nat.succ k)) eNw).v.v:=by
 refine RnB.arr fun j hj=>?_
 show RnB (am zm) F ρ 3 (ifN j (Nat.succ k) x (eNw j)).v (eNw j).v
 rw[jp]
 by_cases e:j=Nat.succ k
 ·rw[if_pos e,e]; exact h
 ·rw[if_neg e]; exact nfB (YI _ _)
noncomputable abbrev Q71 (L:Nat):K4:=retJ EO0 Tryz.f71 true (dK L X2)
theorem j71 (h1:0 < L) (h2:L < 1000):JFn Tryz.prog 71 true [nI L] (dK L X2):=by
 refine JFn.of (P:=Tryz.prog) zr rfl (c:=cOf 71) (mOf 71) Tryz.func71 (by kernel_rfl) fun B N hN=>?_
 rw[zEm] at hN
 rw[zEp]
 refine JL.stp (n:=60) (s:=(z7 (mOf 71) 0 [nI L],[],0)) zr rfl 3 (rOf 71) [0,2,3,4] [0,1] hN (by kernel_rfl) (by kernel_rfl) (fun v=>False) (fun v tr zm nx h1 h2 h3 h4=>h1.elim) ?_
 show zz7 L _ _
 rw[zEk]
 intro tr zm ht hz hmb hi
 refine JL.loopT zr (fun i=>s71 L eNw i) (fun i=>L - i) (fun i=>i≤L) (id:=0) (b:=b71) (l2:=l71.drop 4) (by kernel_rfl) (zuj L _) 0 (Nat.zero_le _) ?_ hmb hi ?_
 ·exact atS.of (s:=s71 L eNw 0) [] id ht hz (by kernel_rfl) ⟨jh _ rfl,xG (ltk rfl),xG (ltk rfl),jh _ rfl,trivial⟩ ⟨RnK.nf rfl,RnK.nf rfl,trivial⟩
 intro i hi
 cases i with
 | zero =>
  refine JL.all (n:=60) zr rfl (rOf 71) [0,2,3,4] [0,1,2,4] hN (by kernel_rfl) (zuj L _ 0) (fun v=>False) (fun v tr zm nx h1 h2 h3 h4=>h1.elim) ?_
  show zpS L eNw _ _
  rw[zz8]
  refine zg.2 ⟨fun q=>?_,fun q=>absurd h1 (by have:=(bf xw).1 q; omega)⟩
  intro tr zm ht hz hmb hi
  have g2:kb zm 2=some el1:=congrArg (fun l=>l.getD 2 none) hz
  have g4:kb zm 4=some (rw1 (.row 2 vl 1)):=congrArg (fun l=>l.getD 3 none) hz
  have hz':[0,1].map (kb zm)=o71 (.row 4 .sc (Nat.succ 0)):=congrArg (fun l=>l.take 2) hz
  exact⟨1,by omega,by omega,zuk (r:=4) (F:=[2]) (by kernel_rfl) ht hz' g4 rfl rfl (zul (zAb 0 (List.mem_singleton.2 rfl) g2))⟩
 | succ k =>
  refine JL.all (n:=60) zr rfl (rOf 71) [0,2,3,4] [0,1,2,3,5] hN (by kernel_rfl) (zuj L _ (k + 1)) (fun v=>False) (fun v tr zm nx h1 h2 h3 h4=>h1.elim) ?_
  show zpT L eNw k _ _
  rw[zz9]
  refine zg.2 ⟨fun q=>?_,fun q=>?_⟩
  ·have q:=xw.1 q
   refine za.2 ⟨qd (by omega),za.2 ⟨zH.2 (by show k + 1 + 1 < _; omega),?_⟩⟩
   intro tr zm ht hz hmb hi
   have g3:kb zm 3=some el1:=congrArg (fun l=>l.getD 3 none) hz
   have g5:kb zm 5=some (rwS k (.row 3 vl 1) eNw):=congrArg (fun l=>l.getD 4 none) hz
   have hz':[0,1].map (kb zm)=o71 (.row 5 .sc (Nat.succ (Nat.succ k))):=congrArg (fun l=>l.take 2) hz
   exact⟨k + 2,by omega,by omega,zuk (k:=Nat.succ k) (r:=5) (F:=[3]) (by kernel_rfl) ht hz' g5 rfl rfl (zum (zAb _ (List.mem_singleton.2 rfl) g3))⟩
  ·have q:¬ (Nat.succ k < L):=(bf xw).1 q
   obtain rfl:L=Nat.succ k:=by omega
   intro tr zm ht hz hmb hi
   show (if (0:Nat)=0 then JL EO0 B N (mOf 71) (l71.drop 4) tr zm 3 (Q71 (Nat.succ k)) else Q71 (Nat.succ k) (.exit 0) tr zm 3)
   rw[if_pos rfl]
   have g2:kb zm 2=some (yi (Nat.succ k) eNw):=congrArg (fun l=>l.getD 2 none) hz
   have hz':[0,1].map (kb zm)=o71 (.row 2 .sc (Nat.succ k)):=congrArg (fun l=>l.take 2) hz
   refine JL.preS zr (zuk (r:=2) (F:=[]) (by kernel_rfl) ht hz' g2 rfl rfl (RnB.arr fun j hj=>nfB (YI _ _))) (vp (by kernel_rfl)) ?_
   have:=JL.goR (B:=B) (N:=N) (mask:=mOf 71) (l1:=l71.drop 4) (l2:=[]) (Q:=Q71 (Nat.succ k)) (n:=60) zr rfl (rOf 71) [] [2] (lt0:=(s71 (Nat.succ k) eNw (Nat.succ k)).1) (lz0:=(s71 (Nat.succ k) eNw (Nat.succ k)).2.1) (n0:=3) hN (by kernel_rfl) (by kernel_rfl) ?_
   ·rwa [List.append_nil] at this
   ·show zAa (Nat.succ k) eNw k _ _
    rw[zEl]
    intro tr zm hz hmb hi hr
    have g4:kb zm 2=some (yi (Nat.succ k) eNw):=congrArg (fun l=>l.getD 0 none) hz
    exact retJ.mk rfl zEo (FzP.cons (FzP.row g4 rfl rfl fun i hi B C M h4 h5 mm hm=>R.allT_fr (zkL X2 i) _ hm) (FzP.noref rfl)) hr
end
theorem zpU:qo Tryz.prog 71 (xM (fun L:Nat=>[nI L]) (fun L=>0 < L∧L < 1000) fun L=>dK L X2):=jC ⟨Tryz.f71,Tryz.func71,by kernel_rfl,by kernel_rfl⟩ fun x h=>j71 h.1 h.2
end
end Go.K
namespace Go.Proofs
open Go.RowKit Go.Maps Go.Sort
end Go.Proofs
namespace Go.K
open Go.Ab Go.RowKit Go.Y Go.Proofs
noncomputable section
attribute [local instance 10000] gO
structure Wr where
 sc:Int
 ln:Nat
 by':Nat→Nat
end
end Go.K
set_option maxRecDepth 100000
namespace Go.K
open Go.Ab Go.RowKit Go.Y Go.Proofs
noncomputable section
attribute [local instance 10000] gO
structure Vr where
 th:Bool
 ln:Nat
 by':Nat→Nat
 nm:Nat
noncomputable def roN (n:Nat) (b:Nat→Nat):KV:=.ro true false .sc 0 n (.fa n fun i=>kU8 (b i))
noncomputable def y9 (n:Nat) (b:Nat→Nat):KV:=.ro true true .sc 0 n (.fa n fun i=>kU8 (b i))
noncomputable def shV:Shape:=.cons .sc (.cons .sc (.cons .sc (.cons .sc .nl)))
noncomputable def shC:Shape:=.arr 64 .sc
noncomputable def Ys:Shape:=.cons .sc (.cons .sc (.cons .sc .nl))
noncomputable def Vr.c (v:Vr):KV:=.cons (.bool v.th) (.cons (roN v.ln v.by') (.cons (nI v.nm) (.cons .unk .nl)))
noncomputable def Vr.k (v:Vr):KV:=.ref true shV v.c
noncomputable def ZY (o:Option Vr):KV:=match o with
 | none=>.nilp
 | some v=>v.k
noncomputable def vm (o:Option Vr):KV:=.clo (ZY o)
abbrev Ck:=Nat→Nat→Option Vr
noncomputable def chK (f:Ck) (j:Nat):KV:=.ref true shC (.fa 64 fun i=>vm (f j i))
noncomputable def zta (q:Nat) (f:Ck):KV:=.ro true false .sc 0 q (.fa q (chK f))
noncomputable def dkK (L c q:Nat) (f:Ck):KV:=.cons (nI L) (.cons (nI c) (.cons (zta q f) .nl))
noncomputable def Ql (o:Option Vr):Nat:=match o with
 | none=>0
 | some v=>v.nm
noncomputable def lnO (o:Option Vr):Nat:=match o with
 | none=>0
 | some v=>@Bool.rec (fun _=>Nat) 0 v.ln v.th
noncomputable def thO (o:Option Vr):Bool:=match o with
 | none=>false
 | some v=>v.th
noncomputable def byO (o:Option Vr):Nat→Nat:=match o with
 | none=>fun _=>0
 | some v=>v.by'
noncomputable def erO (o:Option Vr):Nat:=@Bool.rec (fun _=>Nat) 11 0 (thO o)
noncomputable def ql (o:Option Vr):KV:=.tup (.cons (y9 (lnO o) (byO o)) (.cons (nI (erO o)) .nl))
noncomputable def c0B (a:Nat) (b:Nat→Nat) (i:Nat):Nat:=@Nat.rec (fun _=>Nat) a (fun k _=>b (Nat.succ k)) i
noncomputable def kdS (a:Nat):Nat:=@Nat.rec (fun _=>Nat) 0 (fun _ _=>1) a
noncomputable def zrI:zh:=fun l K=>la1 l fun v=>onN .u8 v fun a=>cnd (Nat.ble a 5) (K (nI (kdS a)))
structure GE where
 I:List Nat→Nat
 R:List Nat→Rc
 E:List Nat→Nat
 S:List Nat→En
 F:List Nat→Nat
noncomputable def za1 (y:GE):KEnv:=EO0.tab [(281,fun l K=>la1 l fun v=>Zf 4 v fun q=>K (tE2 (je (y.I q)) 0)),(282,fun l K=>la1 l fun v=>Zf 45 v fun q=>K (tE2 (y.R q).k (y.E q))),(283,fun l K=>la1 l fun v=>Zf 33 v fun q=>K (tE2 (y.S q).k (y.F q))),(217,zrI)]
def zit (y:GE) (n:Nat) (b:Nat→Nat) (K:KV→Prop):Prop:=zi (za1 y) (zj (za1 y) 300) 0 242 [y9 n (c0B 0 b)] .e 0 0 fun r _ _ _=>K r
def ziu (y:GE) (n l:Nat) (b:Nat→Nat) (K:KV→Prop):Prop:=zi (za1 y) (zj (za1 y) 300) 0 242 [y9 n (c0B (Nat.succ l) b)] .e 0 0 fun r _ _ _=>K r
noncomputable def xv:KV:=.cons (kU8 0) (.cons (je 0) (.cons (.ar 4 zc6 .te) (.cons (.ar 4 zc5 .te) .nl)))
noncomputable def bsL (f:Nat→Nat) (o n:Nat):List Nat:=lsF n fun i=>f (Nat.add o i)
noncomputable def zBV (y:GE) (f:Nat→Nat):KV:=.cons (kU8 0) (.cons (je (y.I (bsL f 1 4))) (.cons (.ar 4 zc6 (arT (fun w=>(y.R (bsL f (Nat.add 5 (Nat.mul 45 w)) 45)).k) 4)) (.cons (.ar 4 zc5 .te) .nl)))
noncomputable def zBW (y:GE) (l:Nat) (f:Nat→Nat):KV:=.cons (kU8 (Nat.succ l)) (.cons (je (y.I (bsL f 1 4))) (.cons (.ar 4 zc6 .te) (.cons (.ar 4 zc5 (arT (fun w=>(y.S (bsL f (Nat.add 5 (Nat.mul 33 w)) 33)).k) 4)) .nl)))
noncomputable def ptG (E:List Nat→Nat) (sz n:Nat) (f:Nat→Nat) (K:KV→Prop) (q:Prop):Nat→Nat→Prop:=@Nat.rec (fun _=>Nat→Prop) (fun _=>q) (fun _ ih w=>cnd (slB (.ofNat (Nat.add 5 (Nat.mul w sz))) (.ofNat (Nat.add 5 (Nat.mul (Nat.add w 1) sz))) n none) (alt (!(eqI (.ofNat (E (bsL f (Nat.add 5 (Nat.mul sz w)) sz))) 0)) (K (tE2 xv (E (bsL f (Nat.add 5 (Nat.mul sz w)) sz)))) (ih (Nat.succ w))))
def bdG (sz n:Nat) (K:KV→Prop) (q:Prop):Prop:=alt (ltI (.ofNat n) (.ofNat (Nat.add 5 (Nat.mul 4 sz)))) (K (tE2 xv 6)) (alt (ltI (.ofNat (Nat.add 5 (Nat.mul 4 sz))) (.ofNat n)) (K (tE2 xv 5)) (cnd (ixB 0 n) (cnd (slB (.ofNat 1) (.ofNat 5) n none) q)))
theorem zwp (y:GE) (n:Nat) (b:Nat→Nat) (K:KV→Prop):zit y n b K=alt (eqI (.ofNat n) 0) (K (tE2 xv 6)) (cnd (ixB 0 n) (cnd (ixB 0 n) (bdG 45 n K (ptG y.E 45 n (c0B 0 b) K (K (tE2 (zBV y (c0B 0 b)) 0)) 4 0)))):=by kernel_rfl
theorem zwq (y:GE) (n l:Nat) (b:Nat→Nat) (K:KV→Prop):ziu y n l b K=alt (eqI (.ofNat n) 0) (K (tE2 xv 6)) (cnd (ixB 0 n) (alt (ltI (.ofNat 5) (.ofNat (Nat.succ l))) (K (tE2 xv 1)) (cnd (ixB 0 n) (cnd (Nat.ble (Nat.succ l) 5) (bdG 33 n K (ptG y.F 33 n (c0B (Nat.succ l) b) K (K (tE2 (zBW y l (c0B (Nat.succ l) b)) 0)) 4 0)))))):=by kernel_rfl
noncomputable def zf7:List Code:=fl (cOf 120)
noncomputable def zf8:KEnv:=EO0.tab [(60,zba)]
def zpK (n st:Nat) (Q:QT) (R:RT):Prop:=pc zf8 120 (zf7.take 5) [0,2,4] [0,1] (z7 (mOf 120) 0 [.str n st],[],0) Q R
noncomputable def zkd (st:Nat):Nat:=Nat.mod (Nat.shiftRight st 0) 256
noncomputable def tB2 (v:KV) (b:Bool):KV:=.tup (.cons v (.cons (.bool b) .nl))
noncomputable def zt9 (v:KV):List (Option KBlk):=[some (bx 102 Qh xv),some (bx 102 Qh v)]
noncomputable def znk (a:Nat):KV:=.cons (kU8 a) (.cons (je 0) (.cons (.ar 4 zc6 .te) (.cons (.ar 4 zc5 .te) .nl)))
noncomputable def zzU (n st:Nat):List KV:=[.str n st,.ptr 0 [] Qh,.ptr 1 [] Qh]
def zeW (R:RT):Prop:=R (tB2 xv false) (zt9 xv) 2
def zpL (n st:Nat) (Q:QT):Prop:=cnd (ixB (.ofNat 0) n) (Q .normal (zzU n st) (zt9 (znk (zkd st))) 2)
def zpM (n st:Nat) (Q:QT) (R:RT):Prop:=cnd (ixB (.ofNat 0) n) (alt (ltI (.ofNat 0) (.ofNat (zkd st))) (alt (!(eqI (.ofNat n) 137)) (zeW R) (zpL n st Q)) (zpL n st Q))
theorem zzV (n st:Nat) (Q:QT) (R:RT):zpK n st Q R=alt (eqI (.ofNat n) 0) (zeW R) (cnd (ixB (.ofNat 0) n) (alt (ltI (.ofNat 5) (.ofNat (zkd st))) (zeW R) (cnd (ixB (.ofNat 0) n) (alt (eqI (.ofNat (zkd st)) 0) (alt (!(eqI (.ofNat n) 185)) (zeW R) (zpM n st Q R)) (zpM n st Q R))))):=by kernel_rfl
noncomputable def bSr (st i:Nat):Nat:=pkr .u8 st i
noncomputable def zcU (n st a:Nat):LS:=([(0,.str n st),(2,.ptr 0 [] Qh),(4,.ptr 1 [] Qh)],[(0,bx 102 Qh xv),(1,bx 102 Qh (znk a))],2)
def zeX (n st a:Nat) (Q:QT) (R:RT):Prop:=pc zf8 120 (zf7.drop 5) [] [] (zcU n st a) Q R
noncomputable def zf9 (v b:Nat):Nat:=Nat.mod (Nat.add (Nat.mod (Nat.mul v 256) 4294967296) (Nat.mod b 4294967296)) 4294967296
noncomputable def Qn (v b:Nat):Nat:=Nat.mod (Nat.add (Nat.mod (Nat.mul v 256) 18446744073709551616) (Nat.mod b 18446744073709551616)) 18446744073709551616
noncomputable def zcV (st o:Nat):Nat:=zf9 (zf9 (zf9 (zf9 0 (bSr st o)) (bSr st (Nat.add o 1))) (bSr st (Nat.add o 2))) (bSr st (Nat.add o 3))
noncomputable def zua (st o:Nat):Nat:=Qn (Qn (Qn (Qn (Qn (Qn (Qn (Qn 0 (bSr st o)) (bSr st (Nat.add o 1))) (bSr st (Nat.add o 2))) (bSr st (Nat.add o 3))) (bSr st (Nat.add o 4))) (bSr st (Nat.add o 5))) (bSr st (Nat.add o 6))) (bSr st (Nat.add o 7))
noncomputable def enR (st w:Nat):En:=⟨bSr st (Nat.add 5 (Nat.mul 33 w)),lsF 32 fun i=>bSr st (Nat.add (Nat.add 6 (Nat.mul 33 w)) i)⟩
noncomputable def atR (w:Nat):Nat:=Nat.add 5 (Nat.mul 45 w)
noncomputable def rcR (st w:Nat):Rc:=⟨bSr st (atR w),zcV st (Nat.add (atR w) 1),zua st (Nat.add (atR w) 5),lsF 32 fun i=>bSr st (Nat.add (Nat.add (atR w) 13) i)⟩
noncomputable def znl (l st:Nat):Nd:=⟨Nat.succ l,zcV st 1,fun _=>zRc,enR st⟩
noncomputable def zpN (l st:Nat):KV:=.cons (kU8 (Nat.succ l)) (.cons (je (zcV st 1)) (.cons (.ar 4 rcZ .te) (.cons (kAr 4 enZ fun w=>(enR st w).k) .nl)))
theorem zub (l st:Nat) (Q:QT) (R:RT):zeX 137 st (Nat.succ l) Q R=R (tB2 (zpN l st) (eqI (.ofNat ((znl l st).nf.e)) 0)) [] 2:=by kernel_rfl
noncomputable def znm (st:Nat):Nd:=⟨0,zcV st 1,rcR st,fun _=>zEn⟩
noncomputable def zpO (st:Nat):KV:=.cons (kU8 0) (.cons (je (zcV st 1)) (.cons (kAr 4 rcZ fun w=>(rcR st w).k) (.cons (.ar 4 enZ .te) .nl)))
theorem zuc (st:Nat) (Q:QT) (R:RT):zeX 185 st 0 Q R=R (tB2 (zpO st) (eqI (.ofNat ((znm st).nf.e)) 0)) [] 2:=by kernel_rfl
noncomputable def rcX (q:List Nat):Rc:=@ite _ ((rcG q).e=0) (Classical.propDecidable _) (rcG q) zRc
noncomputable def enX (q:List Nat):En:=@ite _ ((yo q).e=0) (Classical.propDecidable _) (yo q) zEn
theorem zuv:KOk EGr:=zr.tab (l:=[(125,zf3),(247,zf4)]) ⟨Zc,zcO,trivial⟩
theorem zkq (x:Rc) (e:Nat):zA (tE2 x.k e).v=true:=by kernel_rfl
theorem zkr (x:En) (e:Nat):zA (tE2 x.k e).v=true:=by kernel_rfl
theorem zuw (x:Nd) (e:Nat):zA (tE2 x.k e).v=true:=by kernel_rfl
theorem ze2 (x e:Nat):zA (tE2 (je x) e).v=true:=by kernel_rfl
theorem znx (n:Nat) (q:List Nat):vJ (mkL ([wL n q].map KV.v))=true:=by kernel_rfl
theorem zpW (k:IntKind) (a:Nat):kvb (.int k (.ofNat a)) (.int k (.ofNat a))=true:=by
 show nd (xa k k) (zlF (.ofNat a) (.ofNat a))=true
 refine zd.2 ⟨by cases k<;>rfl,?_⟩
 show Nat.beq a a=true
 exact Nat.beq_refl a
theorem zux (q:List Nat):kvb (zkC q) (zkC q)=true:=zd.2 ⟨zpW _ _,zd.2 ⟨zpW _ _,rfl⟩⟩
theorem Wc {a:Nat}:(!(eqI (.ofNat a) 0))=true↔a≠0:=by
 constructor
 ·intro h e
  rw[e] at h
  cases h
 ·intro h
  cases e:eqI (.ofNat a) 0 with
  | true=>exact absurd (wB (b:=0) |>.1 e) h
  | false=>rfl
theorem ze3 (l:List Nat) (k:Nat):Imp (zuI l k).v (kBy 32 (nN (lsF 32 fun i=>nN l (Nat.add k i)))).v:=by
 refine qV (n:=32) (f:=fun i=>kU8 (nN (lsF 32 fun i=>nN l (Nat.add k i)) i)) fun i hi=>?_
 show (arT (fun i=>kU8 (nN l (Nat.add k i))) 32).atv (enc i) (kU8 (nN l k)).v=_
 rw[y5 _ _ 32 i hi,vR hi]
theorem zks (l:List Nat):Imp (zAw l).v (rcG l).k.v:=Imp.cons (Imp.refl _) (Imp.cons (Imp.refl _) (Imp.cons (ze3 l 13) (Imp.refl _)))
theorem zny (l:List Nat):Imp (enK l).v (yo l).k.v:=Imp.cons (Imp.refl _) (Imp.cons (ze3 l 1) (Imp.refl _))
theorem Zh {a b:KV}(e:Nat) (h:Imp a.v b.v):Imp (tE2 a e).v (tE2 b e).v:=Imp.tup (Imp.cons h (Imp.refl _))
theorem zuy {f n:Nat}{w:List Nat→KV}(hf:Q4 f) (h:∀ q,KCS Tryz.prog f (zq [wL n q] (w q))) (hw:∀ q,zA (w q).v=true):KCS Tryz.prog f (fun l K=>la1 l fun v=>Zf n v fun q=>K (w q)):=⟨hf,fun l K hs=>by
 obtain⟨x,rfl,h1⟩:=j3 hs
 obtain⟨q,h2,rx⟩:=zcZ h1
 exact (za7 (h q) (l:=[x]) (l':=[wL n q]) (w:=w q) (fun C md hr=>R.cons_map (rx C) (fun md=>R.keep (zpV C) _ md) hr) (znx n q) (hw q) fun K hK=>⟨rfl,hK⟩).2 [x] K ⟨rfl,h2⟩⟩
theorem zEK:KCS Tryz.prog 281 (fun l K=>la1 l fun v=>Zf 4 v fun q=>K (tE2 (je (X3 q 0)) 0)):=zuy ⟨Tryz.f281,Tryz.func281,by kernel_rfl,by kernel_rfl⟩ (fun q=>xm ⟨Tryz.f281,Tryz.func281,by kernel_rfl,by kernel_rfl⟩ fun l K hs=>by
 obtain⟨rfl,hk⟩:=hs
 exact⟨EGr,zuv,rfl,300,fun r=>r=tE2 (je (X3 q 0)) 0,_,hk,ze2 _ _,fun r hr=>by rw[hr]; exact Imp.refl _,Eq.mpr (zEV q _) rfl⟩) fun q=>ze2 _ _
theorem zEL:KCS Tryz.prog 283 (fun l K=>la1 l fun v=>Zf 33 v fun q=>K (tE2 (enX q).k (yo q).e)):=zuy ⟨Tryz.f283,Tryz.func283,by kernel_rfl,by kernel_rfl⟩ (fun q=>xm ⟨Tryz.f283,Tryz.func283,by kernel_rfl,by kernel_rfl⟩ fun l K hs=>by
 obtain⟨rfl,hk⟩:=hs
 refine⟨EGr,zuv,rfl,300,fun r=>Imp r.v (tE2 (enX q).k (yo q).e).v,_,hk,zkr _ _,fun r hr=>hr,Eq.mpr (zEY q _) (zg.2 ⟨fun h=>?_,fun h=>?_⟩)⟩
 ·rw[show enX q=zEn from if_neg (Wc.1 h)]
  exact Zh _ yb
 ·have h0:(yo q).e=0:=Classical.byContradiction fun hn=>by rw[Wc.2 hn] at h; cases h
  rw[show enX q=yo q from if_pos h0,h0]
  exact Zh _ (zny q)) fun q=>zkr _ _
theorem zEM:KCS Tryz.prog 282 (fun l K=>la1 l fun v=>Zf 45 v fun q=>K (tE2 (rcX q).k (rcG q).e)):=zuy ⟨Tryz.f282,Tryz.func282,by kernel_rfl,by kernel_rfl⟩ (fun q=>xm ⟨Tryz.f282,Tryz.func282,by kernel_rfl,by kernel_rfl⟩ fun l K hs=>by
 obtain⟨rfl,hk⟩:=hs
 refine⟨EGr,zuv,rfl,300,fun r=>Imp r.v (tE2 (rcX q).k (rcG q).e).v,_,hk,zkq _ _,fun r hr=>hr,Eq.mpr (zEZ q _) (zg.2 ⟨fun _=>zg.2 ⟨fun h=>?_,fun h=>?_⟩,fun h=>by rw[zux] at h; cases h⟩)⟩
 ·rw[show rcX q=zRc from if_neg (Wc.1 h)]
  exact Zh _ qR
 ·have h0:(rcG q).e=0:=Classical.byContradiction fun hn=>by rw[Wc.2 hn] at h; cases h
  rw[show rcX q=rcG q from if_pos h0,h0]
  exact Zh _ (zks q)) fun q=>zkq _ _
end
end Go.K
