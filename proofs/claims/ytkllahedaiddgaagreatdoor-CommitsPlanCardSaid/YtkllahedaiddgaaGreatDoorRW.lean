/- The program's checks of one node of a working tree: their pieces. No condition. -/
import Derived.Test.YtkllahedaiddgaaGreatDoorCPS
import Derived.Test.YtkllahedaiddgaaGreatDoorNU
set_option linter.unusedSimpArgs false
set_option linter.unusedVariables false
set_option maxRecDepth 100000
namespace Go.K
open Go.Ab Go.RowKit Go.Y Go.Proofs
noncomputable section
attribute [local instance 10000] gO
noncomputable def wT (z:Un):Prop:=∃ i,i < 4∧(0 < (z.nd.rc i).st∨0 < (z.nd.en i).st)
noncomputable def Qi (e:En) (z:Un):Prop:=(wT z→e.eqb ⟨z.stS,z.nd.dg⟩=true)∧(¬ wT z→e.zb=true)
noncomputable def vQ (n:Nat) (c:Nat→Un) (l j w:Nat):Un:=c (zh n l (j4 j w))
noncomputable def y9 (n l j:Nat) (y:Un):Prop:=y.nd.lv=l∧y.nd.ix=j∧y.nd.fe n=0
noncomputable def vf (n:Nat) (c:Nat→Un) (l j:Nat) (y:Un) (p:Nat):Prop:=(∃ w,w < 4∧y.ch w=true)∨∃ k,l=Nat.succ k∧∃ w,w < p∧(vQ n c k j w).di=true
noncomputable def chP (l:Nat) (y:Un) (k:Nat):Prop:=∀ w,w < k→y.ch w=true→l=0∧(y.nd.rc w).st≠0
noncomputable def jE (n:Nat) (c:Nat→Un) (l j:Nat) (y:Un) (p:Nat):Prop:=∀ k,l=Nat.succ k→∀ w,w < p→Qi (y.nd.en w) (vQ n c k j w)
noncomputable def ziT (n:Nat) (c:Nat→Un) (l j:Nat) (y:Un):Prop:=chP l y 4∧(y.di=true↔vf n c l j y (zq n l j))∧jE n c l j y (zq n l j)
open Classical in
noncomputable def j0 (n:Nat) (c:Nat→Un) (l j:Nat):Nat:=if y9 n l j (c (zh n l j)) then (if ziT n c l j (c (zh n l j)) then 0 else 9) else 17
structure TrOk (n m:Nat) (c:Nat→Un):Prop where
 n24:zD n=true
 inm:∀ l j,isS n l j=true→zh n l j < m
 wl:∀ i,i < m→(c i).nd.wl
 wb:∀ i,i < m→(c i).nd.wb
 sl:∀ i,i < m→(c i).sl=0∨(c i).sl=1
theorem xg {n l j:Nat}(hn:zD n=true) (h:isS n l j=true):l≤2∧j < 6:=by
 obtain⟨n1,n2⟩:=zH hn
 obtain⟨m,rfl⟩:∃ m,n=Nat.succ m:=⟨n - 1,by omega⟩
 have hm:m < 24:=by omega
 have hl:l < 3:=by
  refine Classical.byContradiction fun hl=>?_
  obtain⟨k,rfl⟩:∃ k,l=Nat.add k 3:=⟨l - 3,by show l=l - 3 + 3; omega⟩
  rw[qe,Vo m k hm] at h
  omega
 have hc:=ZV m l hm hl
 have hi:=qe.1 h
 exact⟨by omega,by omega⟩
theorem Za {n l j w:Nat}(hn:zD n=true) (h:isS n (Nat.succ l) j=true) (hw:w < zq n (Nat.succ l) j):isS n l (j4 j w)=true:=by
 obtain⟨h1,h2⟩:=xg hn h
 obtain⟨h3,h4⟩:=qW hn h
 obtain⟨n1,n2⟩:=zH hn
 obtain⟨m,rfl⟩:∃ m,n=Nat.succ m:=⟨n - 1,by omega⟩
 have hm:m < 24:=by omega
 have hd:∀ m:Fin 24,∀ l:Fin 2,∀ j:Fin 6,∀ w:Fin 4,isS (Nat.succ m.1) (Nat.succ l.1) j.1=true→w.1 < zq (Nat.succ m.1) (Nat.succ l.1) j.1→isS (Nat.succ m.1) l.1 (j4 j.1 w.1)=true:=by decide
 exact hd ⟨m,hm⟩ ⟨l,by omega⟩ ⟨j,h2⟩ ⟨w,by omega⟩ h hw
theorem QW {x:Nd}(h:x.wl):x.nf.dg=x.dg:=by
 have a0:=Nd.nf_rc' h 0 (by omega); have a1:=Nd.nf_rc' h 1 (by omega); have a2:=Nd.nf_rc' h 2 (by omega); have a3:=Nd.nf_rc' h 3 (by omega)
 have b0:=Nd.nf_en' h 0 (by omega); have b1:=Nd.nf_en' h 1 (by omega); have b2:=Nd.nf_en' h 2 (by omega); have b3:=Nd.nf_en' h 3 (by omega)
 have e0:qs P32 P32 P64 x.nf=qs P32 P32 P64 x:=by unfold qs; rw[a0,a1,a2,a3]; rfl
 have e1:jx P32 x.nf=jx P32 x:=by unfold jx; rw[b0,b1,b2,b3]; rfl
 unfold Nd.dg
 rw[e0,e1]; rfl
theorem ziU {x:Nd}(h:x.wl) (hb:x.wb):x.nf.wb:=⟨hb.1,hb.2.1,fun i hi=>by rw[Nd.nf_rc' h i hi]; exact hb.2.2.1 i hi,fun i hi=>by rw[Nd.nf_en' h i hi]; exact hb.2.2.2 i hi⟩
theorem zo9 {n:Nat}{x:Nd}(h:x.wl):x.nf.fe n=x.fe n:=by
 have hk:=Nd.ok_congr (x:=x.nf) (y:=x) rfl (Nd.nf_rc' h) (Nd.nf_en' h)
 have hf:x.nf.fits n↔x.fits n:=by
  unfold Nd.fits
  rw[hk]
  constructor
  ·rintro⟨a,b,d⟩; exact⟨a,b,fun i hi hp=>by have:=d i hi hp; rw[Nd.nf_rc' h i hi,Nd.nf_en' h i hi] at this; exact this⟩
  ·rintro⟨a,b,d⟩; exact⟨a,b,fun i hi hp=>by rw[Nd.nf_rc' h i hi,Nd.nf_en' h i hi]; exact d i hi hp⟩
 unfold Nd.fe
 by_cases h1:x.ok
 ·rw[if_pos h1,if_pos (hk.2 h1)]
  by_cases h2:x.fits n
  ·rw[if_pos h2,if_pos (hf.2 h2)]
  ·rw[if_neg h2,if_neg fun q=>h2 (hf.1 q)]
 ·rw[if_neg h1,if_neg fun q=>h1 (hk.1 q)]
theorem j1 {a b:Nat}:eqN a b=true↔a=b:=yE
theorem xr {a b:Nat}:ltN a b=true↔a < b:=ZJ
theorem zeq {a:Nat}:gtZ a=true↔0 < a:=ZJ
theorem Zb {a b:Bool}:ZN a b=true↔a=b:=by cases a<;>cases b<;>decide
theorem xM {k m:Nat}:ixB (.ofNat k) m=true↔k < m:=zAp
theorem zC {μ:Mem}{n2:Nat}(v:KV) (h:xw 0 v=true):RnV μ [] id n2 v.v v.v:=(RnF.nf (jT 0 v h).1).b.v
theorem vg {μ:Mem}{n2 b:Nat}{s:Shape}(h:b < n2):RnV μ [] id n2 (KV.ptr b [] s).v (KV.ptr b [] s).v:=(RnB.ptr rfl h).v
theorem zw5:KCS Tryz.prog 117 zv4:=zjg.imp fun l K h=>by
 obtain⟨n,l,i,rfl,⟨h1,h2⟩,h4⟩:=Jv h
 show chk (nd (zD n) (isS n l i)) 922 (K _)
 rw[h1,h2]; exact h4
theorem vN:KOk vD:=zI.tab ⟨zcK,zCv,zw5,zeK,trivial⟩
attribute [local irreducible] kpre cOf mOf rOf JL zp jy ziD ziE XS ziF ZU zh
theorem zCP:Tryz.f110.results.toList=rOf 110:=by kernel_rfl
section
variable {n m:Nat}{c:Nat→Un}{l j:Nat}{B N:Nat}{a:Nat}
noncomputable abbrev j2 (a:Nat):K4:=retJ vD Tryz.f110 false (nI a)
theorem qj (v:KV) (tr:KTm) (zm:KZ) (nx:Nat) (h:v=nI a) (h1:MB (am zm) nx) (h2:INV (mOf 110) tr) (hr:RAll Tryz.prog (tv' (zn tr)) (am zm) (rOf 110) v.v):j2 a .ret tr zm nx:=by
 subst h
 exact retJ.mk rfl zCP (FzP.noref rfl) hr
theorem zpa (n m:Nat) (c:Nat→Un):xw 0 (zTr n m c).v=true:=by kernel_rfl
theorem ziV (y:Un):xw 0 (zUn y).v=true:=by kernel_rfl
theorem atB {y:Un}{w:Nat}{d:Bool}{tr:KTm}{zm:KZ}(ht:[1,2,3,7,8,9,10].map (zn tr)=vB n l j w d) (hz:[0,1].map (kb zm)=zB2 n m c y):atS (mOf 110) (sB n m c y l j w d) tr zm :=
 atS.of (s:=sB n m c y l j w d) [] id ht hz (by kernel_rfl) ⟨zC _ rfl,zC _ rfl,vg (ltk rfl),zC _ rfl,vg (ltk rfl),zC _ rfl,zC _ rfl,trivial⟩ ⟨RnK.nf (zpa n m c),RnK.nf (ziV y),trivial⟩
theorem atC {y:Un}{p w:Nat}{d:Bool}{tr:KTm}{zm:KZ}(ht:[1,2,3,7,8,9,11,12].map (zn tr)=vC n l j p w d) (hz:[0,1].map (kb zm)=zB2 n m c y):atS (mOf 110) (sC n m c y l j p w d) tr zm :=
 atS.of (s:=sC n m c y l j p w d) [] id ht hz (by kernel_rfl) ⟨zC _ rfl,zC _ rfl,vg (ltk rfl),zC _ rfl,vg (ltk rfl),zC _ rfl,zC _ rfl,zC _ rfl,trivial⟩ ⟨RnK.nf (zpa n m c),RnK.nf (ziV y),trivial⟩
theorem atF {y:Un}{p w:Nat}{tr:KTm}{zm:KZ}(ht:[1,2,3,7,8,11,13].map (zn tr)=vF n l j p w) (hz:[0,1].map (kb zm)=zB2 n m c y):atS (mOf 110) (sF n m c y l j p w) tr zm :=
 atS.of (s:=sF n m c y l j p w) [] id ht hz (by kernel_rfl) ⟨zC _ rfl,zC _ rfl,vg (ltk rfl),zC _ rfl,vg (ltk rfl),zC _ rfl,zC _ rfl,trivial⟩ ⟨RnK.nf (zpa n m c),RnK.nf (ziV y),trivial⟩
theorem atG {y z:Un}{p w i:Nat}{u:Bool}{tr:KTm}{zm:KZ}(ht:[1,2,3,7,8,11,13,14,15,16,17].map (zn tr)=vG n l j p w u i) (hz:[0,1,2,3].map (kb zm)=zG n m c y z):atS (mOf 110) (sG n m c y z l j p w u i) tr zm :=
 atS.of (s:=sG n m c y z l j p w u i) [] id ht hz (by kernel_rfl) ⟨zC _ rfl,zC _ rfl,vg (ltk rfl),zC _ rfl,vg (ltk rfl),zC _ rfl,zC _ rfl,vg (ltk rfl),vg (ltk rfl),zC _ rfl,zC _ rfl,trivial⟩ ⟨RnK.nf (zpa n m c),RnK.nf (ziV y),RnK.nf (ziV z),RnK.nf (by kernel_rfl),trivial⟩
theorem zCQ (hN:176≤N) (h0:a=0) (y:Un) (p w:Nat) (tr:KTm) (zm:KZ) (nx:Nat) (h:atS (mOf 110) (sF n m c y l j p w) tr zm):JL vD B N (mOf 110) (jy.drop 15) tr zm nx (j2 a):=by
 refine JL.preS vN h (xL (by kernel_rfl)) ?_
 refine JL.all (n:=60) vN rfl (rOf 110) [] [] hN (by kernel_rfl) (by kernel_rfl) (fun v=>v=nI a) qj ?_
 show pL n m c y l j p w _ _
 rw[eL,h0]
theorem vb (x:Nat):Nat.add 0 x=x:=Nat.zero_add x
noncomputable def zsW (z:Un) (i:Nat):Prop:=0 < (z.nd.rc i).st∨0 < (z.nd.en i).st
theorem zCR (hN:176≤N) (y z:Un) (p w:Nat) (Qb:K4) (hb:∀ v tr zm nx,v=nI a→MB (am zm) nx→INV (mOf 110) tr→RAll Tryz.prog (tv' (zn tr)) (am zm) (rOf 110) v.v→Qb .ret tr zm nx) (tr:KTm) (zm:KZ) (nx:Nat) (h:atS (mOf 110) (sG n m c y z l j p w false 0) tr zm) (m1:MB (am zm) nx) (m2:INV (mOf 110) tr)
  (hq:∀ u tr zm nx,(u=true↔wT z)→atS (mOf 110) (sG n m c y z l j p w u 4) tr zm→MB (am zm) nx→INV (mOf 110) tr→JL vD B N (mOf 110) ((fl ZU).drop 5) tr zm nx Qb):JL vD B N (mOf 110) ((fl ZU).drop 4) tr zm nx Qb:=by
 refine JL.loopT vN (fun x:Nat×Bool=>sG n m c y z l j p w x.2 x.1) (fun x=>4 - x.1) (fun x=>x.1≤4∧(x.2=true↔∃ i,i < x.1∧zsW z i)) (id:=6) (b:=ziF) (l2:=(fl ZU).drop 5) (by kernel_rfl) (fun x=>by kernel_rfl) (0,false) ⟨by omega,⟨fun h=>(by cases h),fun⟨i,hi,_⟩=>absurd hi (Nat.not_lt_zero i)⟩⟩ h m1 m2 ?_
 rintro⟨i,u⟩ ⟨hi4,hu⟩
 refine JL.all (n:=60) vN rfl (rOf 110) [1,2,3,7,8,11,13,14,15,16,17] [0,1,2,3] hN (by kernel_rfl) (by kernel_rfl) (fun v=>v=nI a) hb ?_
 show pH n m c y z l j p w u i _ _
 by_cases h4:i < 4
 ·rw[eH h4]
  cases u with
  | true =>
   intro tr zm ht hz hmb hi
   exact⟨(Nat.succ i,true),by show 4 - (i + 1) < 4 - i; omega,⟨by show i + 1≤4; omega,⟨fun _=>by
    obtain⟨k,hk,h⟩:=hu.1 rfl
    exact⟨k,by show k < i + 1; have:k < i:=hk; omega,h⟩,fun _=>rfl⟩⟩,atG ht hz⟩
  | false =>
   have hno:∀ k,k < i→¬ zsW z k:=fun k hk h=>by have:=hu.2 ⟨k,hk,h⟩; cases this
   show alt _ _ _
   simp only[zo,zeq,bf zeq]
   refine⟨fun hg=>?_,fun hg=>?_⟩
   ·intro tr zm ht hz hmb hi
    exact⟨(Nat.succ i,true),by show 4 - (i + 1) < 4 - i; omega,⟨by show i + 1≤4; omega,⟨fun _=>⟨i,Nat.lt_succ_self i,.inl hg⟩,fun _=>rfl⟩⟩,atG ht hz⟩
   ·intro tr zm ht hz hmb hi
    refine⟨(Nat.succ i,gtZ (z.nd.en i).st),by show 4 - (i + 1) < 4 - i; omega,⟨by show i + 1≤4; omega,⟨fun h=>⟨i,Nat.lt_succ_self i,.inr (zeq.1 h)⟩,?_⟩⟩,atG ht hz⟩
    rintro⟨k,hk,hu'⟩
    have hk':k < i + 1:=hk
    by_cases e:k=i
    ·subst e
     rcases hu' with h | h
     ·exact absurd h hg
     ·exact zeq.2 h
    ·exact absurd hu' (hno k (by omega))
 ·obtain rfl:i=4:=by have:i≤4:=hi4; omega
  rw[eH4]
  intro tr zm ht hz hmb hi
  show (if 6=6 then _ else _)
  rw[if_pos rfl]
  exact hq u tr zm 4 hu (atG ht hz) hmb hi
theorem zCS (H:TrOk n m c) (hs:isS n l j=true) (hk2:∀ k w,l=Nat.succ k→w < zq n l j→(vQ n c k j w).nd.lv≤2) (hN:176≤N) (y:Un)
  (h0:jE n c l j y (zq n l j)→a=0) (h9:¬ jE n c l j y (zq n l j)→a=9) (tr:KTm) (zm:KZ) (nx:Nat) (h:atS (mOf 110) (sF n m c y l j (zq n l j) 0) tr zm) (m1:MB (am zm) nx) (m2:INV (mOf 110) tr):JL vD B N (mOf 110) (jy.drop 14) tr zm nx (j2 a):=by
 obtain⟨hl2,hj6⟩:=xg H.n24 hs
 obtain⟨hp1,hp4⟩:=qW H.n24 hs
 generalize hp:zq n l j=p at *
 refine JL.loopT vN (fun w=>sF n m c y l j p w) (fun w=>p - w) (fun w=>w≤p∧jE n c l j y w) (id:=4) (b:=XS) (l2:=jy.drop 15) (by kernel_rfl) (fun w=>by kernel_rfl) 0 ⟨by omega,fun k _ w hw=>absurd hw (Nat.not_lt_zero w)⟩ h m1 m2 ?_
 rintro w ⟨hw,hI⟩
 refine JL.stp (n:=60) vN rfl 2 (rOf 110) [1,2,3,7,8,11,13] [0,1] hN (by kernel_rfl) (by kernel_rfl) (fun v=>v=nI a) (fun v tr zm nx h1 h2 h3 h4=>qj v tr zm nx h1 h2 h3 h4) ?_
 show pF n m c y l j p w _ _
 have out:jE n c l j y p→∀ tr zm nx,[1,2,3,7,8,11,13].map (zn tr)=vF n l j p w→[0,1].map (kb zm)=zB2 n m c y→JL vD B N (mOf 110) (jy.drop 15) tr zm nx (j2 a):=fun he tr zm nx ht hz=>zCQ hN (h0 he) y p w tr zm nx (atF ht hz)
 cases l with
 | zero =>
  rw[eF0]
  have he:jE n c 0 j y p:=fun k hk=>by cases hk
  simp only[zo]
  refine⟨fun _=>?_,fun _=>?_⟩
  ·intro tr zm ht hz hmb hi
   show (if (4:Nat)=4 then JL vD B N (mOf 110) (jy.drop 15) tr zm 2 (j2 a) else j2 a (.exit 4) tr zm 2)
   rw[if_pos rfl]
   exact out he tr zm 2 ht hz
  ·intro tr zm ht hz hmb hi
   show (if (4:Nat)=4 then JL vD B N (mOf 110) (jy.drop 15) tr zm 2 (j2 a) else j2 a (.exit 4) tr zm 2)
   rw[if_pos rfl]
   exact out he tr zm 2 ht hz
 | succ k =>
  rw[eFs]
  simp only[zo,xr,bf xr]
  refine⟨fun hwp=>?_,fun hwp=>?_⟩
  ·intro tr zm ht hz hmb hi
   have hkid:isS n k (j4 j w)=true:=Za H.n24 hs (by rw[hp]; exact hwp)
   have hidx:=H.inm k (j4 j w) hkid
   have hw4:w < 4:=by omega
   have hj4:j4 j w=4 * j + w:=rfl
   show JL vD B N (mOf 110) ((fl XS).drop 2) tr zm 2 _
   refine JL.blk (id:=5) (X:=ZU) (l2:=(fl XS).drop 3) (by kernel_rfl) hmb hi ?_
   refine JL.preS vN (atF (n:=n) (m:=m) (c:=c) ht hz) (xL (by kernel_rfl)) ?_
   refine JL.stp (n:=60) vN rfl 4 (rOf 110) [1,2,3,7,8,11,13,14,15,16,17] [0,1,2,3] hN (by kernel_rfl) (by kernel_rfl) (fun v=>v=nI a) (fun v tr zm nx h1 h2 h3 h4=>qj v tr zm nx h1 h2 h3 h4) ?_
   show pG n m c y (Nat.succ k) j p w _ _
   rw[eG]
   simp only[zd,xb,xM,vb]
   refine⟨by show k < _; omega,by show 4 * j < _; omega,by rw[hj4]; omega,⟨H.n24,by omega,by rw[hj4]; omega⟩,hidx,?_⟩
   intro tr zm ht hz hmb hi
   let z:=c (zh n k (j4 j w))
   have hzl:z.nd.wl:=H.wl _ hidx
   have hzb:z.nd.wb:=H.wb _ hidx
   have hzs:z.sl=0∨z.sl=1:=H.sl _ hidx
   have hz2:z.nd.lv≤2:=hk2 k w rfl hwp
   show JL vD B N (mOf 110) ((fl ZU).drop 4) tr zm 4 _
   refine zCR (a:=a) (B:=B) hN y z p w _ ?_ tr zm 4 (atG ht hz) hmb hi ?_
   ·exact fun v tr zm nx h1 h2 h3 h4=>qj v tr zm nx h1 h2 h3 h4
   intro u tr zm nx hu hat hmb hi
   refine JL.preS vN hat (xL (by kernel_rfl)) ?_
   refine JL.all (n:=60) vN rfl (rOf 110) [1,2,3,7,8,11,13] [0,1] hN (by kernel_rfl) (by kernel_rfl) (fun v=>v=nI a) (fun v tr zm nx h1 h2 h3 h4=>qj v tr zm nx h1 h2 h3 h4) ?_
   show pI n m c y z (Nat.succ k) j p w u _ _
   have next:Qi (y.nd.en w) z→∀ tr zm,[1,2,3,7,8,11,13].map (zn tr)=vF n (Nat.succ k) j p w→[0,1].map (kb zm)=zB2 n m c y→MB (am zm) 4→INV (mOf 110) tr→JL vD B N (mOf 110) ((fl XS).drop 3) tr zm 4 (fun e tr zm nx=>match e with
     | .normal=>∃ s',p - s' < p - w∧(s'≤p∧jE n c (Nat.succ k) j y s')∧atS (mOf 110) (sF n m c y (Nat.succ k) j p s') tr zm
     | .exit i=>if i=4 then JL vD B N (mOf 110) (jy.drop 15) tr zm nx (j2 a) else j2 a (.exit i) tr zm nx
     | e=>j2 a e tr zm nx):=by
    intro he tr zm ht hz hmb hi
    refine JL.preS vN (atF (n:=n) (m:=m) (c:=c) ht hz) (xL (by kernel_rfl)) ?_
    refine JL.all (n:=60) vN rfl (rOf 110) [1,2,3,7,8,11,13] [0,1] hN (by kernel_rfl) (by kernel_rfl) (fun v=>v=nI a) (fun v tr zm nx h1 h2 h3 h4=>qj v tr zm nx h1 h2 h3 h4) ?_
    show pJ n m c y (Nat.succ k) j p w _ _
    rw[eJ]
    simp only[zd,xb]
    refine⟨by show w + 1 < _; omega,?_⟩
    intro tr zm ht hz hmb hi
    refine⟨w + 1,by omega,⟨by omega,?_⟩,atF ht hz⟩
    intro k' hk' w' hw'
    by_cases e:w'=w
    ·cases hk'; rw[e]; exact he
    ·exact hI k' hk' w' (by omega)
   have bad:¬ Qi (y.nd.en w) z→nI 9=nI a:=fun hb=>by rw[h9 fun he=>hb (he k rfl w hwp)]
   cases u with
   | false =>
    have hnu:¬ wT z:=fun h=>by have:=hu.2 h; cases this
    rw[eI0 hw4]
    simp only[zo,Bool.not_eq_true',Bool.not_eq_false']
    refine⟨fun hb=>bad fun he=>(by rw[he.2 hnu] at hb; cases hb),fun hb=>?_⟩
    intro tr zm ht hz hmb hi
    exact next ⟨fun h=>absurd h hnu,fun _=>hb⟩ tr zm ht hz hmb hi
   | true =>
    have hU:wT z:=hu.1 rfl
    rw[eI1 hw4 hzs]
    unfold fIx
    rw[QW hzl]
    simp only[zo,Bool.not_eq_true',Bool.not_eq_false']
    refine⟨⟨ziU hzl hzb,hz2⟩,fun hb=>bad fun he=>(by rw[he.1 hU] at hb; cases hb),fun hb=>?_⟩
    intro tr zm ht hz hmb hi
    exact next ⟨fun _=>hb,fun h=>absurd hU h⟩ tr zm ht hz hmb hi
  ·intro tr zm ht hz hmb hi
   show (if (4:Nat)=4 then JL vD B N (mOf 110) (jy.drop 15) tr zm 2 (j2 a) else j2 a (.exit 4) tr zm 2)
   rw[if_pos rfl]
   have:w=p:=by omega
   rw[this] at hI
   exact out hI tr zm 2 ht hz
theorem zCT (H:TrOk n m c) (hs:isS n l j=true) (hk2:∀ k w,l=Nat.succ k→w < zq n l j→(vQ n c k j w).nd.lv≤2) (hN:176≤N) (y:Un) (d:Bool) (hd:d=true↔∃ w,w < 4∧y.ch w=true)
  (h0:(y.di=true↔vf n c l j y (zq n l j))→jE n c l j y (zq n l j)→a=0) (h9:¬ ((y.di=true↔vf n c l j y (zq n l j))∧jE n c l j y (zq n l j))→a=9) (tr:KTm) (zm:KZ) (nx:Nat) (h:atS (mOf 110) (sC n m c y l j (zq n l j) 0 d) tr zm) (m1:MB (am zm) nx) (m2:INV (mOf 110) tr):JL vD B N (mOf 110) (jy.drop 10) tr zm nx (j2 a):=by
 obtain⟨hl2,hj6⟩:=xg H.n24 hs
 obtain⟨hp1,hp4⟩:=qW H.n24 hs
 have znv:=fun hN hd0 hd9=>zCS (B:=B) (N:=N) (a:=a) H hs hk2 hN y hd0 hd9
 generalize hp:zq n l j=p at *
 refine JL.loopT vN (fun x:Nat×Bool=>sC n m c y l j p x.1 x.2) (fun x=>p - x.1) (fun x=>x.1≤p∧(x.2=true↔vf n c l j y x.1)) (id:=2) (b:=ziE) (l2:=jy.drop 11) (by kernel_rfl) (fun w=>by kernel_rfl) (0,d) ⟨by show 0≤p; omega,?_⟩ h m1 m2 ?_
 ·show d=true↔vf n c l j y 0
  rw[hd]
  exact⟨fun h=>.inl h,fun h=>h.elim id fun⟨_,_,w,hw,_⟩=>absurd hw (Nat.not_lt_zero w)⟩
 rintro⟨w,e⟩ ⟨hw,hI⟩
 have hw:w≤p:=hw
 have hI:e=true↔vf n c l j y w:=hI
 refine JL.all (n:=60) vN rfl (rOf 110) [1,2,3,7,8,9,11,12] [0,1] hN (by kernel_rfl) (by kernel_rfl) (fun v=>v=nI a) (fun v tr zm nx h1 h2 h3 h4=>qj v tr zm nx h1 h2 h3 h4) ?_
 show pD n m c y l j p w e _ _
 have out:(e=true↔vf n c l j y p)→∀ tr zm,[1,2,3,7,8,9,11,12].map (zn tr)=vC n l j p w e→[0,1].map (kb zm)=zB2 n m c y→MB (am zm) 2→INV (mOf 110) tr→JL vD B N (mOf 110) (jy.drop 11) tr zm 2 (j2 a):=by
  intro he tr zm ht hz hmb hi
  refine JL.preS vN (atC (n:=n) (m:=m) (c:=c) ht hz) (xL (by kernel_rfl)) ?_
  refine JL.stp (n:=60) vN rfl 3 (rOf 110) [1,2,3,7,8,11,13] [0,1] hN (by kernel_rfl) (by kernel_rfl) (fun v=>v=nI a) qj ?_
  show pE n m c y l j p w e _ _
  rw[eE]
  simp only[zo,Bool.not_eq_true',Bool.not_eq_false',bf Zb,Zb]
  have hdi:(y.di=true↔vf n c l j y p)↔y.di=e:=by
   rw[←he]
   cases y.di<;>cases e<;>simp
  refine⟨fun hb=>(by rw[h9 fun hg=>hb (hdi.1 hg.1)]),fun hb=>?_⟩
  intro tr zm ht hz hmb hi
  show JL vD B N (mOf 110) ((jy.drop 11).drop 3) tr zm 2 (j2 a)
  rw[List.drop_drop]
  exact znv hN (fun he2=>h0 (hdi.2 hb) he2) (fun he2=>h9 fun hg=>he2 hg.2) tr zm 2 (atF ht hz) hmb hi
 have ext:(e=true↔vf n c l j y p)→∀ tr zm,[1,2,3,7,8,9,11,12].map (zn tr)=vC n l j p w e→[0,1].map (kb zm)=zB2 n m c y→MB (am zm) 2→INV (mOf 110) tr→(if (2:Nat)=2 then JL vD B N (mOf 110) (jy.drop 11) tr zm 2 (j2 a) else j2 a (.exit 2) tr zm 2):=by
  intro he tr zm ht hz hmb hi
  rw[if_pos rfl]
  exact out he tr zm ht hz hmb hi
 cases l with
 | zero =>
  rw[eD0]
  have he:e=true↔vf n c 0 j y p:=by
   rw[hI]
   exact⟨fun h=>h.elim .inl fun⟨_,hk,_⟩=>(by cases hk),fun h=>h.elim .inl fun⟨_,hk,_⟩=>(by cases hk)⟩
  simp only[zo]
  exact⟨fun _=>ext he,fun _=>ext he⟩
 | succ k =>
  have stop:p≤w→(e=true↔vf n c (Nat.succ k) j y p):=fun h=>by
   have:w=p:=by omega
   rw[←this]; exact hI
  cases e with
  | true =>
   rw[eDt]
   simp only[zo,xr,bf xr,zd,xb]
   refine⟨fun hwp=>⟨by show w + 1 < _; omega,?_⟩,fun hwp=>ext (stop (by omega))⟩
   intro tr zm ht hz hmb hi
   refine⟨(w + 1,true),by show p - (w + 1) < p - w; omega,⟨by show w + 1≤p; omega,⟨fun _=>?_,fun _=>rfl⟩⟩,atC ht hz⟩
   rcases hI.1 rfl with h | ⟨k',hk',w',hw',hd'⟩
   ·exact .inl h
   ·exact .inr ⟨k',hk',w',by show w' < w + 1; omega,hd'⟩
  | false =>
   rw[eDf]
   have hno:∀ P:Prop,(P→vf n c (Nat.succ k) j y w)→¬ P:=fun P hP hq=>by have:=hI.2 (hP hq); cases this
   simp only[zo,xr,bf xr,zd,xb,xM,vb]
   refine⟨fun hwp=>?_,fun hwp=>ext (stop (by omega))⟩
   have hkid:isS n k (j4 j w)=true:=Za H.n24 hs (by rw[hp]; exact hwp)
   have hidx:=H.inm k (j4 j w) hkid
   have hj4:j4 j w=4 * j + w:=rfl
   refine⟨by show k < _; omega,by show 4 * j < _; omega,by rw[hj4]; omega,⟨H.n24,by omega,by rw[hj4]; omega⟩,hidx,by show w + 1 < _; omega,?_⟩
   intro tr zm ht hz hmb hi
   refine⟨(w + 1,(vQ n c k j w).di),by show p - (w + 1) < p - w; omega,⟨by show w + 1≤p; omega,⟨fun h=>.inr ⟨k,rfl,w,Nat.lt_succ_self w,h⟩,?_⟩⟩,atC ht hz⟩
   rintro (h | ⟨k',hk',w',hw',hd'⟩)
   ·exact absurd h (hno _ .inl)
   ·cases hk'
    have hw'':w' < w + 1:=hw'
    by_cases e:w'=w
    ·rw[←e]; exact hd'
    ·exact absurd ⟨k,rfl,w',by omega,hd'⟩ (hno _ .inr)
theorem zCU (H:TrOk n m c) (hs:isS n l j=true) (hk2:∀ k w,l=Nat.succ k→w < zq n l j→(vQ n c k j w).nd.lv≤2) (hN:176≤N) (y:Un) (d:Bool) (hd:d=true↔∃ w,w < 4∧y.ch w=true)
  (h0:(y.di=true↔vf n c l j y (zq n l j))→jE n c l j y (zq n l j)→a=0) (h9:¬ ((y.di=true↔vf n c l j y (zq n l j))∧jE n c l j y (zq n l j))→a=9) (tr:KTm) (zm:KZ) (nx:Nat) (h:atS (mOf 110) (sB n m c y l j 4 d) tr zm):JL vD B N (mOf 110) (jy.drop 8) tr zm nx (j2 a):=by
 refine JL.preS vN h (xL (by kernel_rfl)) ?_
 refine JL.stp (n:=60) vN rfl 2 (rOf 110) [1,2,3,7,8,9,11,12] [0,1] hN (by kernel_rfl) (by kernel_rfl) (fun v=>v=nI a) qj ?_
 show pC n m c y l j d _ _
 rw[eC]
 refine⟨⟨H.n24,hs⟩,?_⟩
 intro tr zm ht hz hmb hi
 show JL vD B N (mOf 110) ((jy.drop 8).drop 2) tr zm 2 (j2 a)
 rw[List.drop_drop]
 exact zCT H hs hk2 hN y d hd h0 h9 tr zm 2 (atC ht hz) hmb hi
theorem zCV (H:TrOk n m c) (hs:isS n l j=true) (hk2:∀ k w,l=Nat.succ k→w < zq n l j→(vQ n c k j w).nd.lv≤2) (hN:176≤N) (y:Un)
  (h0:ziT n c l j y→a=0) (h9:¬ ziT n c l j y→a=9) (tr:KTm) (zm:KZ) (nx:Nat) (h:atS (mOf 110) (sB n m c y l j 0 false) tr zm) (m1:MB (am zm) nx) (m2:INV (mOf 110) tr):JL vD B N (mOf 110) (jy.drop 7) tr zm nx (j2 a):=by
 refine JL.loopT vN (fun x:Nat×Bool=>sB n m c y l j x.1 x.2) (fun x=>4 - x.1) (fun x=>x.1≤4∧(x.2=true↔∃ i,i < x.1∧y.ch i=true)∧chP l y x.1) (id:=0) (b:=ziD) (l2:=jy.drop 8) (by kernel_rfl) (fun w=>by kernel_rfl) (0,false) ⟨by show 0≤4; omega,⟨fun h=>(by cases h),fun⟨i,hi,_⟩=>absurd hi (Nat.not_lt_zero i)⟩,fun w hw=>absurd hw (Nat.not_lt_zero w)⟩ h m1 m2 ?_
 rintro⟨w,d⟩ ⟨hw,hI,hc⟩
 have hw:w≤4:=hw
 have hI:d=true↔∃ i,i < w∧y.ch i=true:=hI
 have hc:chP l y w:=hc
 refine JL.all (n:=60) vN rfl (rOf 110) [1,2,3,7,8,9,10] [0,1] hN (by kernel_rfl) (by kernel_rfl) (fun v=>v=nI a) (fun v tr zm nx h1 h2 h3 h4=>qj v tr zm nx h1 h2 h3 h4) ?_
 show pB n m c y l j w d _ _
 by_cases h4:w < 4
 ·rw[eB h4]
  have next:(y.ch w=true→l=0∧(y.nd.rc w).st≠0)→∀ tr zm,[1,2,3,7,8,9,10].map (zn tr)=vB n l j (Nat.succ w) (@Bool.rec (fun _=>Bool) (y.ch w) true d)→[0,1].map (kb zm)=zB2 n m c y→MB (am zm) 2→INV (mOf 110) tr→∃ s':Nat×Bool,4 - s'.1 < 4 - w∧(s'.1≤4∧(s'.2=true↔∃ i,i < s'.1∧y.ch i=true)∧chP l y s'.1)∧atS (mOf 110) (sB n m c y l j s'.1 s'.2) tr zm:=by
   intro hg tr zm ht hz hmb hi
   refine⟨(Nat.succ w,@Bool.rec (fun _=>Bool) (y.ch w) true d),by show 4 - (w + 1) < 4 - w; omega,⟨by show w + 1≤4; omega,?_,?_⟩,atB ht hz⟩
   ·cases d with
    | true =>
     refine⟨fun _=>?_,fun _=>rfl⟩
     obtain⟨i,hi,h⟩:=hI.1 rfl
     exact⟨i,by show i < w + 1; omega,h⟩
    | false =>
     refine⟨fun h=>⟨w,Nat.lt_succ_self w,h⟩,fun⟨i,hi,h⟩=>?_⟩
     have hi':i < w + 1:=hi
     by_cases e:i=w
     ·rw[e] at h; exact h
     ·have:=hI.2 ⟨i,by omega,h⟩; cases this
   ·intro i hi h
    have hi':i < w + 1:=hi
    by_cases e:i=w
    ·rw[e] at h ⊢; exact hg h
    ·exact hc i (by omega) h
  have bad:(y.ch w=true∧¬ (l=0∧(y.nd.rc w).st≠0))→nI 9=nI a:=fun hb=>by rw[h9 fun hg=>hb.2 (hg.1 w h4 hb.1)]
  unfold fBn
  simp only[zo]
  refine⟨fun hb=>?_,fun hb=>next fun h=>(by rw[h] at hb; cases hb)⟩
  cases l with
  | zero =>
   show alt _ _ _
   simp only[zo,jp,bf jp]
   exact⟨fun hz=>bad ⟨hb,fun q=>q.2 hz⟩,fun hz=>next fun _=>⟨rfl,hz⟩⟩
  | succ k=>exact bad ⟨hb,fun q=>by cases q.1⟩
 ·obtain rfl:w=4:=by omega
  rw[eB4]
  intro tr zm ht hz hmb hi
  show (if (0:Nat)=0 then JL vD B N (mOf 110) (jy.drop 8) tr zm 2 (j2 a) else j2 a (.exit 0) tr zm 2)
  rw[if_pos rfl]
  exact zCU H hs hk2 hN y d hI (fun q1 q2=>h0 ⟨hc,q1,q2⟩) (fun q=>h9 fun hg=>q hg.2) tr zm 2 (atB ht hz)
end
#print axioms zCV
end
end Go.K
set_option maxRecDepth 100000
namespace Go.K
open Go.Ab Go.RowKit Go.Y Go.Proofs
noncomputable section
attribute [local instance 10000] gO
noncomputable def hS (n:Nat):Nat:=@Bool.rec (fun _=>Nat) (@Bool.rec (fun _=>Nat) 2 1 (Nat.beq (zx n 1) 1)) 0 (Nat.beq (zx n 0) 1)
noncomputable def zi (n:Nat):Nat:=Nat.succ (zh n (hS n) 0)
noncomputable def sHt:zf:=fun l K=>la1 l fun a=>z9 a fun n=>zD n=true∧K (nI (hS n))
noncomputable def zFJ:zf:=fun l K=>la1 l fun a=>z9 a fun n=>zD n=true∧K (nI (zi n))
noncomputable def zFK:zf:=fun l K=>la2 l fun a b=>z9 a fun n=>z9 b fun l=>(zD n=true∧l≤2)∧K (nI (zx n l))
noncomputable def zJI (f n:Nat) (w:KV):Prop:=zk EO0 (zp EO0 200) 0 f [nI n] .e 0 0 fun r _ _ _=>tK (kvb r w)
noncomputable def zJJ (f n l:Nat) (w:KV):Prop:=zk EO0 (zp EO0 200) 0 f [nI n,nI l] .e 0 0 fun r _ _ _=>tK (kvb r w)
noncomputable def zbo (f:Nat) (w:Nat→KV) (q:Bool):Prop:=xT (fun n=>@Bool.rec (fun _=>Prop) True (zJI f (Nat.succ n) (w (Nat.succ n))) q) 24
noncomputable def zeY (f:Nat) (w:Nat→Nat→KV) (q:Bool):Prop:=xT (fun n=>xT (fun l=>@Bool.rec (fun _=>Prop) True (zJJ f (Nat.succ n) l (w (Nat.succ n) l)) q) 3) 24
theorem zzE (f:Nat) (w:Nat→KV):zbo f w false:=z6 (fun n=>trivial) 24
theorem zrE (f:Nat) (w:Nat→Nat→KV):zeY f w false:=z6 (fun n=>z6 (fun l=>trivial) 3) 24
theorem zJK:zbo 28 (fun n=>nI (hS n)) true=zbo 28 (fun n=>nI (hS n)) false:=by kernel_rfl
theorem zFL:zbo 104 (fun n=>nI (zi n)) true=zbo 104 (fun n=>nI (zi n)) false:=by kernel_rfl
theorem zJL:zeY 81 (fun n l=>nI (zx n l)) true=zeY 81 (fun n l=>nI (zx n l)) false:=by kernel_rfl
theorem ztG {f:Nat}(hf:JB f) {w:Nat→KV}(hr:∀ n,xi (w n).v=true) (h:zbo f w true=zbo f w false):KCS Tryz.prog f fun l K=>la1 l fun a=>z9 a fun n=>zD n=true∧K (w n) :=
 jV hf fun l K hs=>by
  obtain⟨a,rfl,h1⟩:=wz hs
  obtain⟨n,rfl,h2,hk⟩:=zu h1
  obtain⟨n1,n2⟩:=zH h2
  obtain⟨m,rfl⟩:∃ m,n=Nat.succ m:=⟨n - 1,by omega⟩
  exact⟨EO0,zI,rfl,200,_,_,hk,hr _,fun r hr=>by rw[jm (XY hr)]; exact Imp.refl _,zQ (Eq.mpr h (zzE _ _):zbo f w true) m (by omega)⟩
theorem kHt:KCS Tryz.prog 28 sHt:=ztG ⟨Tryz.f28,Tryz.func28,by kernel_rfl,by kernel_rfl⟩ (fun n=>rfl) zJK
theorem zJM:KCS Tryz.prog 104 zFJ:=ztG ⟨Tryz.f104,Tryz.func104,by kernel_rfl,by kernel_rfl⟩ (fun n=>rfl) zFL
theorem znc:KCS Tryz.prog 81 zFK:=jV ⟨Tryz.f81,Tryz.func81,by kernel_rfl,by kernel_rfl⟩ fun l K hs=>by
  obtain⟨a,b,rfl,h1⟩:=qt hs
  obtain⟨n,rfl,h2⟩:=zu h1
  obtain⟨l,rfl,⟨h3,h4⟩,hk⟩:=zu h2
  obtain⟨n1,n2⟩:=zH h3
  obtain⟨m,rfl⟩:∃ m,n=Nat.succ m:=⟨n - 1,by omega⟩
  exact⟨EO0,zI,rfl,200,_,_,hk,rfl,fun r hr=>by rw[jm (XY hr)]; exact Imp.refl _,zQ (zQ (Eq.mpr zJL (zrE _ _):zeY 81 _ true) m (by omega)) l (by omega)⟩
abbrev P5:=Nat×Nat×(Nat→Un)×Nat×Nat
noncomputable def zrF (z:Int):Bool:=eqI z (.ofNat 0)
noncomputable def zzF (z:Int):Bool:=eqI z (.ofNat 1)
noncomputable def leN (a b:Nat):Bool:=leI (.ofNat a) (.ofNat b)
end
end Go.K
set_option maxRecDepth 100000
namespace Go.K
open Go.Ab Go.RowKit Go.Y Go.Proofs
noncomputable section
attribute [local instance 10000] gO
noncomputable def qX (m:Nat) (c:Nat→Un):Prop:=∀ i,i < m→(c i).sl=0∨(c i).sl=1
noncomputable def wU (l' j' l j:Nat):Prop:=l' < l∨(l'=l∧j' < j)
structure IsChk (n m:Nat) (c:Nat→Un) (a:Nat):Prop where
 bad:¬ qX m c→a=1
 fine:qX m c→(∀ l j,isS n l j=true→j0 n c l j=0)→a=0
 fst:qX m c→∀ l j,isS n l j=true→(∀ l' j',isS n l' j'=true→wU l' j' l j→j0 n c l' j'=0)→j0 n c l j≠0→a=j0 n c l j
structure TrOk0 (n m:Nat) (c:Nat→Un):Prop where
 n24:zD n=true
 tot:m=zi n
 wl:∀ i,i < m→(c i).nd.wl
 wb:∀ i,i < m→(c i).nd.wb
theorem qY {n l j:Nat}(hn:zD n=true) (h:isS n l j=true):zh n l j < zi n:=by
 obtain⟨h1,h2⟩:=xg hn h
 obtain⟨n1,n2⟩:=zH hn
 obtain⟨m,rfl⟩:∃ m,n=Nat.succ m:=⟨n - 1,by omega⟩
 have hd:∀ m:Fin 24,∀ l:Fin 3,∀ j:Fin 6,isS (Nat.succ m.1) l.1 j.1=true→zh (Nat.succ m.1) l.1 j.1 < zi (Nat.succ m.1):=by decide
 exact hd ⟨m,by omega⟩ ⟨l,by omega⟩ ⟨j,h2⟩ h
theorem TrOk0.ok {n m:Nat}{c:Nat→Un}(H:TrOk0 n m c) (hs:qX m c):TrOk n m c:=⟨H.n24,fun l j h=>by rw[H.tot]; exact qY H.n24 h,H.wl,H.wb,hs⟩
theorem zja {n:Nat}(hn:zD n=true):hS n≤2∧zx n (hS n)=1∧∀ l j,isS n l j=true→l≤hS n:=by
 obtain⟨n1,n2⟩:=zH hn
 obtain⟨m,rfl⟩:∃ m,n=Nat.succ m:=⟨n - 1,by omega⟩
 have hd:∀ m:Fin 24,hS (Nat.succ m.1)≤2∧zx (Nat.succ m.1) (hS (Nat.succ m.1))=1∧∀ l:Fin 3,∀ j:Fin 6,isS (Nat.succ m.1) l.1 j.1=true→l.1≤hS (Nat.succ m.1):=by decide
 obtain⟨a,b,d⟩:=hd ⟨m,by omega⟩
 refine⟨a,b,fun l j h=>?_⟩
 obtain⟨h1,h2⟩:=xg hn h
 exact d ⟨l,by omega⟩ ⟨j,h2⟩ h
theorem zjb {E:KEnv}{B N mask:Nat}{Q:K4}{tr:KTm}{zm:KZ}{nx:Nat}{l:List Code}(hl:l=[]) (h:Q .normal tr zm nx):JL E B N mask l tr zm nx Q:=by subst hl; exact h
attribute [local irreducible] kpre cOf mOf rOf JL zp zh hS zi zx
section
variable {n m:Nat}{c:Nat→Un}{B N a:Nat}
noncomputable def zpZ (n:Nat) (c:Nat→Un) (l j:Nat):Prop:=∀ l' j',isS n l' j'=true→wU l' j' l j→j0 n c l' j'=0
theorem XU {l j:Nat}(h:j0 n c l j=0):y9 n l j (c (zh n l j)):=by
 refine Classical.byContradiction fun hp=>?_
 unfold j0 at h
 rw[if_neg hp] at h
 cases h
theorem zC8 {p q:Prop}(i:Nat) [Decidable (i=i)] (h:p):if i=i then p else q:=by rw[if_pos rfl]; exact h
end
end
end Go.K
set_option maxRecDepth 100000
namespace Go.K
open Go.Ab Go.RowKit Go.Y Go.Proofs
noncomputable section
attribute [local instance 10000] gO
noncomputable def onZ (v:KV) (f:Int→Prop):Prop:=xm (fun k a=>chk (xn k .i64) 940 (f a)) (BadN 941) v
theorem zEC {v:KV}{f:Int→Prop}(h:onZ v f):∃ a,v=.int .i64 a∧f a:=by
 rcases zF h with ⟨k,a,rfl,h1⟩ | ⟨_,h1⟩
 ·obtain⟨h2,h3⟩:=ze h1
  obtain rfl:=zJ h2
  exact⟨a,rfl,h3⟩
 ·exact h1.elim
noncomputable def zqH (v:KV) (f:Bool→Prop):Prop:=jv f (BadN 942) v
theorem zk9 {v:KV}{f:Bool→Prop}(h:zqH v f):∃ b,v=.bool b∧f b:=by
 rcases xX h with ⟨b,rfl,h1⟩ | ⟨_,h1⟩
 ·exact⟨b,rfl,h1⟩
 ·exact h1.elim
theorem zqI {v:KV}{f:Bool→Prop}(h:zqH v f):∃ b,True∧Imp v.v (KV.bool b).v∧f b:=by
 obtain⟨b,rfl,h⟩:=zk9 h
 exact⟨b,trivial,Imp.refl _,h⟩
noncomputable def zyj (v:KV) (f:Un→Prop):Prop:=onC v fun a r=>XZ a fun nd=>onC r fun b r=>onZ b fun sl=>onC r fun d r=>zqH d fun di=>onC r fun e r=>on4 zqH e fun ch=>onE r (f ⟨nd,sl,di,ch⟩)
theorem zla {v:KV}{f:Un→Prop}(h:zyj v f):∃ x:Un,x.nd.wl∧Imp v.v x.k.v∧f x:=by
 obtain⟨a,r,rfl,h1⟩:=v5 h
 obtain⟨nd,w,i1,h2⟩:=wP h1
 obtain⟨b,r,rfl,h3⟩:=v5 h2
 obtain⟨sl,rfl,h4⟩:=zEC h3
 obtain⟨d,r,rfl,h5⟩:=v5 h4
 obtain⟨di,rfl,h6⟩:=zk9 h5
 obtain⟨e,r,rfl,h7⟩:=v5 h6
 obtain⟨ch,_,i2,h8⟩:=zij (z:=.bool false) (k:=KV.bool) (W:=fun _=>True) (fun v f h=>zqI h) h7
 obtain⟨rfl,h9⟩:=Ju h8
 exact⟨⟨nd,sl,di,ch⟩,w,Imp.cons i1 (Imp.cons (Imp.refl _) (Imp.cons (Imp.refl _) (Imp.cons i2 (Imp.refl _)))),h9⟩
noncomputable def stU (x:Nd) (i:Nat):Nat:=@Nat.rec (fun _=>Nat) (x.rc i).st (fun _ _=>(x.en i).st) x.lv
noncomputable def inc (f:Nat→Nat) (i a:Nat):Nat:=@Bool.rec (fun _=>Nat) (Nat.succ a) a (eZ (f i))
noncomputable def JC (f:Nat→Nat):Nat:=inc f 3 (inc f 2 (inc f 1 (inc f 0 0)))
noncomputable def usF (f:Nat→Nat) (K:KV→Prop) (k:Nat):Nat→Prop:=@Nat.rec (fun _=>Nat→Prop) (fun a=>K (nI a)) (fun k ih a=>alt (!eZ (f (Nat.sub 3 k))) (ih (Nat.succ a)) (ih a)) k
noncomputable def ztn (x:Nd) (K:KV→Prop):Prop:=zk EO0 (zp EO0 60) 0 234 [(z0 x).k] .e 0 0 fun r _ _ _=>K r
noncomputable def zto (l:Nat) (x:Nd) (K:KV→Prop):Prop:=zk EO0 (zp EO0 60) 0 234 [(s1 l x).k] .e 0 0 fun r _ _ _=>K r
theorem zED (x:Nd) (K:KV→Prop):ztn x K=usF (fun i=>(x.rc i).st) K 4 0:=by kernel_rfl
theorem zEE (l:Nat) (x:Nd) (K:KV→Prop):zto l x K=usF (fun i=>(x.en i).st) K 4 0:=by kernel_rfl
theorem zlb (f:Nat→Nat):usF f (Is (nI (JC f))) 4 0:=by
 have st:∀(k a:Nat) (q:Nat→Prop),q (inc f k a)→alt (!eZ (f k)) (q (Nat.succ a)) (q a):=fun k a q h=>by
  unfold inc at h
  cases hz:eZ (f k) with
  | true=>rw[hz] at h; exact h
  | false=>rw[hz] at h; exact h
 exact st 0 0 (fun a=>usF f (Is (nI (JC f))) 3 a) (st 1 _ (fun a=>usF f (Is (nI (JC f))) 2 a) (st 2 _ (fun a=>usF f (Is (nI (JC f))) 1 a) (st 3 _ (fun a=>usF f (Is (nI (JC f))) 0 a) (Is.rfl' _))))
noncomputable def Nd.us (x:Nd):Nat:=JC (stU x)
noncomputable def ztp:zf:=fun l K=>la1 l fun v=>XZ v fun x=>K (nI x.us)
theorem zEF:KCS Tryz.prog 234 ztp:=XV zI rfl ⟨Tryz.f234,Tryz.func234,by kernel_rfl,by kernel_rfl⟩ 60 (fun v f h=>wP h) (fun x=>rfl) fun x w=>by
 obtain⟨lv,ix,rc,en⟩:=x
 cases lv with
 | zero =>
  show ztn ⟨0,ix,rc,en⟩ (Is (nI (JC fun i=>(rc i).st)))
  rw[zED]
  exact zlb _
 | succ l =>
  show zto l ⟨Nat.succ l,ix,rc,en⟩ (Is (nI (JC fun i=>(en i).st)))
  rw[zEE]
  exact zlb _
noncomputable def zyk:KEnv:=EO0.tab [(234,ztp),(158,zeJ)]
theorem zEG:KOk zyk:=zI.tab ⟨zEF,zlo,trivial⟩
noncomputable def zqJ (z:Un) (K:KV→Prop):Prop:=zk zyk (zp zyk 100) 0 177 [z.k] .e 0 0 fun r _ _ _=>K r
noncomputable def f177 (z:Un) (st:Nat) (K:KV→Prop):Prop:=alt (eZ z.nd.nf.us) (K enZ) (YD z.nd.nf∧K (.cons (kU8 st) (.cons (kBy 32 (nN z.nd.nf.dg)) .nl)))
theorem zqK (z:Un) (K:KV→Prop):zqJ (z.w 0 false) K=f177 z 1 K:=by kernel_rfl
theorem zqL (z:Un) (K:KV→Prop):zqJ (z.w 0 true) K=f177 z 2 K:=by kernel_rfl
theorem zqM (z:Un) (K:KV→Prop):zqJ (z.w 1 false) K=f177 z 2 K:=by kernel_rfl
theorem zqN (z:Un) (K:KV→Prop):zqJ (z.w 1 true) K=f177 z 1 K:=by kernel_rfl
noncomputable def Un.ent (z:Un):En:=@Bool.rec (fun _=>En) ⟨z.stS,z.nd.dg⟩ ⟨0,[]⟩ (eZ z.nd.us)
noncomputable def Qk (z:Un):Prop:=z.nd.ok∧z.nd.lv≤2∧(z.sl=0∨z.sl=1)
theorem ztq {x:Nd}(h:x.wl):x.nf.us=x.us:=by
 have a0:=Nd.nf_rc' h 0 (by omega); have a1:=Nd.nf_rc' h 1 (by omega); have a2:=Nd.nf_rc' h 2 (by omega); have a3:=Nd.nf_rc' h 3 (by omega)
 have b0:=Nd.nf_en' h 0 (by omega); have b1:=Nd.nf_en' h 1 (by omega); have b2:=Nd.nf_en' h 2 (by omega); have b3:=Nd.nf_en' h 3 (by omega)
 have e:∀ i,i < 4→stU x.nf i=stU x i:=fun i hi=>by
  show @Nat.rec (fun _=>Nat) (x.nf.rc i).st (fun _ _=>(x.nf.en i).st) x.lv=_
  rw[Nd.nf_rc' h i hi,Nd.nf_en' h i hi]; rfl
 unfold Nd.us JC inc
 rw[e 0 (by omega),e 1 (by omega),e 2 (by omega),e 3 (by omega)]
theorem zyl:Imp enZ.v (⟨0,[]⟩:En).k.v:=by
 refine Imp.cons (Imp.refl _) (Imp.cons ?_ (Imp.refl _))
 show Imp (.arr 32 _) _
 exact yn fun i hi=>by
  have:nN [] i=0:=rfl
  rw[this]; rfl
noncomputable def zEH:zf:=fun l K=>la1 l fun v=>zyj v fun z=>Qk z∧K z.ent.k
theorem zqO {z:Un}(hw:z.nd.wl) (hk:z.nd.ok) (hl:z.nd.lv≤2):f177 z z.stS (Is z.ent.k):=by
 unfold f177
 rw[ztq hw,QW hw]
 unfold Un.ent
 cases hu:eZ z.nd.us with
 | true =>
  show Is _ enZ
  exact zyl
 | false =>
  show YD z.nd.nf∧Is _ _
  exact⟨⟨Z5 hw hk,hl⟩,Imp.refl _⟩
attribute [local irreducible] zk zp f177
theorem zIO:KCS Tryz.prog 177 zEH:=zIF (pre:=Qk) zEG rfl ⟨Tryz.f177,Tryz.func177,by kernel_rfl,by kernel_rfl⟩ 100 (fun v f h=>zla h) (fun z=>by show xi _=true; rfl) fun z w hp=>by
 obtain⟨hk,hl,hs⟩:=hp
 have h:=zqO (z:=z) w hk hl
 obtain⟨nd,sl,di,ch⟩:=z
 rcases (show sl=0∨sl=1 from hs) with rfl | rfl
 ·cases di with
  | false=>exact Eq.mpr (zqK ⟨nd,0,false,ch⟩ (Is (Un.ent ⟨nd,0,false,ch⟩).k)) h
  | true=>exact Eq.mpr (zqL ⟨nd,0,true,ch⟩ (Is (Un.ent ⟨nd,0,true,ch⟩).k)) h
 ·cases di with
  | false=>exact Eq.mpr (zqM ⟨nd,1,false,ch⟩ (Is (Un.ent ⟨nd,1,false,ch⟩).k)) h
  | true=>exact Eq.mpr (zqN ⟨nd,1,true,ch⟩ (Is (Un.ent ⟨nd,1,true,ch⟩).k)) h
end
end Go.K
set_option maxRecDepth 100000
namespace Go.K
open Go.Ab Go.RowKit Go.Y Go.Proofs
noncomputable section
attribute [local instance 10000] gO
noncomputable def zFv:Shape:=.cons .sc (.cons .sc .nl)
noncomputable def zlL:Shape:=.cons zFv (.cons zv3 (.cons .sc (.cons .sc .nl)))
noncomputable def zrb (h a b c d e:Nat):KV:=.cons (.ro true false .sc 0 (Nat.succ h) (kAr (Nat.succ h) (nI 0) fun i=>nI (c4 a b c 0 i))) (.cons (.ro true false .sc 0 (Nat.succ h) (kAr (Nat.succ h) (nI 0) fun i=>nI (c4 0 d e 0 i))) .nl)
noncomputable def qC (n:Nat):KV:=zrb (hS n) (zx n 0) (zx n 1) (zx n 2) (zh n 1 0) (zh n 2 0)
noncomputable def zcM (n:Nat) (K:KV→Prop):Prop:=zz (hS n) fun h=>zz (zx n 0) fun a=>zz (zx n 1) fun b=>zz (zx n 2) fun c=>zz (zh n 1 0) fun d=>zz (zh n 2 0) fun e=>K (zrb h a b c d e)
theorem Z6 (n:Nat) (K:KV→Prop):zcM n K=K (qC n):=by unfold zcM; simp only[zA]; rfl
noncomputable def ckL (lay:KV) (n m:Nat) (c:Nat→Un) (l k:Nat):KV:=.cons lay (.cons (trK n m c) (.cons (nI k) (.cons (nI l) .nl)))
noncomputable def ckK (n m:Nat) (c:Nat→Un) (l j:Nat):KV:=ckL (qC n) n m c l (zh n l j)
noncomputable def zy5:KEnv:=EO0.tab [(123,zo8)]
noncomputable def zy6:KEnv:=EO0.tab [(177,zEH)]
noncomputable def rnC (E:KEnv) (f n:Nat) (c:Nat→Un) (l j a:Nat):Prop:=zcM n fun lay=>zz (zi n) fun m=>zz (zh n l j) fun k=>zk E (zp E 100) 0 f [.ref false zlL (ckL lay n m c l k)] .e 0 0 fun r _ _ _=>r=nI a
noncomputable def YE (S:Nat→Nat→Nat→Prop) (E:KEnv) (f:Nat) (form:Nat→(Nat→Un)→Nat→Nat→Nat→Prop) (c:Nat→Un) (a:Nat) (b:Bool):Prop :=
 xT (fun n=>xT (fun l=>xT (fun j=>whB (isS (Nat.succ n) l j) (S (Nat.succ n) l j→@Bool.rec (fun _=>Prop) (form (Nat.succ n) c l j a) (rnC E f (Nat.succ n) c l j a) b)) 6) 3) 24
theorem YG {E:KEnv}{f:Nat}{form:Nat→(Nat→Un)→Nat→Nat→Nat→Prop}{c:Nat→Un}{a n l j:Nat}(h:YE (fun n' l' j'=>n'=n∧l'=l∧j'=j) E f form c a true=YE (fun n' l' j'=>n'=n∧l'=l∧j'=j) E f form c a false) (hn:zD n=true) (hs:isS n l j=true) (hf:form n c l j a):rnC E f n c l j a:=by
 obtain⟨n1,n2⟩:=zH hn
 obtain⟨h1,h2⟩:=xg hn hs
 obtain⟨m,rfl⟩:∃ m,n=Nat.succ m:=⟨n - 1,by omega⟩
 have hF:YE (fun n' l' j'=>n'=Nat.succ m∧l'=l∧j'=j) E f form c a false:=Zg fun n' _=>Zg fun l' _=>Zg fun j' _=>by
  cases isS (Nat.succ n') l' j' with
  | false=>exact trivial
  | true =>
   show (_→_)
   rintro⟨e1,e2,e3⟩
   rw[e1,e2,e3]; exact hf
 have:=Eq.mpr h hF
 exact QX (zQ (zQ (zQ this m (by omega)) l (by omega)) j (by omega)) hs ⟨rfl,rfl,rfl⟩
noncomputable def r9 (k a:Nat):Prop:=nI k=nI a
noncomputable def zFw (n l j a:Nat) (y:Un):Prop:=cnd (b63 y.nd.lv) (alt (!eqN y.nd.lv l) (r9 17 a) (cnd (b63 y.nd.ix) (alt (!eqN y.nd.ix j) (r9 17 a) ((zD n=true∧y.nd.lv < 256∧y.nd.ix < 4294967296)∧alt (!eZ (y.nd.nf.fe n)) (r9 17 a) (r9 0 a)))))
noncomputable def zeS (n:Nat) (c:Nat→Un) (l j a:Nat):Prop:=zz (zh n l j) fun k=>zFw n l j a (c k)
inductive DS where
 | F
 | T
 | V (i:Nat)
noncomputable def DS.val (y:Un) (s:DS):Bool:=@DS.rec (fun _=>Bool) false true (fun i=>y.ch i) s
noncomputable def mkU (y:Un) (w:Nat) (ih:DS→Prop) (s:DS):Prop:=@DS.rec (fun _=>Prop) (ih (.V w)) (ih .T) (fun i=>alt (y.ch i) (ih .T) (ih (.V w))) s
noncomputable def mkF (y:Un) (a:Nat) (r:Nat):DS→Prop:=@Nat.rec (fun _=>DS→Prop) (fun s=>alt (!ZN y.di (s.val y)) (r9 9 a) (r9 0 a)) (fun r ih s=>alt (y.ch (Nat.sub 3 r)) (alt (eZ (y.nd.rc (Nat.sub 3 r)).st) (r9 9 a) (mkU y (Nat.sub 3 r) ih s)) (mkU y (Nat.sub 3 r) ih s)) r
noncomputable def chZ (y:Un):Bool:=z4 fun i=>ZN (y.ch i) false
noncomputable def zlM (y:Un) (a:Nat) (b:Bool):Prop:=alt (!chZ y) (r9 9 a) (alt (!ZN y.di b) (r9 9 a) (r9 0 a))
noncomputable def mkG (n:Nat) (c:Nat→Un) (l j a:Nat) (y:Un) (p r:Nat):Prop:=@Nat.rec (fun _=>Prop) (zlM y a false) (fun r ih=>zz (zh n l (j4 j (Nat.sub p (Nat.succ r)))) fun k=>alt (c k).di (zlM y a true) ih) r
noncomputable def zlN (n:Nat) (c:Nat→Un) (l j a:Nat):Prop:=@Nat.rec (fun _=>Prop) (zz (zh n 0 j) fun i=>mkF (c i) a 4 .F) (fun k _=>zz (zh n (Nat.succ k) j) fun i=>mkG n c k j a (c i) (zq n (Nat.succ k) j) (zq n (Nat.succ k) j)) l
noncomputable def Un.nf (z:Un):Un:=⟨z.nd.nf,z.sl,z.di,c4 (z.ch 0) (z.ch 1) (z.ch 2) (z.ch 3)⟩
noncomputable def enG (n:Nat) (c:Nat→Un) (l j a:Nat) (y:Un) (p r:Nat):Prop:=@Nat.rec (fun _=>Prop) (r9 0 a) (fun r ih=>zz (zh n l (j4 j (Nat.sub p (Nat.succ r)))) fun k=>Qk (c k).nf∧alt (!(y.nd.en (Nat.sub p (Nat.succ r))).eqb (c k).nf.ent) (r9 9 a) ih) r
noncomputable def zlO (n:Nat) (c:Nat→Un) (l j a:Nat):Prop:=@Nat.rec (fun _=>Prop) (r9 0 a) (fun k _=>zz (zh n (Nat.succ k) j) fun i=>enG n c k j a (c i) (zq n (Nat.succ k) j) (zq n (Nat.succ k) j)) l
end
end Go.K
