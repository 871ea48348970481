/- The program's checks of one node of a working tree: their pieces. No condition. -/
import Derived.Test.YtkllahedaiddgaaGreatDoorWK
import Derived.Test.YtkllahedaiddgaaGreatDoorNU
set_option linter.unusedSimpArgs false
set_option linter.unusedVariables false
set_option maxRecDepth 100000
namespace Go.K
open Go.Ab Go.RowKit Go.Y Go.Proofs
noncomputable section
attribute [local instance 10000] gO
noncomputable def Z8 (z:Un):Prop:=∃ i,i < 4∧(0 < (z.nd.rc i).st∨0 < (z.nd.en i).st)
noncomputable def QE (e:En) (z:Un):Prop:=(Z8 z→e.eqb ⟨z.stS,z.nd.dg⟩=true)∧(¬ Z8 z→e.zb=true)
noncomputable def vP (n:Nat) (c:Nat→Un) (l j w:Nat):Un:=c (zi n l (j4 j w))
noncomputable def yd (n l j:Nat) (y:Un):Prop:=y.nd.lv=l∧y.nd.ix=j∧y.nd.fe n=0
noncomputable def vA (n:Nat) (c:Nat→Un) (l j:Nat) (y:Un) (p:Nat):Prop:=(∃ w,w < 4∧y.ch w=true)∨∃ k,l=Nat.succ k∧∃ w,w < p∧(vP n c k j w).di=true
noncomputable def chP (l:Nat) (y:Un) (k:Nat):Prop:=∀ w,w < k→y.ch w=true→l=0∧(y.nd.rc w).st≠0
noncomputable def jH (n:Nat) (c:Nat→Un) (l j:Nat) (y:Un) (p:Nat):Prop:=∀ k,l=Nat.succ k→∀ w,w < p→QE (y.nd.en w) (vP n c k j w)
noncomputable def zka (n:Nat) (c:Nat→Un) (l j:Nat) (y:Un):Prop:=chP l y 4∧(y.di=true↔vA n c l j y (zw n l j))∧jH n c l j y (zw n l j)
open Classical in
noncomputable def xK (n:Nat) (c:Nat→Un) (l j:Nat):Nat:=if yd n l j (c (zi n l j)) then (if zka n c l j (c (zi n l j)) then 0 else 9) else 17
structure TrOk (n m:Nat) (c:Nat→Un):Prop where
 n24:zT n=true
 inm:∀ l j,isS n l j=true→zi n l j < m
 wl:∀ i,i < m→(c i).nd.wl
 wb:∀ i,i < m→(c i).nd.wb
 sl:∀ i,i < m→(c i).sl=0∨(c i).sl=1
theorem xD {n l j:Nat}(hn:zT n=true) (h:isS n l j=true):l≤2∧j < 6:=by
 obtain⟨n1,n2⟩:=xc hn
 obtain⟨m,rfl⟩:∃ m,n=Nat.succ m:=⟨n - 1,by omega⟩
 have hm:m < 24:=by omega
 have hl:l < 3:=by
  refine Classical.byContradiction fun hl=>?_
  obtain⟨k,rfl⟩:∃ k,l=Nat.add k 3:=⟨l - 3,by show l=l - 3 + 3; omega⟩
  rw[qa,VC m k hm] at h
  omega
 have hc:=Z9 m l hm hl
 have hi:=qa.1 h
 exact⟨by omega,by omega⟩
theorem JO {n l j w:Nat}(hn:zT n=true) (h:isS n (Nat.succ l) j=true) (hw:w < zw n (Nat.succ l) j):isS n l (j4 j w)=true:=by
 obtain⟨h1,h2⟩:=xD hn h
 obtain⟨h3,h4⟩:=w9 hn h
 obtain⟨n1,n2⟩:=xc hn
 obtain⟨m,rfl⟩:∃ m,n=Nat.succ m:=⟨n - 1,by omega⟩
 have hm:m < 24:=by omega
 have hd:∀ m:Fin 24,∀ l:Fin 2,∀ j:Fin 6,∀ w:Fin 4,isS (Nat.succ m.1) (Nat.succ l.1) j.1=true→w.1 < zw (Nat.succ m.1) (Nat.succ l.1) j.1→isS (Nat.succ m.1) l.1 (j4 j.1 w.1)=true:=by decide
 exact hd ⟨m,hm⟩ ⟨l,by omega⟩ ⟨j,h2⟩ ⟨w,by omega⟩ h hw
theorem zeF {x:Nd}(h:x.wl):x.nf.dg=x.dg:=by
 have a0:=Nd.nf_rc' h 0 (by omega); have a1:=Nd.nf_rc' h 1 (by omega); have a2:=Nd.nf_rc' h 2 (by omega); have a3:=Nd.nf_rc' h 3 (by omega)
 have b0:=Nd.nf_en' h 0 (by omega); have b1:=Nd.nf_en' h 1 (by omega); have b2:=Nd.nf_en' h 2 (by omega); have b3:=Nd.nf_en' h 3 (by omega)
 have e0:ZZ P32 P32 P64 x.nf=ZZ P32 P32 P64 x:=by unfold ZZ; rw[a0,a1,a2,a3]; rfl
 have e1:wG P32 x.nf=wG P32 x:=by unfold wG; rw[b0,b1,b2,b3]; rfl
 unfold Nd.dg
 rw[e0,e1]; rfl
theorem zs2 {x:Nd}(h:x.wl) (hb:x.wb):x.nf.wb:=⟨hb.1,hb.2.1,fun i hi=>by rw[Nd.nf_rc' h i hi]; exact hb.2.2.1 i hi,fun i hi=>by rw[Nd.nf_en' h i hi]; exact hb.2.2.2 i hi⟩
theorem zeG {n:Nat}{x:Nd}(h:x.wl):x.nf.fe n=x.fe n:=by
 have hk:=Nd.ok_congr (x:=x.nf) (y:=x) rfl (Nd.nf_rc' h) (Nd.nf_en' h)
 have hf:x.nf.fits n↔x.fits n:=by
  unfold Nd.fits
  rw[hk]
  constructor
  ·rintro⟨a,b,d⟩; exact⟨a,b,fun i hi hp=>by have:=d i hi hp; rw[Nd.nf_rc' h i hi,Nd.nf_en' h i hi] at this; exact this⟩
  ·rintro⟨a,b,d⟩; exact⟨a,b,fun i hi hp=>by rw[Nd.nf_rc' h i hi,Nd.nf_en' h i hi]; exact d i hi hp⟩
 unfold Nd.fe
 by_cases h1:x.ok
 ·rw[if_pos h1,if_pos (hk.2 h1)]
  by_cases h2:x.fits n
  ·rw[if_pos h2,if_pos (hf.2 h2)]
  ·rw[if_neg h2,if_neg fun q=>h2 (hf.1 q)]
 ·rw[if_neg h1,if_neg fun q=>h1 (hk.1 q)]
theorem jI {a b:Nat}:eqN a b=true↔a=b:=zaX
theorem xo {a b:Nat}:ltN a b=true↔a < b:=qM
theorem zeH {a:Nat}:gtZ a=true↔0 < a:=qM
theorem Zl {a b:Bool}:ZU a b=true↔a=b:=by cases a<;>cases b<;>decide
theorem vm {k m:Nat}:ixB (.ofNat k) m=true↔k < m:=zzf
theorem zC {μ:Mem}{n2:Nat}(v:KV) (h:xQ 0 v=true):RnV μ [] id n2 v.v v.v:=(RnF.nf (qq 0 v h).1).b.v
theorem vc {μ:Mem}{n2 b:Nat}{s:Shape}(h:b < n2):RnV μ [] id n2 (KV.ptr b [] s).v (KV.ptr b [] s).v:=(RnB.ptr rfl h).v
theorem zwF:KCS Tryz.prog 117 zvR:=zko.imp fun l K h=>by
 obtain⟨n,l,i,rfl,⟨h1,h2⟩,h4⟩:=JN h
 show chk (nd (zT n) (isS n l i)) 922 (K _)
 rw[h1,h2]; exact h4
theorem vv:KOk vz:=xA.tab ⟨zxX,zA1,zwF,zlN,trivial⟩
attribute [local irreducible] kpre cOf mOf rOf JL zu jh zj1 zj2 X6 zj3 Z6 zi
theorem zBq:Tryz.f110.ntmps=176:=by kernel_rfl
theorem zBr:Tryz.f110.results.toList=rOf 110:=by kernel_rfl
theorem zBs:fl (cOf 110)=jh:=by kernel_rfl
section
variable {n m:Nat}{c:Nat→Un}{l j:Nat}{B N:Nat}{a:Nat}
noncomputable abbrev j7 (a:Nat):K4:=retJ vz Tryz.f110 false (nI a)
theorem j8 (v:KV) (tr:KTm) (zm:KZ) (nx:Nat) (h:v=nI a) (h1:MB (am zm) nx) (h2:INV (mOf 110) tr) (hr:RAll Tryz.prog (tv' (zp tr)) (am zm) (rOf 110) v.v):j7 a .ret tr zm nx:=by
 subst h
 exact retJ.mk rfl zBr (FzP.noref rfl) hr
theorem zcK (n m:Nat) (c:Nat→Un):xQ 0 (zTr n m c).v=true:=by kernel_rfl
theorem zkb (y:Un):xQ 0 (zUn y).v=true:=by kernel_rfl
theorem atB {y:Un}{w:Nat}{d:Bool}{tr:KTm}{zm:KZ}(ht:[1,2,3,7,8,9,10].map (zp tr)=vB n l j w d) (hz:[0,1].map (kb zm)=zB2 n m c y):atS (mOf 110) (sB n m c y l j w d) tr zm :=
 atS.of (s:=sB n m c y l j w d) [] id ht hz (by kernel_rfl) ⟨zC _ rfl,zC _ rfl,vc (ltk rfl),zC _ rfl,vc (ltk rfl),zC _ rfl,zC _ rfl,trivial⟩ ⟨RnK.nf (zcK n m c),RnK.nf (zkb y),trivial⟩
theorem atC {y:Un}{p w:Nat}{d:Bool}{tr:KTm}{zm:KZ}(ht:[1,2,3,7,8,9,11,12].map (zp tr)=vC n l j p w d) (hz:[0,1].map (kb zm)=zB2 n m c y):atS (mOf 110) (sC n m c y l j p w d) tr zm :=
 atS.of (s:=sC n m c y l j p w d) [] id ht hz (by kernel_rfl) ⟨zC _ rfl,zC _ rfl,vc (ltk rfl),zC _ rfl,vc (ltk rfl),zC _ rfl,zC _ rfl,zC _ rfl,trivial⟩ ⟨RnK.nf (zcK n m c),RnK.nf (zkb y),trivial⟩
theorem atF {y:Un}{p w:Nat}{tr:KTm}{zm:KZ}(ht:[1,2,3,7,8,11,13].map (zp tr)=vF n l j p w) (hz:[0,1].map (kb zm)=zB2 n m c y):atS (mOf 110) (sF n m c y l j p w) tr zm :=
 atS.of (s:=sF n m c y l j p w) [] id ht hz (by kernel_rfl) ⟨zC _ rfl,zC _ rfl,vc (ltk rfl),zC _ rfl,vc (ltk rfl),zC _ rfl,zC _ rfl,trivial⟩ ⟨RnK.nf (zcK n m c),RnK.nf (zkb y),trivial⟩
theorem atG {y z:Un}{p w i:Nat}{u:Bool}{tr:KTm}{zm:KZ}(ht:[1,2,3,7,8,11,13,14,15,16,17].map (zp tr)=vG n l j p w u i) (hz:[0,1,2,3].map (kb zm)=zG n m c y z):atS (mOf 110) (sG n m c y z l j p w u i) tr zm :=
 atS.of (s:=sG n m c y z l j p w u i) [] id ht hz (by kernel_rfl) ⟨zC _ rfl,zC _ rfl,vc (ltk rfl),zC _ rfl,vc (ltk rfl),zC _ rfl,zC _ rfl,vc (ltk rfl),vc (ltk rfl),zC _ rfl,zC _ rfl,trivial⟩ ⟨RnK.nf (zcK n m c),RnK.nf (zkb y),RnK.nf (zkb z),RnK.nf (by kernel_rfl),trivial⟩
theorem zBt (hN:176≤N) (h0:a=0) (y:Un) (p w:Nat) (tr:KTm) (zm:KZ) (nx:Nat) (h:atS (mOf 110) (sF n m c y l j p w) tr zm):JL vz B N (mOf 110) (jh.drop 15) tr zm nx (j7 a):=by
 refine JL.preS vv h (vS (by kernel_rfl)) ?_
 refine JL.all (n:=60) vv rfl (rOf 110) [] [] hN (by kernel_rfl) (by kernel_rfl) (fun v=>v=nI a) j8 ?_
 show pL n m c y l j p w _ _
 rw[eL,h0]
theorem qv (x:Nat):Nat.add 0 x=x:=Nat.zero_add x
noncomputable def zs3 (z:Un) (i:Nat):Prop:=0 < (z.nd.rc i).st∨0 < (z.nd.en i).st
theorem zBu (hN:176≤N) (y z:Un) (p w:Nat) (Qb:K4) (hb:∀ v tr zm nx,v=nI a→MB (am zm) nx→INV (mOf 110) tr→RAll Tryz.prog (tv' (zp tr)) (am zm) (rOf 110) v.v→Qb .ret tr zm nx) (tr:KTm) (zm:KZ) (nx:Nat) (h:atS (mOf 110) (sG n m c y z l j p w false 0) tr zm) (m1:MB (am zm) nx) (m2:INV (mOf 110) tr)
  (hq:∀ u tr zm nx,(u=true↔Z8 z)→atS (mOf 110) (sG n m c y z l j p w u 4) tr zm→MB (am zm) nx→INV (mOf 110) tr→JL vz B N (mOf 110) ((fl Z6).drop 5) tr zm nx Qb):JL vz B N (mOf 110) ((fl Z6).drop 4) tr zm nx Qb:=by
 refine JL.loopT vv (fun x:Nat×Bool=>sG n m c y z l j p w x.2 x.1) (fun x=>4 - x.1) (fun x=>x.1≤4∧(x.2=true↔∃ i,i < x.1∧zs3 z i)) (id:=6) (b:=zj3) (l2:=(fl Z6).drop 5) (by kernel_rfl) (fun x=>by kernel_rfl) (0,false) ⟨by omega,⟨fun h=>(by cases h),fun⟨i,hi,_⟩=>absurd hi (Nat.not_lt_zero i)⟩⟩ h m1 m2 ?_
 rintro⟨i,u⟩ ⟨hi4,hu⟩
 refine JL.all (n:=60) vv rfl (rOf 110) [1,2,3,7,8,11,13,14,15,16,17] [0,1,2,3] hN (by kernel_rfl) (by kernel_rfl) (fun v=>v=nI a) hb ?_
 show pH n m c y z l j p w u i _ _
 by_cases h4:i < 4
 ·rw[eH h4]
  cases u with
  | true =>
   intro tr zm ht hz hmb hi
   exact⟨(Nat.succ i,true),by show 4 - (i + 1) < 4 - i; omega,⟨by show i + 1≤4; omega,⟨fun _=>by
    obtain⟨k,hk,h⟩:=hu.1 rfl
    exact⟨k,by show k < i + 1; have:k < i:=hk; omega,h⟩,fun _=>rfl⟩⟩,atG ht hz⟩
  | false =>
   have hno:∀ k,k < i→¬ zs3 z k:=fun k hk h=>by have:=hu.2 ⟨k,hk,h⟩; cases this
   show alt _ _ _
   simp only[zo,zeH,bf zeH]
   refine⟨fun hg=>?_,fun hg=>?_⟩
   ·intro tr zm ht hz hmb hi
    exact⟨(Nat.succ i,true),by show 4 - (i + 1) < 4 - i; omega,⟨by show i + 1≤4; omega,⟨fun _=>⟨i,Nat.lt_succ_self i,.inl hg⟩,fun _=>rfl⟩⟩,atG ht hz⟩
   ·intro tr zm ht hz hmb hi
    refine⟨(Nat.succ i,gtZ (z.nd.en i).st),by show 4 - (i + 1) < 4 - i; omega,⟨by show i + 1≤4; omega,⟨fun h=>⟨i,Nat.lt_succ_self i,.inr (zeH.1 h)⟩,?_⟩⟩,atG ht hz⟩
    rintro⟨k,hk,hu'⟩
    have hk':k < i + 1:=hk
    by_cases e:k=i
    ·subst e
     rcases hu' with h | h
     ·exact absurd h hg
     ·exact zeH.2 h
    ·exact absurd hu' (hno k (by omega))
 ·obtain rfl:i=4:=by have:i≤4:=hi4; omega
  rw[eH4]
  intro tr zm ht hz hmb hi
  show (if 6=6 then _ else _)
  rw[if_pos rfl]
  exact hq u tr zm 4 hu (atG ht hz) hmb hi
theorem zBv (H:TrOk n m c) (hs:isS n l j=true) (hk2:∀ k w,l=Nat.succ k→w < zw n l j→(vP n c k j w).nd.lv≤2) (hN:176≤N) (y:Un)
  (h0:jH n c l j y (zw n l j)→a=0) (h9:¬ jH n c l j y (zw n l j)→a=9) (tr:KTm) (zm:KZ) (nx:Nat) (h:atS (mOf 110) (sF n m c y l j (zw n l j) 0) tr zm) (m1:MB (am zm) nx) (m2:INV (mOf 110) tr):JL vz B N (mOf 110) (jh.drop 14) tr zm nx (j7 a):=by
 obtain⟨hl2,hj6⟩:=xD H.n24 hs
 obtain⟨hp1,hp4⟩:=w9 H.n24 hs
 generalize hp:zw n l j=p at *
 refine JL.loopT vv (fun w=>sF n m c y l j p w) (fun w=>p - w) (fun w=>w≤p∧jH n c l j y w) (id:=4) (b:=X6) (l2:=jh.drop 15) (by kernel_rfl) (fun w=>by kernel_rfl) 0 ⟨by omega,fun k _ w hw=>absurd hw (Nat.not_lt_zero w)⟩ h m1 m2 ?_
 rintro w ⟨hw,hI⟩
 refine JL.stp (n:=60) vv rfl 2 (rOf 110) [1,2,3,7,8,11,13] [0,1] hN (by kernel_rfl) (by kernel_rfl) (fun v=>v=nI a) (fun v tr zm nx h1 h2 h3 h4=>j8 v tr zm nx h1 h2 h3 h4) ?_
 show pF n m c y l j p w _ _
 have out:jH n c l j y p→∀ tr zm nx,[1,2,3,7,8,11,13].map (zp tr)=vF n l j p w→[0,1].map (kb zm)=zB2 n m c y→JL vz B N (mOf 110) (jh.drop 15) tr zm nx (j7 a):=fun he tr zm nx ht hz=>zBt hN (h0 he) y p w tr zm nx (atF ht hz)
 cases l with
 | zero =>
  rw[eF0]
  have he:jH n c 0 j y p:=fun k hk=>by cases hk
  simp only[zo]
  refine⟨fun _=>?_,fun _=>?_⟩
  ·intro tr zm ht hz hmb hi
   show (if (4:Nat)=4 then JL vz B N (mOf 110) (jh.drop 15) tr zm 2 (j7 a) else j7 a (.exit 4) tr zm 2)
   rw[if_pos rfl]
   exact out he tr zm 2 ht hz
  ·intro tr zm ht hz hmb hi
   show (if (4:Nat)=4 then JL vz B N (mOf 110) (jh.drop 15) tr zm 2 (j7 a) else j7 a (.exit 4) tr zm 2)
   rw[if_pos rfl]
   exact out he tr zm 2 ht hz
 | succ k =>
  rw[eFs]
  simp only[zo,xo,bf xo]
  refine⟨fun hwp=>?_,fun hwp=>?_⟩
  ·intro tr zm ht hz hmb hi
   have hkid:isS n k (j4 j w)=true:=JO H.n24 hs (by rw[hp]; exact hwp)
   have hidx:=H.inm k (j4 j w) hkid
   have hw4:w < 4:=by omega
   have hj4:j4 j w=4 * j + w:=rfl
   show JL vz B N (mOf 110) ((fl X6).drop 2) tr zm 2 _
   refine JL.blk (id:=5) (X:=Z6) (l2:=(fl X6).drop 3) (by kernel_rfl) hmb hi ?_
   refine JL.preS vv (atF (n:=n) (m:=m) (c:=c) ht hz) (vS (by kernel_rfl)) ?_
   refine JL.stp (n:=60) vv rfl 4 (rOf 110) [1,2,3,7,8,11,13,14,15,16,17] [0,1,2,3] hN (by kernel_rfl) (by kernel_rfl) (fun v=>v=nI a) (fun v tr zm nx h1 h2 h3 h4=>j8 v tr zm nx h1 h2 h3 h4) ?_
   show pG n m c y (Nat.succ k) j p w _ _
   rw[eG]
   simp only[ze,xB,vm,qv]
   refine⟨by show k < _; omega,by show 4 * j < _; omega,by rw[hj4]; omega,⟨H.n24,by omega,by rw[hj4]; omega⟩,hidx,?_⟩
   intro tr zm ht hz hmb hi
   let z:=c (zi n k (j4 j w))
   have hzl:z.nd.wl:=H.wl _ hidx
   have hzb:z.nd.wb:=H.wb _ hidx
   have hzs:z.sl=0∨z.sl=1:=H.sl _ hidx
   have hz2:z.nd.lv≤2:=hk2 k w rfl hwp
   show JL vz B N (mOf 110) ((fl Z6).drop 4) tr zm 4 _
   refine zBu (a:=a) (B:=B) hN y z p w _ ?_ tr zm 4 (atG ht hz) hmb hi ?_
   ·exact fun v tr zm nx h1 h2 h3 h4=>j8 v tr zm nx h1 h2 h3 h4
   intro u tr zm nx hu hat hmb hi
   refine JL.preS vv hat (vS (by kernel_rfl)) ?_
   refine JL.all (n:=60) vv rfl (rOf 110) [1,2,3,7,8,11,13] [0,1] hN (by kernel_rfl) (by kernel_rfl) (fun v=>v=nI a) (fun v tr zm nx h1 h2 h3 h4=>j8 v tr zm nx h1 h2 h3 h4) ?_
   show pI n m c y z (Nat.succ k) j p w u _ _
   have next:QE (y.nd.en w) z→∀ tr zm,[1,2,3,7,8,11,13].map (zp tr)=vF n (Nat.succ k) j p w→[0,1].map (kb zm)=zB2 n m c y→MB (am zm) 4→INV (mOf 110) tr→JL vz B N (mOf 110) ((fl X6).drop 3) tr zm 4 (fun e tr zm nx=>match e with
     | .normal=>∃ s',p - s' < p - w∧(s'≤p∧jH n c (Nat.succ k) j y s')∧atS (mOf 110) (sF n m c y (Nat.succ k) j p s') tr zm
     | .exit i=>if i=4 then JL vz B N (mOf 110) (jh.drop 15) tr zm nx (j7 a) else j7 a (.exit i) tr zm nx
     | e=>j7 a e tr zm nx):=by
    intro he tr zm ht hz hmb hi
    refine JL.preS vv (atF (n:=n) (m:=m) (c:=c) ht hz) (vS (by kernel_rfl)) ?_
    refine JL.all (n:=60) vv rfl (rOf 110) [1,2,3,7,8,11,13] [0,1] hN (by kernel_rfl) (by kernel_rfl) (fun v=>v=nI a) (fun v tr zm nx h1 h2 h3 h4=>j8 v tr zm nx h1 h2 h3 h4) ?_
    show pJ n m c y (Nat.succ k) j p w _ _
    rw[eJ]
    simp only[ze,xB]
    refine⟨by show w + 1 < _; omega,?_⟩
    intro tr zm ht hz hmb hi
    refine⟨w + 1,by omega,⟨by omega,?_⟩,atF ht hz⟩
    intro k' hk' w' hw'
    by_cases e:w'=w
    ·cases hk'; rw[e]; exact he
    ·exact hI k' hk' w' (by omega)
   have bad:¬ QE (y.nd.en w) z→nI 9=nI a:=fun hb=>by rw[h9 fun he=>hb (he k rfl w hwp)]
   cases u with
   | false =>
    have hnu:¬ Z8 z:=fun h=>by have:=hu.2 h; cases this
    rw[eI0 hw4]
    simp only[zo,Bool.not_eq_true',Bool.not_eq_false']
    refine⟨fun hb=>bad fun he=>(by rw[he.2 hnu] at hb; cases hb),fun hb=>?_⟩
    intro tr zm ht hz hmb hi
    exact next ⟨fun h=>absurd h hnu,fun _=>hb⟩ tr zm ht hz hmb hi
   | true =>
    have hU:Z8 z:=hu.1 rfl
    rw[eI1 hw4 hzs]
    unfold fIx
    rw[zeF hzl]
    simp only[zo,Bool.not_eq_true',Bool.not_eq_false']
    refine⟨⟨zs2 hzl hzb,hz2⟩,fun hb=>bad fun he=>(by rw[he.1 hU] at hb; cases hb),fun hb=>?_⟩
    intro tr zm ht hz hmb hi
    exact next ⟨fun _=>hb,fun h=>absurd hU h⟩ tr zm ht hz hmb hi
  ·intro tr zm ht hz hmb hi
   show (if (4:Nat)=4 then JL vz B N (mOf 110) (jh.drop 15) tr zm 2 (j7 a) else j7 a (.exit 4) tr zm 2)
   rw[if_pos rfl]
   have:w=p:=by omega
   rw[this] at hI
   exact out hI tr zm 2 ht hz
theorem zBw (H:TrOk n m c) (hs:isS n l j=true) (hk2:∀ k w,l=Nat.succ k→w < zw n l j→(vP n c k j w).nd.lv≤2) (hN:176≤N) (y:Un) (d:Bool) (hd:d=true↔∃ w,w < 4∧y.ch w=true)
  (h0:(y.di=true↔vA n c l j y (zw n l j))→jH n c l j y (zw n l j)→a=0) (h9:¬ ((y.di=true↔vA n c l j y (zw n l j))∧jH n c l j y (zw n l j))→a=9) (tr:KTm) (zm:KZ) (nx:Nat) (h:atS (mOf 110) (sC n m c y l j (zw n l j) 0 d) tr zm) (m1:MB (am zm) nx) (m2:INV (mOf 110) tr):JL vz B N (mOf 110) (jh.drop 10) tr zm nx (j7 a):=by
 obtain⟨hl2,hj6⟩:=xD H.n24 hs
 obtain⟨hp1,hp4⟩:=w9 H.n24 hs
 have zor:=fun hN hd0 hd9=>zBv (B:=B) (N:=N) (a:=a) H hs hk2 hN y hd0 hd9
 generalize hp:zw n l j=p at *
 refine JL.loopT vv (fun x:Nat×Bool=>sC n m c y l j p x.1 x.2) (fun x=>p - x.1) (fun x=>x.1≤p∧(x.2=true↔vA n c l j y x.1)) (id:=2) (b:=zj2) (l2:=jh.drop 11) (by kernel_rfl) (fun w=>by kernel_rfl) (0,d) ⟨by show 0≤p; omega,?_⟩ h m1 m2 ?_
 ·show d=true↔vA n c l j y 0
  rw[hd]
  exact⟨fun h=>.inl h,fun h=>h.elim id fun⟨_,_,w,hw,_⟩=>absurd hw (Nat.not_lt_zero w)⟩
 rintro⟨w,e⟩ ⟨hw,hI⟩
 have hw:w≤p:=hw
 have hI:e=true↔vA n c l j y w:=hI
 refine JL.all (n:=60) vv rfl (rOf 110) [1,2,3,7,8,9,11,12] [0,1] hN (by kernel_rfl) (by kernel_rfl) (fun v=>v=nI a) (fun v tr zm nx h1 h2 h3 h4=>j8 v tr zm nx h1 h2 h3 h4) ?_
 show pD n m c y l j p w e _ _
 have out:(e=true↔vA n c l j y p)→∀ tr zm,[1,2,3,7,8,9,11,12].map (zp tr)=vC n l j p w e→[0,1].map (kb zm)=zB2 n m c y→MB (am zm) 2→INV (mOf 110) tr→JL vz B N (mOf 110) (jh.drop 11) tr zm 2 (j7 a):=by
  intro he tr zm ht hz hmb hi
  refine JL.preS vv (atC (n:=n) (m:=m) (c:=c) ht hz) (vS (by kernel_rfl)) ?_
  refine JL.stp (n:=60) vv rfl 3 (rOf 110) [1,2,3,7,8,11,13] [0,1] hN (by kernel_rfl) (by kernel_rfl) (fun v=>v=nI a) j8 ?_
  show pE n m c y l j p w e _ _
  rw[eE]
  simp only[zo,Bool.not_eq_true',Bool.not_eq_false',bf Zl,Zl]
  have hdi:(y.di=true↔vA n c l j y p)↔y.di=e:=by
   rw[←he]
   cases y.di<;>cases e<;>simp
  refine⟨fun hb=>(by rw[h9 fun hg=>hb (hdi.1 hg.1)]),fun hb=>?_⟩
  intro tr zm ht hz hmb hi
  show JL vz B N (mOf 110) ((jh.drop 11).drop 3) tr zm 2 (j7 a)
  rw[List.drop_drop]
  exact zor hN (fun he2=>h0 (hdi.2 hb) he2) (fun he2=>h9 fun hg=>he2 hg.2) tr zm 2 (atF ht hz) hmb hi
 have ext:(e=true↔vA n c l j y p)→∀ tr zm,[1,2,3,7,8,9,11,12].map (zp tr)=vC n l j p w e→[0,1].map (kb zm)=zB2 n m c y→MB (am zm) 2→INV (mOf 110) tr→(if (2:Nat)=2 then JL vz B N (mOf 110) (jh.drop 11) tr zm 2 (j7 a) else j7 a (.exit 2) tr zm 2):=by
  intro he tr zm ht hz hmb hi
  rw[if_pos rfl]
  exact out he tr zm ht hz hmb hi
 cases l with
 | zero =>
  rw[eD0]
  have he:e=true↔vA n c 0 j y p:=by
   rw[hI]
   exact⟨fun h=>h.elim .inl fun⟨_,hk,_⟩=>(by cases hk),fun h=>h.elim .inl fun⟨_,hk,_⟩=>(by cases hk)⟩
  simp only[zo]
  exact⟨fun _=>ext he,fun _=>ext he⟩
 | succ k =>
  have stop:p≤w→(e=true↔vA n c (Nat.succ k) j y p):=fun h=>by
   have:w=p:=by omega
   rw[←this]; exact hI
  cases e with
  | true =>
   rw[eDt]
   simp only[zo,xo,bf xo,ze,xB]
   refine⟨fun hwp=>⟨by show w + 1 < _; omega,?_⟩,fun hwp=>ext (stop (by omega))⟩
   intro tr zm ht hz hmb hi
   refine⟨(w + 1,true),by show p - (w + 1) < p - w; omega,⟨by show w + 1≤p; omega,⟨fun _=>?_,fun _=>rfl⟩⟩,atC ht hz⟩
   rcases hI.1 rfl with h | ⟨k',hk',w',hw',hd'⟩
   ·exact .inl h
   ·exact .inr ⟨k',hk',w',by show w' < w + 1; omega,hd'⟩
  | false =>
   rw[eDf]
   have hno:∀ P:Prop,(P→vA n c (Nat.succ k) j y w)→¬ P:=fun P hP hq=>by have:=hI.2 (hP hq); cases this
   simp only[zo,xo,bf xo,ze,xB,vm,qv]
   refine⟨fun hwp=>?_,fun hwp=>ext (stop (by omega))⟩
   have hkid:isS n k (j4 j w)=true:=JO H.n24 hs (by rw[hp]; exact hwp)
   have hidx:=H.inm k (j4 j w) hkid
   have hj4:j4 j w=4 * j + w:=rfl
   refine⟨by show k < _; omega,by show 4 * j < _; omega,by rw[hj4]; omega,⟨H.n24,by omega,by rw[hj4]; omega⟩,hidx,by show w + 1 < _; omega,?_⟩
   intro tr zm ht hz hmb hi
   refine⟨(w + 1,(vP n c k j w).di),by show p - (w + 1) < p - w; omega,⟨by show w + 1≤p; omega,⟨fun h=>.inr ⟨k,rfl,w,Nat.lt_succ_self w,h⟩,?_⟩⟩,atC ht hz⟩
   rintro (h | ⟨k',hk',w',hw',hd'⟩)
   ·exact absurd h (hno _ .inl)
   ·cases hk'
    have hw'':w' < w + 1:=hw'
    by_cases e:w'=w
    ·rw[←e]; exact hd'
    ·exact absurd ⟨k,rfl,w',by omega,hd'⟩ (hno _ .inr)
theorem zBx (H:TrOk n m c) (hs:isS n l j=true) (hk2:∀ k w,l=Nat.succ k→w < zw n l j→(vP n c k j w).nd.lv≤2) (hN:176≤N) (y:Un) (d:Bool) (hd:d=true↔∃ w,w < 4∧y.ch w=true)
  (h0:(y.di=true↔vA n c l j y (zw n l j))→jH n c l j y (zw n l j)→a=0) (h9:¬ ((y.di=true↔vA n c l j y (zw n l j))∧jH n c l j y (zw n l j))→a=9) (tr:KTm) (zm:KZ) (nx:Nat) (h:atS (mOf 110) (sB n m c y l j 4 d) tr zm):JL vz B N (mOf 110) (jh.drop 8) tr zm nx (j7 a):=by
 refine JL.preS vv h (vS (by kernel_rfl)) ?_
 refine JL.stp (n:=60) vv rfl 2 (rOf 110) [1,2,3,7,8,9,11,12] [0,1] hN (by kernel_rfl) (by kernel_rfl) (fun v=>v=nI a) j8 ?_
 show pC n m c y l j d _ _
 rw[eC]
 refine⟨⟨H.n24,hs⟩,?_⟩
 intro tr zm ht hz hmb hi
 show JL vz B N (mOf 110) ((jh.drop 8).drop 2) tr zm 2 (j7 a)
 rw[List.drop_drop]
 exact zBw H hs hk2 hN y d hd h0 h9 tr zm 2 (atC ht hz) hmb hi
theorem zs4 (H:TrOk n m c) (hs:isS n l j=true) (hk2:∀ k w,l=Nat.succ k→w < zw n l j→(vP n c k j w).nd.lv≤2) (hN:176≤N) (y:Un)
  (h0:zka n c l j y→a=0) (h9:¬ zka n c l j y→a=9) (tr:KTm) (zm:KZ) (nx:Nat) (h:atS (mOf 110) (sB n m c y l j 0 false) tr zm) (m1:MB (am zm) nx) (m2:INV (mOf 110) tr):JL vz B N (mOf 110) (jh.drop 7) tr zm nx (j7 a):=by
 refine JL.loopT vv (fun x:Nat×Bool=>sB n m c y l j x.1 x.2) (fun x=>4 - x.1) (fun x=>x.1≤4∧(x.2=true↔∃ i,i < x.1∧y.ch i=true)∧chP l y x.1) (id:=0) (b:=zj1) (l2:=jh.drop 8) (by kernel_rfl) (fun w=>by kernel_rfl) (0,false) ⟨by show 0≤4; omega,⟨fun h=>(by cases h),fun⟨i,hi,_⟩=>absurd hi (Nat.not_lt_zero i)⟩,fun w hw=>absurd hw (Nat.not_lt_zero w)⟩ h m1 m2 ?_
 rintro⟨w,d⟩ ⟨hw,hI,hc⟩
 have hw:w≤4:=hw
 have hI:d=true↔∃ i,i < w∧y.ch i=true:=hI
 have hc:chP l y w:=hc
 refine JL.all (n:=60) vv rfl (rOf 110) [1,2,3,7,8,9,10] [0,1] hN (by kernel_rfl) (by kernel_rfl) (fun v=>v=nI a) (fun v tr zm nx h1 h2 h3 h4=>j8 v tr zm nx h1 h2 h3 h4) ?_
 show pB n m c y l j w d _ _
 by_cases h4:w < 4
 ·rw[eB h4]
  have next:(y.ch w=true→l=0∧(y.nd.rc w).st≠0)→∀ tr zm,[1,2,3,7,8,9,10].map (zp tr)=vB n l j (Nat.succ w) (@Bool.rec (fun _=>Bool) (y.ch w) true d)→[0,1].map (kb zm)=zB2 n m c y→MB (am zm) 2→INV (mOf 110) tr→∃ s':Nat×Bool,4 - s'.1 < 4 - w∧(s'.1≤4∧(s'.2=true↔∃ i,i < s'.1∧y.ch i=true)∧chP l y s'.1)∧atS (mOf 110) (sB n m c y l j s'.1 s'.2) tr zm:=by
   intro hg tr zm ht hz hmb hi
   refine⟨(Nat.succ w,@Bool.rec (fun _=>Bool) (y.ch w) true d),by show 4 - (w + 1) < 4 - w; omega,⟨by show w + 1≤4; omega,?_,?_⟩,atB ht hz⟩
   ·cases d with
    | true =>
     refine⟨fun _=>?_,fun _=>rfl⟩
     obtain⟨i,hi,h⟩:=hI.1 rfl
     exact⟨i,by show i < w + 1; omega,h⟩
    | false =>
     refine⟨fun h=>⟨w,Nat.lt_succ_self w,h⟩,fun⟨i,hi,h⟩=>?_⟩
     have hi':i < w + 1:=hi
     by_cases e:i=w
     ·rw[e] at h; exact h
     ·have:=hI.2 ⟨i,by omega,h⟩; cases this
   ·intro i hi h
    have hi':i < w + 1:=hi
    by_cases e:i=w
    ·rw[e] at h ⊢; exact hg h
    ·exact hc i (by omega) h
  have bad:(y.ch w=true∧¬ (l=0∧(y.nd.rc w).st≠0))→nI 9=nI a:=fun hb=>by rw[h9 fun hg=>hb.2 (hg.1 w h4 hb.1)]
  unfold fBn
  simp only[zo]
  refine⟨fun hb=>?_,fun hb=>next fun h=>(by rw[h] at hb; cases hb)⟩
  cases l with
  | zero =>
   show alt _ _ _
   simp only[zo,vV,bf vV]
   exact⟨fun hz=>bad ⟨hb,fun q=>q.2 hz⟩,fun hz=>next fun _=>⟨rfl,hz⟩⟩
  | succ k=>exact bad ⟨hb,fun q=>by cases q.1⟩
 ·obtain rfl:w=4:=by omega
  rw[eB4]
  intro tr zm ht hz hmb hi
  show (if (0:Nat)=0 then JL vz B N (mOf 110) (jh.drop 8) tr zm 2 (j7 a) else j7 a (.exit 0) tr zm 2)
  rw[if_pos rfl]
  exact zBx H hs hk2 hN y d hI (fun q1 q2=>h0 ⟨hc,q1,q2⟩) (fun q=>h9 fun hg=>q hg.2) tr zm 2 (atB ht hz)
end
#print axioms zs4
theorem zES {n m:Nat}{c:Nat→Un}{l j:Nat}(H:TrOk n m c) (hs:isS n l j=true) (hk2:∀ k w,l=Nat.succ k→w < zw n l j→(vP n c k j w).nd.lv≤2):JFn Tryz.prog 110 false [trK n m c,nI l,nI j] (nI (xK n c l j)):=by
 refine JFn.of (P:=Tryz.prog) vv rfl (c:=cOf 110) (mOf 110) Tryz.func110 (by kernel_rfl) fun B N hN=>?_
 rw[zBq] at hN
 rw[zBs]
 refine JL.stp (n:=60) (s:=sA n m c l j) vv rfl 7 (rOf 110) [1,2,3,7,8,9,10] [0,1] hN (by kernel_rfl) (by kernel_rfl) (fun v=>v=nI (xK n c l j)) j8 ?_
 show pA n m c l j _ _
 rw[eA]
 obtain⟨hl2,hj6⟩:=xD H.n24 hs
 have hidx:=H.inm l j hs
 have hwl:=H.wl _ hidx
 have hwb:=H.wb _ hidx
 have hpl:∀ q,¬ yd n l j (c (zi n l j))→nI 17=nI q→nI 17=nI (xK n c l j):=fun q h _=>by unfold xK; rw[if_neg h]
 simp only[ze,zo,xB,vm,qv,Bool.not_eq_true',Bool.not_eq_false',bf jI,jI,bf vV,vV,zeG hwl]
 have h256:=hwb.1
 have h32:=hwb.2.1
 refine⟨⟨H.n24,hl2,by omega⟩,hidx,by omega,fun h=>hpl 17 (fun q=>h q.1) rfl,fun h1=>⟨by omega,fun h=>hpl 17 (fun q=>h q.2.1) rfl,fun h2=>⟨⟨H.n24,h256,h32⟩,fun h=>hpl 17 (fun q=>h q.2.2) rfl,fun h3=>?_⟩⟩⟩
 intro tr zm ht hz hmb hi
 have hp:yd n l j (c (zi n l j)):=⟨h1,h2,h3⟩
 exact zs4 H hs hk2 hN (c (zi n l j)) (fun h=>by unfold xK; rw[if_pos hp,if_pos h]) (fun h=>by unfold xK; rw[if_pos hp,if_neg h]) tr zm 2 (atB ht hz) hmb hi
end
end Go.K
set_option maxRecDepth 100000
namespace Go.K
open Go.Ab Go.RowKit Go.Y Go.Proofs
noncomputable section
attribute [local instance 10000] gO
noncomputable def hS (n:Nat):Nat:=@Bool.rec (fun _=>Nat) (@Bool.rec (fun _=>Nat) 2 1 (Nat.beq (zQ n 1) 1)) 0 (Nat.beq (zQ n 0) 1)
noncomputable def zq (n:Nat):Nat:=Nat.succ (zi n (hS n) 0)
noncomputable def sHt:zg:=fun l K=>la1 l fun a=>jg a fun n=>zT n=true∧K (nI (hS n))
noncomputable def zyz:zg:=fun l K=>la1 l fun a=>jg a fun n=>zT n=true∧K (nI (zq n))
noncomputable def zyA:zg:=fun l K=>la2 l fun a b=>jg a fun n=>jg b fun l=>(zT n=true∧l≤2)∧K (nI (zQ n l))
noncomputable def zF8 (f n:Nat) (w:KV):Prop:=zn EO0 (zu EO0 200) 0 f [nI n] .e 0 0 fun r _ _ _=>tK (kvb r w)
noncomputable def zF9 (f n l:Nat) (w:KV):Prop:=zn EO0 (zu EO0 200) 0 f [nI n,nI l] .e 0 0 fun r _ _ _=>tK (kvb r w)
noncomputable def zbz (f:Nat) (w:Nat→KV) (q:Bool):Prop:=jL (fun n=>@Bool.rec (fun _=>Prop) True (zF8 f (Nat.succ n) (w (Nat.succ n))) q) 24
noncomputable def ze4 (f:Nat) (w:Nat→Nat→KV) (q:Bool):Prop:=jL (fun n=>jL (fun l=>@Bool.rec (fun _=>Prop) True (zF9 f (Nat.succ n) l (w (Nat.succ n) l)) q) 3) 24
theorem zyB (f:Nat) (w:Nat→KV):zbz f w false:=vu (fun n=>trivial) 24
theorem zrP (f:Nat) (w:Nat→Nat→KV):ze4 f w false:=vu (fun n=>vu (fun l=>trivial) 3) 24
theorem zGa:zbz 28 (fun n=>nI (hS n)) true=zbz 28 (fun n=>nI (hS n)) false:=by kernel_rfl
theorem zDk:zbz 104 (fun n=>nI (zq n)) true=zbz 104 (fun n=>nI (zq n)) false:=by kernel_rfl
theorem zGb:ze4 81 (fun n l=>nI (zQ n l)) true=ze4 81 (fun n l=>nI (zQ n l)) false:=by kernel_rfl
theorem ztD {f:Nat}(hf:JU f) {w:Nat→KV}(hr:∀ n,xl (w n).v=true) (h:zbz f w true=zbz f w false):KCS Tryz.prog f fun l K=>la1 l fun a=>jg a fun n=>zT n=true∧K (w n) :=
 ZV hf fun l K hs=>by
  obtain⟨a,rfl,h1⟩:=wO hs
  obtain⟨n,rfl,h2,hk⟩:=xz h1
  obtain⟨n1,n2⟩:=xc h2
  obtain⟨m,rfl⟩:∃ m,n=Nat.succ m:=⟨n - 1,by omega⟩
  exact⟨EO0,xA,rfl,200,_,_,hk,hr _,fun r hr=>by rw[qN (za2 hr)]; exact Imp.refl _,xC (Eq.mpr h (zyB _ _):zbz f w true) m (by omega)⟩
theorem kHt:KCS Tryz.prog 28 sHt:=ztD ⟨Tryz.f28,Tryz.func28,by kernel_rfl,by kernel_rfl⟩ (fun n=>rfl) zGa
theorem zDl:KCS Tryz.prog 104 zyz:=ztD ⟨Tryz.f104,Tryz.func104,by kernel_rfl,by kernel_rfl⟩ (fun n=>rfl) zDk
theorem zrQ:KCS Tryz.prog 81 zyA:=ZV ⟨Tryz.f81,Tryz.func81,by kernel_rfl,by kernel_rfl⟩ fun l K hs=>by
  obtain⟨a,b,rfl,h1⟩:=X4 hs
  obtain⟨n,rfl,h2⟩:=xz h1
  obtain⟨l,rfl,⟨h3,h4⟩,hk⟩:=xz h2
  obtain⟨n1,n2⟩:=xc h3
  obtain⟨m,rfl⟩:∃ m,n=Nat.succ m:=⟨n - 1,by omega⟩
  exact⟨EO0,xA,rfl,200,_,_,hk,rfl,fun r hr=>by rw[qN (za2 hr)]; exact Imp.refl _,xC (xC (Eq.mpr zGb (zrP _ _):ze4 81 _ true) m (by omega)) l (by omega)⟩
abbrev P5:=Nat×Nat×(Nat→Un)×Nat×Nat
noncomputable def zDm (x:P5):List KV:=[trK x.1 x.2.1 x.2.2.1,nI x.2.2.2.1,nI x.2.2.2.2]
noncomputable def zDn (x:P5):Prop:=TrOk x.1 x.2.1 x.2.2.1∧isS x.1 x.2.2.2.1 x.2.2.2.2=true∧∀ k w,x.2.2.2.1=Nat.succ k→w < zw x.1 x.2.2.2.1 x.2.2.2.2→(vP x.1 x.2.2.1 k x.2.2.2.2 w).nd.lv≤2
noncomputable def zGc (x:P5):KV:=nI (xK x.1 x.2.2.1 x.2.2.2.1 x.2.2.2.2)
noncomputable def ztE:zg:=v3 zDm zDn zGc
theorem zyC:KCS Tryz.prog 110 ztE:=qs ⟨Tryz.f110,Tryz.func110,by kernel_rfl,by kernel_rfl⟩ fun x h=>zES h.1 h.2.1 h.2.2
noncomputable def E39:KEnv:=EO0.tab [(104,zyz),(28,sHt),(81,zyA),(110,ztE)]
theorem yJ:KOk E39:=xA.tab ⟨zDl,kHt,zrQ,zyC,trivial⟩
noncomputable def l39:List Code:=fl (cOf 39)
noncomputable def zyD:Code:=lpB (blB (l39.getD 5 .skip))
noncomputable def zbA:Code:=lpB (blB (l39.getD 7 .skip))
noncomputable def zge:Code:=blB ((fl zbA).getD 2 .skip)
noncomputable def zyE:Code:=lpB (blB ((fl zge).getD 1 .skip))
noncomputable def cA (n m:Nat) (c:Nat→Un) (Q:QT) (R:zj):Prop:=pc E39 39 (l39.take 5) [1,3,4] [0] (vy (mOf 39) 0 [trK n m c],[],0) Q fun v _ _=>R v
noncomputable def ucA (n k:Nat):List KV:=[pT,nI n,nI k]
noncomputable def ccA (n m:Nat) (c:Nat→Un) (k:Nat):LS:=([(1,pT),(3,nI n),(4,nI k)],[(0,zTr n m c)],1)
theorem ecA (n m:Nat) (c:Nat→Un) (Q:QT) (R:zj):cA n m c Q R=alt (lt1 n) (R (nI 1)) (alt (gtM n) (R (nI 1)) (zT n=true∧alt (!eqN m (zq n)) (R (nI 1)) (Q .normal (ucA n 0) [some (zTr n m c)] 1))):=by kernel_rfl
noncomputable def cB (n m:Nat) (c:Nat→Un) (k:Nat) (Q:QT) (R:zj):Prop:=pc E39 39 (fl zyD) [1,3,4] [0] (ccA n m c k) Q fun v _ _=>R v
noncomputable def zdp (z:Int):Bool:=eqI z (.ofNat 0)
noncomputable def zgf (z:Int):Bool:=eqI z (.ofNat 1)
noncomputable def nxB (n m:Nat) (c:Nat→Un) (k:Nat) (Q:QT):Prop:=cnd (b63 (Nat.add k 1)) (Q .normal (ucA n (Nat.add k 1)) [some (zTr n m c)] 1)
theorem ecB (n m:Nat) (c:Nat→Un) (k:Nat) (Q:QT) (R:zj):cB n m c k Q R=alt (ltN k m) (cnd (ixB (.ofNat k) m) (alt (!zdp (c (Nat.add 0 k)).sl) (cnd (ixB (.ofNat k) m) (alt (!zgf (c (Nat.add 0 k)).sl) (R (nI 1)) (nxB n m c k Q))) (nxB n m c k Q))) (Q (.exit 0) (ucA n k) [some (zTr n m c)] 1):=by kernel_rfl
noncomputable def cC (n m:Nat) (c:Nat→Un) (k:Nat) (Q:QT) (R:zj):Prop:=pc E39 39 ((l39.drop 6).take 1) [1,3,5] [0] (ccA n m c k) Q fun v _ _=>R v
noncomputable def ucC (n l:Nat):List KV:=[pT,nI n,nI l]
noncomputable def ccC (n m:Nat) (c:Nat→Un) (l:Nat):LS:=([(1,pT),(3,nI n),(5,nI l)],[(0,zTr n m c)],1)
theorem ecC (n m:Nat) (c:Nat→Un) (k:Nat) (Q:QT) (R:zj):cC n m c k Q R=Q .normal (ucC n 0) [some (zTr n m c)] 1:=by kernel_rfl
noncomputable def cD (n m:Nat) (c:Nat→Un) (l:Nat) (Q:QT) (R:zj):Prop:=pc E39 39 ((fl zbA).take 2) [1,3,5] [0] (ccC n m c l) Q fun v _ _=>R v
noncomputable def leN (a b:Nat):Bool:=leI (.ofNat a) (.ofNat b)
theorem ecD (n m:Nat) (c:Nat→Un) (l:Nat) (Q:QT) (R:zj):cD n m c l Q R=(zT n=true∧alt (leN l (hS n)) (Q .normal (ucC n l) [some (zTr n m c)] 1) (Q (.exit 2) (ucC n l) [some (zTr n m c)] 1)):=by kernel_rfl
noncomputable def cE (n m:Nat) (c:Nat→Un) (l:Nat) (Q:QT) (R:zj):Prop:=pc E39 39 ((fl zge).take 1) [1,3,5,6] [0] (ccC n m c l) Q fun v _ _=>R v
noncomputable def ucE (n l j:Nat):List KV:=[pT,nI n,nI l,nI j]
noncomputable def ccE (n m:Nat) (c:Nat→Un) (l j:Nat):LS:=([(1,pT),(3,nI n),(5,nI l),(6,nI j)],[(0,zTr n m c)],1)
theorem ecE (n m:Nat) (c:Nat→Un) (l:Nat) (Q:QT) (R:zj):cE n m c l Q R=Q .normal (ucE n l 0) [some (zTr n m c)] 1:=by kernel_rfl
noncomputable def cF (n m:Nat) (c:Nat→Un) (l j:Nat) (Q:QT) (R:zj):Prop:=pc E39 39 (fl zyE) [1,3,5,6] [0] (ccE n m c l j) Q fun v _ _=>R v
noncomputable def nE (x:P5):Nat:=xK x.1 x.2.2.1 x.2.2.2.1 x.2.2.2.2
theorem ecF (n m:Nat) (c:Nat→Un) (l j:Nat) (Q:QT) (R:zj):cF n m c l j Q R=((zT n=true∧l≤2)∧alt (ltN j (zQ n l)) (∃ x:P5,[trK n m c,nI l,nI j]=zDm x∧zDn x∧alt (!eZ (nE x)) (R (nI (nE x))) (cnd (b63 (Nat.add j 1)) (Q .normal (ucE n l (Nat.add j 1)) [some (zTr n m c)] 1))) (Q (.exit 4) (ucE n l j) [some (zTr n m c)] 1)):=by kernel_rfl
noncomputable def cG (n m:Nat) (c:Nat→Un) (l j:Nat) (Q:QT) (R:zj):Prop:=pc E39 39 ((fl zbA).drop 3) [1,3,5] [0] (ccE n m c l j) Q fun v _ _=>R v
theorem ecG (n m:Nat) (c:Nat→Un) (l j:Nat) (Q:QT) (R:zj):cG n m c l j Q R=cnd (b63 (Nat.add l 1)) (Q .normal (ucC n (Nat.add l 1)) [some (zTr n m c)] 1):=by kernel_rfl
noncomputable def cH (n m:Nat) (c:Nat→Un) (l:Nat) (Q:QT) (R:zj):Prop:=pc E39 39 (l39.drop 8) [] [] (ccC n m c l) Q fun v _ _=>R v
theorem ecH (n m:Nat) (c:Nat→Un) (l:Nat) (Q:QT) (R:zj):cH n m c l Q R=R (nI 0):=by kernel_rfl
noncomputable def j9 (m:Nat) (c:Nat→Un):Prop:=∀ i,i < m→(c i).sl=0∨(c i).sl=1
noncomputable def jC (l' j' l j:Nat):Prop:=l' < l∨(l'=l∧j' < j)
structure IsChk (n m:Nat) (c:Nat→Un) (a:Nat):Prop where
 bad:¬ j9 m c→a=1
 fine:j9 m c→(∀ l j,isS n l j=true→xK n c l j=0)→a=0
 fst:j9 m c→∀ l j,isS n l j=true→(∀ l' j',isS n l' j'=true→jC l' j' l j→xK n c l' j'=0)→xK n c l j≠0→a=xK n c l j
structure TrOk0 (n m:Nat) (c:Nat→Un):Prop where
 n24:zT n=true
 tot:m=zq n
 wl:∀ i,i < m→(c i).nd.wl
 wb:∀ i,i < m→(c i).nd.wb
theorem YN {n l j:Nat}(hn:zT n=true) (h:isS n l j=true):zi n l j < zq n:=by
 obtain⟨h1,h2⟩:=xD hn h
 obtain⟨n1,n2⟩:=xc hn
 obtain⟨m,rfl⟩:∃ m,n=Nat.succ m:=⟨n - 1,by omega⟩
 have hd:∀ m:Fin 24,∀ l:Fin 3,∀ j:Fin 6,isS (Nat.succ m.1) l.1 j.1=true→zi (Nat.succ m.1) l.1 j.1 < zq (Nat.succ m.1):=by decide
 exact hd ⟨m,by omega⟩ ⟨l,by omega⟩ ⟨j,h2⟩ h
theorem TrOk0.ok {n m:Nat}{c:Nat→Un}(H:TrOk0 n m c) (hs:j9 m c):TrOk n m c:=⟨H.n24,fun l j h=>by rw[H.tot]; exact YN H.n24 h,H.wl,H.wb,hs⟩
theorem zwG (n m:Nat) (c:Nat→Un) (hn:zT n=true):∃ a,IsChk n m c a:=by
 by_cases hs:j9 m c
 ·by_cases h:∃ k l j,k=8 * l + j∧isS n l j=true∧xK n c l j≠0
  ·have key:∀ k,(∃ l j,k=8 * l + j∧isS n l j=true∧xK n c l j≠0)→∃ k' l j,k'=8 * l + j∧isS n l j=true∧xK n c l j≠0∧∀ l' j',isS n l' j'=true→8 * l' + j' < k'→xK n c l' j'=0:=by
    intro k
    induction k using Nat.strongRecOn with
    | _ k ih =>
     rintro⟨l,j,e,h1,h2⟩
     by_cases hx:∃ l' j',isS n l' j'=true∧8 * l' + j' < k∧xK n c l' j'≠0
     ·obtain⟨l',j',q1,q2,q3⟩:=hx
      exact ih _ q2 ⟨l',j',rfl,q1,q3⟩
     ·exact⟨k,l,j,e,h1,h2,fun l' j' q1 q2=>Classical.byContradiction fun q3=>hx ⟨l',j',q1,q2,q3⟩⟩
   obtain⟨k,h⟩:=h
   obtain⟨k',l,j,e,h1,h2,h3⟩:=key k h
   refine⟨xK n c l j,⟨fun q=>absurd hs q,fun _ q=>q l j h1,fun _ l2 j2 q1 q2 q3=>?_⟩⟩
   obtain⟨a1,a2⟩:=xD hn h1
   obtain⟨b1,b2⟩:=xD hn q1
   by_cases e1:8 * l2 + j2 < k'
   ·exact absurd (h3 l2 j2 q1 e1) q3
   ·by_cases e2:jC l j l2 j2
    ·exact absurd (q2 l j h1 e2) h2
    ·have:l2=l∧j2=j:=by
      unfold jC at e2
      omega
     rw[this.1,this.2]
  ·exact⟨0,⟨fun q=>absurd hs q,fun _ _=>rfl,fun _ l j q1 _ q3=>absurd ⟨_,l,j,rfl,q1,q3⟩ h⟩⟩
 ·exact⟨1,⟨fun _=>rfl,fun q=>absurd q hs,fun q=>absurd q hs⟩⟩
theorem zeL {n:Nat}(hn:zT n=true):hS n≤2∧zQ n (hS n)=1∧∀ l j,isS n l j=true→l≤hS n:=by
 obtain⟨n1,n2⟩:=xc hn
 obtain⟨m,rfl⟩:∃ m,n=Nat.succ m:=⟨n - 1,by omega⟩
 have hd:∀ m:Fin 24,hS (Nat.succ m.1)≤2∧zQ (Nat.succ m.1) (hS (Nat.succ m.1))=1∧∀ l:Fin 3,∀ j:Fin 6,isS (Nat.succ m.1) l.1 j.1=true→l.1≤hS (Nat.succ m.1):=by decide
 obtain⟨a,b,d⟩:=hd ⟨m,by omega⟩
 refine⟨a,b,fun l j h=>?_⟩
 obtain⟨h1,h2⟩:=xD hn h
 exact d ⟨l,by omega⟩ ⟨j,h2⟩ h
theorem zwH {n:Nat}(hn:zT n=true):zq n < 100:=by
 obtain⟨n1,n2⟩:=xc hn
 obtain⟨k,rfl⟩:∃ k,n=Nat.succ k:=⟨n - 1,by omega⟩
 have hd:∀ m:Fin 24,zq (Nat.succ m.1) < 100:=by decide
 exact hd ⟨k,by omega⟩
theorem zkg {E:KEnv}{B N mask:Nat}{Q:K4}{tr:KTm}{zm:KZ}{nx:Nat}{l:List Code}(hl:l=[]) (h:Q .normal tr zm nx):JL E B N mask l tr zm nx Q:=by subst hl; exact h
attribute [local irreducible] kpre cOf mOf rOf JL zu l39 zyD zbA zyE zge zi hS zq zQ
theorem zEY:Tryz.f39.ntmps=67:=by kernel_rfl
theorem zEZ:Tryz.f39.results.toList=rOf 39:=by kernel_rfl
theorem zE0:fl (cOf 39)=l39:=by kernel_rfl
section
variable {n m:Nat}{c:Nat→Un}{B N a:Nat}
noncomputable abbrev Q39 (a:Nat):K4:=retJ E39 Tryz.f39 false (nI a)
theorem X8 (v:KV) (tr:KTm) (zm:KZ) (nx:Nat) (h:v=nI a) (h1:MB (am zm) nx) (h2:INV (mOf 39) tr) (hr:RAll Tryz.prog (tv' (zp tr)) (am zm) (rOf 39) v.v):Q39 a .ret tr zm nx:=by
 subst h
 exact retJ.mk rfl zEZ (FzP.noref rfl) hr
theorem zkh {k:Nat}{tr:KTm}{zm:KZ}(ht:[1,3,4].map (zp tr)=ucA n k) (hz:[0].map (kb zm)=[some (zTr n m c)]):atS (mOf 39) (ccA n m c k) tr zm :=
 atS.of (s:=ccA n m c k) [] id ht hz (by kernel_rfl) ⟨vc (ltk rfl),zC _ rfl,zC _ rfl,trivial⟩ ⟨RnK.nf (zcK n m c),trivial⟩
theorem zeM {l:Nat}{tr:KTm}{zm:KZ}(ht:[1,3,5].map (zp tr)=ucC n l) (hz:[0].map (kb zm)=[some (zTr n m c)]):atS (mOf 39) (ccC n m c l) tr zm :=
 atS.of (s:=ccC n m c l) [] id ht hz (by kernel_rfl) ⟨vc (ltk rfl),zC _ rfl,zC _ rfl,trivial⟩ ⟨RnK.nf (zcK n m c),trivial⟩
theorem zki {l j:Nat}{tr:KTm}{zm:KZ}(ht:[1,3,5,6].map (zp tr)=ucE n l j) (hz:[0].map (kb zm)=[some (zTr n m c)]):atS (mOf 39) (ccE n m c l j) tr zm :=
 atS.of (s:=ccE n m c l j) [] id ht hz (by kernel_rfl) ⟨vc (ltk rfl),zC _ rfl,zC _ rfl,zC _ rfl,trivial⟩ ⟨RnK.nf (zcK n m c),trivial⟩
noncomputable def zcO (n:Nat) (c:Nat→Un) (l j:Nat):Prop:=∀ l' j',isS n l' j'=true→jC l' j' l j→xK n c l' j'=0
theorem X9 {l j:Nat}(h:xK n c l j=0):yd n l j (c (zi n l j)):=by
 refine Classical.byContradiction fun hp=>?_
 unfold xK at h
 rw[if_neg hp] at h
 cases h
theorem zBH {p q:Prop}(i:Nat) [Decidable (i=i)] (h:p):if i=i then p else q:=by rw[if_pos rfl]; exact h
theorem zE1 (H:TrOk0 n m c) (hs:j9 m c) (hc:IsChk n m c a) (hN:67≤N) (tr:KTm) (zm:KZ) (nx:Nat) (h:atS (mOf 39) (ccC n m c 0) tr zm) (m1:MB (am zm) nx) (m2:INV (mOf 39) tr):JL E39 B N (mOf 39) (l39.drop 7) tr zm nx (Q39 a):=by
 obtain⟨hh2,hh1,hhl⟩:=zeL H.n24
 refine JL.loopT yJ (fun l=>ccC n m c l) (fun l=>3 - l) (fun l=>l≤hS n + 1∧zcO n c l 0) (id:=2) (b:=zbA) (l2:=l39.drop 8) (by kernel_rfl) (fun w=>by kernel_rfl) 0 ⟨by omega,fun l' j' _ hb=>by rcases hb with hb | hb<;>omega⟩ h m1 m2 ?_
 rintro l ⟨hl,hI⟩
 refine JL.stp (n:=60) yJ rfl 2 (rOf 39) [1,3,5] [0] hN (by kernel_rfl) (by kernel_rfl) (fun v=>v=nI a) (fun v tr zm nx h1 h2 h3 h4=>X8 v tr zm nx h1 h2 h3 h4) ?_
 show cD n m c l _ _
 rw[ecD]
 have leN_t:∀ {a b:Nat},leN a b=true↔a≤b:=wA
 refine⟨H.n24,?_⟩
 simp only[zo,leN_t,bf leN_t]
 refine⟨fun hlh=>?_,fun hlh=>?_⟩
 ·intro tr zm ht hz hmb hi
  show JL E39 B N (mOf 39) ((fl zbA).drop 2) tr zm 1 _
  refine JL.blk (id:=3) (X:=zge) (l2:=(fl zbA).drop 3) (by kernel_rfl) hmb hi ?_
  refine JL.preS yJ (zeM (n:=n) (m:=m) (c:=c) ht hz) (vS (by kernel_rfl)) ?_
  refine JL.stp (n:=60) yJ rfl 1 (rOf 39) [1,3,5,6] [0] hN (by kernel_rfl) (by kernel_rfl) (fun v=>v=nI a) (fun v tr zm nx h1 h2 h3 h4=>X8 v tr zm nx h1 h2 h3 h4) ?_
  show cE n m c l _ _
  rw[ecE]
  intro tr zm ht hz hmb hi
  show JL E39 B N (mOf 39) ((fl zge).drop 1) tr zm 1 _
  refine JL.loopT yJ (fun j=>ccE n m c l j) (fun j=>zQ n l - j) (fun j=>j≤zQ n l∧zcO n c l j) (id:=4) (b:=zyE) (l2:=(fl zge).drop 2) (by kernel_rfl) (fun w=>by kernel_rfl) 0 ⟨by omega,hI⟩ (zki ht hz) hmb hi ?_
  rintro j ⟨hj,hJ⟩
  refine JL.all (n:=60) yJ rfl (rOf 39) [1,3,5,6] [0] hN (by kernel_rfl) (by kernel_rfl) (fun v=>v=nI a) (fun v tr zm nx h1 h2 h3 h4=>X8 v tr zm nx h1 h2 h3 h4) ?_
  show cF n m c l j _ _
  rw[ecF]
  refine⟨⟨H.n24,by omega⟩,?_⟩
  simp only[zo,xo,bf xo]
  refine⟨fun hjc=>?_,fun hjc=>?_⟩
  ·have hpl:isS n l j=true:=qa.2 hjc
   have hj6:=(xD H.n24 hpl).2
   refine⟨(n,m,c,l,j),rfl,⟨H.ok hs,hpl,fun k w e hw=>?_⟩,?_⟩
   ·have hk:=JO H.n24 (by rw[←e]; exact hpl) (by rw[←e]; exact hw)
    have h0:=hJ k (j4 j w) hk (.inl (by show k < l; have:l=Nat.succ k:=e; omega))
    have:=(X9 h0).1
    show (c (zi n k (j4 j w))).nd.lv≤2
    rw[this]
    have:l=Nat.succ k:=e
    omega
   ·show ((!eZ (xK n c l j))=true→nI (xK n c l j)=nI a)∧_
    simp only[Bool.not_eq_true',Bool.not_eq_false',bf vV,vV,ze,xB]
    refine⟨fun hne=>?_,fun h0=>⟨by show j + 1 < _; omega,?_⟩⟩
    ·rw[hc.fst hs l j hpl hJ hne]
    ·intro tr zm ht hz hmb hi
     refine⟨j + 1,by omega,⟨by omega,?_⟩,zki ht hz⟩
     intro l' j' q1 q2
     by_cases e:l'=l∧j'=j
     ·rw[e.1,e.2]; exact h0
     ·refine hJ l' j' q1 ?_
      unfold jC at q2 ⊢
      omega
  ·intro tr zm ht hz hmb hi
   have hup:zcO n c (l + 1) 0:=by
    intro l' j' q1 q2
    refine hJ l' j' q1 ?_
    unfold jC at q2 ⊢
    by_cases e:l'=l
    ·subst e
     have:=qa.1 q1
     omega
    ·omega
   refine zBH 4 ?_
   refine zkg (by kernel_rfl) ?_
   show JL E39 B N (mOf 39) ((fl zbA).drop 3) tr zm 1 _
   refine JL.preS yJ (zki (n:=n) (m:=m) (c:=c) ht hz) (vS (by kernel_rfl)) ?_
   refine JL.all (n:=60) yJ rfl (rOf 39) [1,3,5] [0] hN (by kernel_rfl) (by kernel_rfl) (fun v=>v=nI a) (fun v tr zm nx h1 h2 h3 h4=>X8 v tr zm nx h1 h2 h3 h4) ?_
   show cG n m c l j _ _
   rw[ecG]
   simp only[ze,xB]
   refine⟨by show l + 1 < _; omega,?_⟩
   intro tr zm ht hz hmb hi
   exact⟨l + 1,by omega,⟨by omega,hup⟩,zeM ht hz⟩
 ·intro tr zm ht hz hmb hi
  show (if (2:Nat)=2 then JL E39 B N (mOf 39) (l39.drop 8) tr zm 1 (Q39 a) else Q39 a (.exit 2) tr zm 1)
  rw[if_pos rfl]
  have ha:a=0:=hc.fine hs fun l' j' q1=>hI l' j' q1 (.inl (by have:=hhl l' j' q1; omega))
  refine JL.preS yJ (zeM (n:=n) (m:=m) (c:=c) ht hz) (vS (by kernel_rfl)) ?_
  refine JL.all (n:=60) yJ rfl (rOf 39) [] [] hN (by kernel_rfl) (by kernel_rfl) (fun v=>v=nI a) X8 ?_
  show cH n m c l _ _
  rw[ecH,ha]
end
theorem j39 {n m a:Nat}{c:Nat→Un}(H:TrOk0 n m c) (hc:IsChk n m c a):JFn Tryz.prog 39 false [trK n m c] (nI a):=by
 refine JFn.of (P:=Tryz.prog) yJ rfl (c:=cOf 39) (mOf 39) Tryz.func39 (by kernel_rfl) fun B N hN=>?_
 rw[zEY] at hN
 rw[zE0]
 obtain⟨n1,n2⟩:=xc H.n24
 refine JL.stp (n:=60) (s:=(vy (mOf 39) 0 [trK n m c],[],0)) yJ rfl 5 (rOf 39) [1,3,4] [0] hN (by kernel_rfl) (by kernel_rfl) (fun v=>v=nI a) X8 ?_
 show cA n m c _ _
 rw[ecA]
 simp only[zo,show lt1 n=true↔n < 1 from qM,bf (show lt1 n=true↔n < 1 from qM),show gtM n=true↔4096 < n from qM,bf (show gtM n=true↔4096 < n from qM),Bool.not_eq_true',Bool.not_eq_false',bf jI,jI]
 refine⟨fun h=>by omega,fun _=>⟨fun h=>by omega,fun _=>⟨H.n24,fun h=>absurd H.tot h,fun _=>?_⟩⟩⟩
 intro tr zm ht hz hmb hi
 have hm100:m < 100:=by rw[H.tot]; exact zwH H.n24
 refine JL.loopT yJ (fun k=>ccA n m c k) (fun k=>m - k) (fun k=>k≤m∧∀ i,i < k→(c i).sl=0∨(c i).sl=1) (id:=0) (b:=zyD) (l2:=l39.drop 6) (by kernel_rfl) (fun w=>by kernel_rfl) 0 ⟨by omega,fun i hi=>absurd hi (Nat.not_lt_zero i)⟩ (zkh ht hz) hmb hi ?_
 rintro k ⟨hk,hI⟩
 refine JL.all (n:=60) yJ rfl (rOf 39) [1,3,4] [0] hN (by kernel_rfl) (by kernel_rfl) (fun v=>v=nI a) (fun v tr zm nx h1 h2 h3 h4=>X8 v tr zm nx h1 h2 h3 h4) ?_
 show cB n m c k _ _
 rw[ecB]
 have z0:∀ {z:Int},zdp z=true↔z=0:=fun {z}=>by unfold zdp; rw[jx]; simp
 have z1:∀ {z:Int},zgf z=true↔z=1:=fun {z}=>by unfold zgf; rw[jx]; simp
 have next:((c k).sl=0∨(c k).sl=1)→k < m→∀ Q:QT,(∀ tr zm,[1,3,4].map (zp tr)=ucA n (k + 1)→[0].map (kb zm)=[some (zTr n m c)]→MB (am zm) 1→INV (mOf 39) tr→∃ s',m - s' < m - k∧(s'≤m∧∀ i,i < s'→(c i).sl=0∨(c i).sl=1)∧atS (mOf 39) (ccA n m c s') tr zm):=by
  intro hs hkm Q tr zm ht hz hmb hi
  refine⟨k + 1,by omega,⟨by omega,fun i hi'=>?_⟩,zkh ht hz⟩
  by_cases e:i=k
  ·rw[e]; exact hs
  ·exact hI i (by omega)
 unfold nxB
 simp only[zo,xo,bf xo,ze,xB,vm,qv,Bool.not_eq_true',Bool.not_eq_false',z0,bf z0,z1,bf z1]
 refine⟨fun hkm=>⟨hkm,fun h0=>⟨hkm,fun h1=>?_,fun h1=>⟨by show k + 1 < _; omega,?_⟩⟩,fun h0=>⟨by show k + 1 < _; omega,?_⟩⟩,fun hkm=>?_⟩
 ·rw[hc.bad fun hs=>by rcases hs k hkm with h | h<;>contradiction]
 ·exact next (.inr h1) hkm (fun _ _ _ _=>True)
 ·exact next (.inl h0) hkm (fun _ _ _ _=>True)
 ·intro tr zm ht hz hmb hi
  show (if (0:Nat)=0 then JL E39 B N (mOf 39) (l39.drop 6) tr zm 1 (Q39 a) else Q39 a (.exit 0) tr zm 1)
  rw[if_pos rfl]
  have hs:j9 m c:=fun i hi=>hI i (by omega)
  refine JL.preS yJ (zkh (n:=n) (m:=m) (c:=c) ht hz) (vS (by kernel_rfl)) ?_
  refine JL.stp (n:=60) yJ rfl 1 (rOf 39) [1,3,5] [0] hN (by kernel_rfl) (by kernel_rfl) (fun v=>v=nI a) X8 ?_
  show cC n m c k _ _
  rw[ecC]
  intro tr zm ht hz hmb hi
  show JL E39 B N (mOf 39) ((l39.drop 6).drop 1) tr zm 1 (Q39 a)
  rw[List.drop_drop]
  exact zE1 H hs hc hN tr zm 1 (zeM ht hz) hmb hi
end
end Go.K
set_option maxRecDepth 100000
namespace Go.K
open Go.Ab Go.RowKit Go.Y Go.Proofs
noncomputable section
attribute [local instance 10000] gO
noncomputable def onZ (v:KV) (f:Int→Prop):Prop:=xt (fun k a=>chk (xq k .i64) 940 (f a)) (BadN 941) v
theorem zCq {v:KV}{f:Int→Prop}(h:onZ v f):∃ a,v=.int .i64 a∧f a:=by
 rcases zI h with ⟨k,a,rfl,h1⟩ | ⟨_,h1⟩
 ·obtain⟨h2,h3⟩:=zd h1
  obtain rfl:=zJ h2
  exact⟨a,rfl,h3⟩
 ·exact h1.elim
noncomputable def zq7 (v:KV) (f:Bool→Prop):Prop:=jA f (BadN 942) v
theorem zlB {v:KV}{f:Bool→Prop}(h:zq7 v f):∃ b,v=.bool b∧f b:=by
 rcases xZ h with ⟨b,rfl,h1⟩ | ⟨_,h1⟩
 ·exact⟨b,rfl,h1⟩
 ·exact h1.elim
theorem zq8 {v:KV}{f:Bool→Prop}(h:zq7 v f):∃ b,True∧Imp v.v (KV.bool b).v∧f b:=by
 obtain⟨b,rfl,h⟩:=zlB h
 exact⟨b,trivial,Imp.refl _,h⟩
noncomputable def zxp (v:KV) (f:Un→Prop):Prop:=onC v fun a r=>Vf a fun nd=>onC r fun b r=>onZ b fun sl=>onC r fun d r=>zq7 d fun di=>onC r fun e r=>on4 zq7 e fun ch=>onE r (f ⟨nd,sl,di,ch⟩)
theorem zlC {v:KV}{f:Un→Prop}(h:zxp v f):∃ x:Un,x.nd.wl∧Imp v.v x.k.v∧f x:=by
 obtain⟨a,r,rfl,h1⟩:=v8 h
 obtain⟨nd,w,i1,h2⟩:=w6 h1
 obtain⟨b,r,rfl,h3⟩:=v8 h2
 obtain⟨sl,rfl,h4⟩:=zCq h3
 obtain⟨d,r,rfl,h5⟩:=v8 h4
 obtain⟨di,rfl,h6⟩:=zlB h5
 obtain⟨e,r,rfl,h7⟩:=v8 h6
 obtain⟨ch,_,i2,h8⟩:=ziP (z:=.bool false) (k:=KV.bool) (W:=fun _=>True) (fun v f h=>zq8 h) h7
 obtain⟨rfl,h9⟩:=JM h8
 exact⟨⟨nd,sl,di,ch⟩,w,Imp.cons i1 (Imp.cons (Imp.refl _) (Imp.cons (Imp.refl _) (Imp.cons i2 (Imp.refl _)))),h9⟩
noncomputable def stU (x:Nd) (i:Nat):Nat:=@Nat.rec (fun _=>Nat) (x.rc i).st (fun _ _=>(x.en i).st) x.lv
noncomputable def inc (f:Nat→Nat) (i a:Nat):Nat:=@Bool.rec (fun _=>Nat) (Nat.succ a) a (eZ (f i))
noncomputable def JV (f:Nat→Nat):Nat:=inc f 3 (inc f 2 (inc f 1 (inc f 0 0)))
noncomputable def usF (f:Nat→Nat) (K:KV→Prop) (k:Nat):Nat→Prop:=@Nat.rec (fun _=>Nat→Prop) (fun a=>K (nI a)) (fun k ih a=>alt (!eZ (f (Nat.sub 3 k))) (ih (Nat.succ a)) (ih a)) k
noncomputable def ztk (x:Nd) (K:KV→Prop):Prop:=zn EO0 (zu EO0 60) 0 234 [(z0 x).k] .e 0 0 fun r _ _ _=>K r
noncomputable def ztl (l:Nat) (x:Nd) (K:KV→Prop):Prop:=zn EO0 (zu EO0 60) 0 234 [(s1 l x).k] .e 0 0 fun r _ _ _=>K r
theorem zCr (x:Nd) (K:KV→Prop):ztk x K=usF (fun i=>(x.rc i).st) K 4 0:=by kernel_rfl
theorem zCs (l:Nat) (x:Nd) (K:KV→Prop):ztl l x K=usF (fun i=>(x.en i).st) K 4 0:=by kernel_rfl
theorem zlD (f:Nat→Nat):usF f (Is (nI (JV f))) 4 0:=by
 have st:∀(k a:Nat) (q:Nat→Prop),q (inc f k a)→alt (!eZ (f k)) (q (Nat.succ a)) (q a):=fun k a q h=>by
  unfold inc at h
  cases hz:eZ (f k) with
  | true=>rw[hz] at h; exact h
  | false=>rw[hz] at h; exact h
 exact st 0 0 (fun a=>usF f (Is (nI (JV f))) 3 a) (st 1 _ (fun a=>usF f (Is (nI (JV f))) 2 a) (st 2 _ (fun a=>usF f (Is (nI (JV f))) 1 a) (st 3 _ (fun a=>usF f (Is (nI (JV f))) 0 a) (Is.rfl' _))))
noncomputable def Nd.us (x:Nd):Nat:=JV (stU x)
noncomputable def ztm:zg:=fun l K=>la1 l fun v=>Vf v fun x=>K (nI x.us)
theorem zCt:KCS Tryz.prog 234 ztm:=Va xA rfl ⟨Tryz.f234,Tryz.func234,by kernel_rfl,by kernel_rfl⟩ 60 (fun v f h=>w6 h) (fun x=>rfl) fun x w=>by
 obtain⟨lv,ix,rc,en⟩:=x
 cases lv with
 | zero =>
  show ztk ⟨0,ix,rc,en⟩ (Is (nI (JV fun i=>(rc i).st)))
  rw[zCr]
  exact zlD _
 | succ l =>
  show ztl l ⟨Nat.succ l,ix,rc,en⟩ (Is (nI (JV fun i=>(en i).st)))
  rw[zCs]
  exact zlD _
noncomputable def zxq:KEnv:=EO0.tab [(234,ztm),(158,ztr)]
theorem zCu:KOk zxq:=xA.tab ⟨zCt,zxB,trivial⟩
noncomputable def zq9 (z:Un) (K:KV→Prop):Prop:=zn zxq (zu zxq 100) 0 177 [z.k] .e 0 0 fun r _ _ _=>K r
noncomputable def f177 (z:Un) (st:Nat) (K:KV→Prop):Prop:=alt (eZ z.nd.nf.us) (K enZ) (zrk z.nd.nf∧K (.cons (kU8 st) (.cons (kBy 32 (nN z.nd.nf.dg)) .nl)))
theorem zra (z:Un) (K:KV→Prop):zq9 (z.w 0 false) K=f177 z 1 K:=by kernel_rfl
theorem zrb (z:Un) (K:KV→Prop):zq9 (z.w 0 true) K=f177 z 2 K:=by kernel_rfl
theorem zrc (z:Un) (K:KV→Prop):zq9 (z.w 1 false) K=f177 z 2 K:=by kernel_rfl
theorem zre (z:Un) (K:KV→Prop):zq9 (z.w 1 true) K=f177 z 1 K:=by kernel_rfl
noncomputable def Un.ent (z:Un):En:=@Bool.rec (fun _=>En) ⟨z.stS,z.nd.dg⟩ ⟨0,[]⟩ (eZ z.nd.us)
noncomputable def QH (z:Un):Prop:=z.nd.ok∧z.nd.lv≤2∧(z.sl=0∨z.sl=1)
theorem ztn {x:Nd}(h:x.wl):x.nf.us=x.us:=by
 have a0:=Nd.nf_rc' h 0 (by omega); have a1:=Nd.nf_rc' h 1 (by omega); have a2:=Nd.nf_rc' h 2 (by omega); have a3:=Nd.nf_rc' h 3 (by omega)
 have b0:=Nd.nf_en' h 0 (by omega); have b1:=Nd.nf_en' h 1 (by omega); have b2:=Nd.nf_en' h 2 (by omega); have b3:=Nd.nf_en' h 3 (by omega)
 have e:∀ i,i < 4→stU x.nf i=stU x i:=fun i hi=>by
  show @Nat.rec (fun _=>Nat) (x.nf.rc i).st (fun _ _=>(x.nf.en i).st) x.lv=_
  rw[Nd.nf_rc' h i hi,Nd.nf_en' h i hi]; rfl
 unfold Nd.us JV inc
 rw[e 0 (by omega),e 1 (by omega),e 2 (by omega),e 3 (by omega)]
theorem zxr:Imp enZ.v (⟨0,[]⟩:En).k.v:=by
 refine Imp.cons (Imp.refl _) (Imp.cons ?_ (Imp.refl _))
 show Imp (.arr 32 _) _
 exact yA fun i hi=>by
  have:nN [] i=0:=rfl
  rw[this]; rfl
noncomputable def zCv:zg:=fun l K=>la1 l fun v=>zxp v fun z=>QH z∧K z.ent.k
theorem zrf {z:Un}(hw:z.nd.wl) (hk:z.nd.ok) (hl:z.nd.lv≤2):f177 z z.stS (Is z.ent.k):=by
 unfold f177
 rw[ztn hw,zeF hw]
 unfold Un.ent
 cases hu:eZ z.nd.us with
 | true =>
  show Is _ enZ
  exact zxr
 | false =>
  show zrk z.nd.nf∧Is _ _
  exact⟨⟨zbv hw hk,hl⟩,Imp.refl _⟩
attribute [local irreducible] zn zu f177
theorem zFH:KCS Tryz.prog 177 zCv:=zFy (pre:=QH) zCu rfl ⟨Tryz.f177,Tryz.func177,by kernel_rfl,by kernel_rfl⟩ 100 (fun v f h=>zlC h) (fun z=>by show xl _=true; rfl) fun z w hp=>by
 obtain⟨hk,hl,hs⟩:=hp
 have h:=zrf (z:=z) w hk hl
 obtain⟨nd,sl,di,ch⟩:=z
 rcases (show sl=0∨sl=1 from hs) with rfl | rfl
 ·cases di with
  | false=>exact Eq.mpr (zra ⟨nd,0,false,ch⟩ (Is (Un.ent ⟨nd,0,false,ch⟩).k)) h
  | true=>exact Eq.mpr (zrb ⟨nd,0,true,ch⟩ (Is (Un.ent ⟨nd,0,true,ch⟩).k)) h
 ·cases di with
  | false=>exact Eq.mpr (zrc ⟨nd,1,false,ch⟩ (Is (Un.ent ⟨nd,1,false,ch⟩).k)) h
  | true=>exact Eq.mpr (zre ⟨nd,1,true,ch⟩ (Is (Un.ent ⟨nd,1,true,ch⟩).k)) h
end
end Go.K
set_option maxRecDepth 100000
namespace Go.K
open Go.Ab Go.RowKit Go.Y Go.Proofs
noncomputable section
attribute [local instance 10000] gO
noncomputable def zC5:Shape:=.cons .sc (.cons .sc .nl)
noncomputable def znS:Shape:=.cons zC5 (.cons Z5 (.cons .sc (.cons .sc .nl)))
noncomputable def zC6 (h a b c d e:Nat):KV:=.cons (.ro true false .sc 0 (Nat.succ h) (kAr (Nat.succ h) (nI 0) fun i=>nI (c4 a b c 0 i))) (.cons (.ro true false .sc 0 (Nat.succ h) (kAr (Nat.succ h) (nI 0) fun i=>nI (c4 0 d e 0 i))) .nl)
noncomputable def yI (n:Nat):KV:=zC6 (hS n) (zQ n 0) (zQ n 1) (zQ n 2) (zi n 1 0) (zi n 2 0)
noncomputable def zc1 (n:Nat) (K:KV→Prop):Prop:=zx (hS n) fun h=>zx (zQ n 0) fun a=>zx (zQ n 1) fun b=>zx (zQ n 2) fun c=>zx (zi n 1 0) fun d=>zx (zi n 2 0) fun e=>K (zC6 h a b c d e)
theorem Xg (n:Nat) (K:KV→Prop):zc1 n K=K (yI n):=by unfold zc1; simp only[zy]; rfl
noncomputable def ckL (lay:KV) (n m:Nat) (c:Nat→Un) (l k:Nat):KV:=.cons lay (.cons (trK n m c) (.cons (nI k) (.cons (nI l) .nl)))
noncomputable def ckK (n m:Nat) (c:Nat→Un) (l j:Nat):KV:=ckL (yI n) n m c l (zi n l j)
noncomputable def zx4:KEnv:=EO0.tab [(123,zqp)]
noncomputable def zx5:KEnv:=EO0.tab [(177,zCv)]
noncomputable def rnC (E:KEnv) (f n:Nat) (c:Nat→Un) (l j a:Nat):Prop:=zc1 n fun lay=>zx (zq n) fun m=>zx (zi n l j) fun k=>zn E (zu E 100) 0 f [.ref false znS (ckL lay n m c l k)] .e 0 0 fun r _ _ _=>r=nI a
noncomputable def YY (S:Nat→Nat→Nat→Prop) (E:KEnv) (f:Nat) (form:Nat→(Nat→Un)→Nat→Nat→Nat→Prop) (c:Nat→Un) (a:Nat) (b:Bool):Prop :=
 jL (fun n=>jL (fun l=>jL (fun j=>whB (isS (Nat.succ n) l j) (S (Nat.succ n) l j→@Bool.rec (fun _=>Prop) (form (Nat.succ n) c l j a) (rnC E f (Nat.succ n) c l j a) b)) 6) 3) 24
theorem YZ {E:KEnv}{f:Nat}{form:Nat→(Nat→Un)→Nat→Nat→Nat→Prop}{c:Nat→Un}{a n l j:Nat}(h:YY (fun n' l' j'=>n'=n∧l'=l∧j'=j) E f form c a true=YY (fun n' l' j'=>n'=n∧l'=l∧j'=j) E f form c a false) (hn:zT n=true) (hs:isS n l j=true) (hf:form n c l j a):rnC E f n c l j a:=by
 obtain⟨n1,n2⟩:=xc hn
 obtain⟨h1,h2⟩:=xD hn hs
 obtain⟨m,rfl⟩:∃ m,n=Nat.succ m:=⟨n - 1,by omega⟩
 have hF:YY (fun n' l' j'=>n'=Nat.succ m∧l'=l∧j'=j) E f form c a false:=Zp fun n' _=>Zp fun l' _=>Zp fun j' _=>by
  cases isS (Nat.succ n') l' j' with
  | false=>exact trivial
  | true =>
   show (_→_)
   rintro⟨e1,e2,e3⟩
   rw[e1,e2,e3]; exact hf
 have:=Eq.mpr h hF
 exact zkj (xC (xC (xC this m (by omega)) l (by omega)) j (by omega)) hs ⟨rfl,rfl,rfl⟩
noncomputable def r9 (k a:Nat):Prop:=nI k=nI a
noncomputable def zC7 (n l j a:Nat) (y:Un):Prop:=cnd (b63 y.nd.lv) (alt (!eqN y.nd.lv l) (r9 17 a) (cnd (b63 y.nd.ix) (alt (!eqN y.nd.ix j) (r9 17 a) ((zT n=true∧y.nd.lv < 256∧y.nd.ix < 4294967296)∧alt (!eZ (y.nd.nf.fe n)) (r9 17 a) (r9 0 a)))))
noncomputable def ze0 (n:Nat) (c:Nat→Un) (l j a:Nat):Prop:=zx (zi n l j) fun k=>zC7 n l j a (c k)
inductive DS where
 | F
 | T
 | V (i:Nat)
noncomputable def DS.val (y:Un) (s:DS):Bool:=@DS.rec (fun _=>Bool) false true (fun i=>y.ch i) s
noncomputable def mkU (y:Un) (w:Nat) (ih:DS→Prop) (s:DS):Prop:=@DS.rec (fun _=>Prop) (ih (.V w)) (ih .T) (fun i=>alt (y.ch i) (ih .T) (ih (.V w))) s
noncomputable def mkF (y:Un) (a:Nat) (r:Nat):DS→Prop:=@Nat.rec (fun _=>DS→Prop) (fun s=>alt (!ZU y.di (s.val y)) (r9 9 a) (r9 0 a)) (fun r ih s=>alt (y.ch (Nat.sub 3 r)) (alt (eZ (y.nd.rc (Nat.sub 3 r)).st) (r9 9 a) (mkU y (Nat.sub 3 r) ih s)) (mkU y (Nat.sub 3 r) ih s)) r
noncomputable def chZ (y:Un):Bool:=z4 fun i=>ZU (y.ch i) false
noncomputable def znT (y:Un) (a:Nat) (b:Bool):Prop:=alt (!chZ y) (r9 9 a) (alt (!ZU y.di b) (r9 9 a) (r9 0 a))
noncomputable def mkG (n:Nat) (c:Nat→Un) (l j a:Nat) (y:Un) (p r:Nat):Prop:=@Nat.rec (fun _=>Prop) (znT y a false) (fun r ih=>zx (zi n l (j4 j (Nat.sub p (Nat.succ r)))) fun k=>alt (c k).di (znT y a true) ih) r
noncomputable def znU (n:Nat) (c:Nat→Un) (l j a:Nat):Prop:=@Nat.rec (fun _=>Prop) (zx (zi n 0 j) fun i=>mkF (c i) a 4 .F) (fun k _=>zx (zi n (Nat.succ k) j) fun i=>mkG n c k j a (c i) (zw n (Nat.succ k) j) (zw n (Nat.succ k) j)) l
noncomputable def Un.nf (z:Un):Un:=⟨z.nd.nf,z.sl,z.di,c4 (z.ch 0) (z.ch 1) (z.ch 2) (z.ch 3)⟩
noncomputable def enG (n:Nat) (c:Nat→Un) (l j a:Nat) (y:Un) (p r:Nat):Prop:=@Nat.rec (fun _=>Prop) (r9 0 a) (fun r ih=>zx (zi n l (j4 j (Nat.sub p (Nat.succ r)))) fun k=>QH (c k).nf∧alt (!(y.nd.en (Nat.sub p (Nat.succ r))).eqb (c k).nf.ent) (r9 9 a) ih) r
noncomputable def znV (n:Nat) (c:Nat→Un) (l j a:Nat):Prop:=@Nat.rec (fun _=>Prop) (r9 0 a) (fun k _=>zx (zi n (Nat.succ k) j) fun i=>enG n c k j a (c i) (zw n (Nat.succ k) j) (zw n (Nat.succ k) j)) l
end
end Go.K
