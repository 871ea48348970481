/- The program's checks of one node of a working tree: their pieces. No condition. -/
import Derived.Test.YtkllahedaiddgaaGreatDoorCPS
import Derived.Test.YtkllahedaiddgaaGreatDoorNU
set_option linter.unusedSimpArgs false
set_option linter.unusedVariables false
set_option maxRecDepth 100000
namespace Go.K
open Go.Ab Go.RowKit Go.Y Go.Proofs
noncomputable section
attribute [local instance 10000] gO
noncomputable def YU (z:Un):Prop:=∃ i,i < 4∧(0 < (z.nd.rc i).st∨0 < (z.nd.en i).st)
noncomputable def zpF (e:En) (z:Un):Prop:=(YU z→e.eqb ⟨z.stS,z.nd.dg⟩=true)∧(¬ YU z→e.zb=true)
noncomputable def zbr (n:Nat) (c:Nat→Un) (l j w:Nat):Un:=c (xO n l (j4 j w))
noncomputable def zpG (n l j:Nat) (y:Un):Prop:=y.nd.lv=l∧y.nd.ix=j∧y.nd.fe n=0
noncomputable def vv (n:Nat) (c:Nat→Un) (l j:Nat) (y:Un) (p:Nat):Prop:=(∃ w,w < 4∧y.ch w=true)∨∃ k,l=Nat.succ k∧∃ w,w < p∧(zbr n c k j w).di=true
noncomputable def chP (l:Nat) (y:Un) (k:Nat):Prop:=∀ w,w < k→y.ch w=true→l=0∧(y.nd.rc w).st≠0
noncomputable def wg (n:Nat) (c:Nat→Un) (l j:Nat) (y:Un) (p:Nat):Prop:=∀ k,l=Nat.succ k→∀ w,w < p→zpF (y.nd.en w) (zbr n c k j w)
noncomputable def zhD (n:Nat) (c:Nat→Un) (l j:Nat) (y:Un):Prop:=chP l y 4∧(y.di=true↔vv n c l j y (xl n l j))∧wg n c l j y (xl n l j)
open Classical in
noncomputable def zdo (n:Nat) (c:Nat→Un) (l j:Nat):Nat:=if zpG n l j (c (xO n l j)) then (if zhD n c l j (c (xO n l j)) then 0 else 9) else 17
structure TrOk (n m:Nat) (c:Nat→Un):Prop where
 n24:vV n=true
 inm:∀ l j,isS n l j=true→xO n l j < m
 wl:∀ i,i < m→(c i).nd.wl
 wb:∀ i,i < m→(c i).nd.wb
 sl:∀ i,i < m→(c i).sl=0∨(c i).sl=1
theorem Wo {n l j:Nat}(hn:vV n=true) (h:isS n l j=true):l≤2∧j < 6:=by
 obtain⟨n1,n2⟩:=wi hn
 obtain⟨m,rfl⟩:∃ m,n=Nat.succ m:=⟨n - 1,by omega⟩
 have hm:m < 24:=by omega
 have hl:l < 3:=by
  refine Classical.byContradiction fun hl=>?_
  obtain⟨k,rfl⟩:∃ k,l=Nat.add k 3:=⟨l - 3,by show l=l - 3 + 3; omega⟩
  rw[VL,XD m k hm] at h
  omega
 have hc:=Zh m l hm hl
 have hi:=VL.1 h
 exact⟨by omega,by omega⟩
theorem zhE {n l j w:Nat}(hn:vV n=true) (h:isS n (Nat.succ l) j=true) (hw:w < xl n (Nat.succ l) j):isS n l (j4 j w)=true:=by
 obtain⟨h1,h2⟩:=Wo hn h
 obtain⟨h3,h4⟩:=Wn hn h
 obtain⟨n1,n2⟩:=wi hn
 obtain⟨m,rfl⟩:∃ m,n=Nat.succ m:=⟨n - 1,by omega⟩
 have hm:m < 24:=by omega
 have hd:∀ m:Fin 24,∀ l:Fin 2,∀ j:Fin 6,∀ w:Fin 4,isS (Nat.succ m.1) (Nat.succ l.1) j.1=true→w.1 < xl (Nat.succ m.1) (Nat.succ l.1) j.1→isS (Nat.succ m.1) l.1 (j4 j.1 w.1)=true:=by decide
 exact hd ⟨m,hm⟩ ⟨l,by omega⟩ ⟨j,h2⟩ ⟨w,by omega⟩ h hw
theorem zuq {x:Nd}(h:x.wl):x.nf.dg=x.dg:=by
 have a0:=Nd.nf_rc' h 0 (by omega); have a1:=Nd.nf_rc' h 1 (by omega); have a2:=Nd.nf_rc' h 2 (by omega); have a3:=Nd.nf_rc' h 3 (by omega)
 have b0:=Nd.nf_en' h 0 (by omega); have b1:=Nd.nf_en' h 1 (by omega); have b2:=Nd.nf_en' h 2 (by omega); have b3:=Nd.nf_en' h 3 (by omega)
 have e0:VE P32 P32 P64 x.nf=VE P32 P32 P64 x:=by unfold VE; rw[a0,a1,a2,a3]; rfl
 have e1:Xl P32 x.nf=Xl P32 x:=by unfold Xl; rw[b0,b1,b2,b3]; rfl
 unfold Nd.dg
 rw[e0,e1]; rfl
theorem zur {x:Nd}(h:x.wl) (hb:x.wb):x.nf.wb:=⟨hb.1,hb.2.1,fun i hi=>by rw[Nd.nf_rc' h i hi]; exact hb.2.2.1 i hi,fun i hi=>by rw[Nd.nf_en' h i hi]; exact hb.2.2.2 i hi⟩
theorem zdp {a b:Nat}:eqN a b=true↔a=b:=y8
theorem jM {a b:Nat}:ltN a b=true↔a < b:=vq
theorem zdq {a:Nat}:gtZ a=true↔0 < a:=vq
theorem zhF {a b:Bool}:Jm a b=true↔a=b:=by cases a<;>cases b<;>decide
theorem xQ {k m:Nat}:ixB (.ofNat k) m=true↔k < m:=zsG
theorem zq {μ:Mem}{n2:Nat}(v:KV) (h:zY 0 v=true):RnV μ [] id n2 v.v v.v:=(RnF.nf (vY 0 v h).1).b.v
theorem xU {μ:Mem}{n2 b:Nat}{s:Shape}(h:b < n2):RnV μ [] id n2 (KV.ptr b [] s).v (KV.ptr b [] s).v:=(RnB.ptr rfl h).v
theorem zxF:KCS Tryz.prog 117 ztM:=zhP.imp fun l K h=>by
 obtain⟨n,l,i,rfl,⟨h1,h2⟩,h4⟩:=zdl h
 show chk (nd (vV n) (isS n l i)) 922 (K _)
 rw[h1,h2]; exact h4
theorem vk:KOk vb:=zR.tab ⟨zyz,zt3,zxF,zvs,trivial⟩
attribute [local irreducible] kpre cOf mOf rOf JL zp ja zhq zhr Xf zhs Zf xO
theorem zus:Tryz.f110.results.toList=rOf 110:=by kernel_rfl
section
variable {n m:Nat}{c:Nat→Un}{l j:Nat}{B N:Nat}{a:Nat}
noncomputable abbrev jB (a:Nat):K4:=retJ vb Tryz.f110 false (nI a)
theorem jQ (v:KV) (tr:KTm) (zm:KZ) (nx:Nat) (h:v=nI a) (h1:MB (am zm) nx) (h2:INV (mOf 110) tr) (hr:RAll Tryz.prog (tv' (zj tr)) (am zm) (rOf 110) v.v):jB a .ret tr zm nx:=by
 subst h
 exact retJ.mk rfl zus (FzP.noref rfl) hr
theorem zkI (n m:Nat) (c:Nat→Un):zY 0 (zTr n m c).v=true:=by kernel_rfl
theorem zhG (y:Un):zY 0 (zUn y).v=true:=by kernel_rfl
theorem atB {y:Un}{w:Nat}{d:Bool}{tr:KTm}{zm:KZ}(ht:[1,2,3,7,8,9,10].map (zj tr)=vB n l j w d) (hz:[0,1].map (kb zm)=zB2 n m c y):atS (mOf 110) (sB n m c y l j w d) tr zm :=
 atS.of (s:=sB n m c y l j w d) [] id ht hz (by kernel_rfl) ⟨zq _ rfl,zq _ rfl,xU (ltk rfl),zq _ rfl,xU (ltk rfl),zq _ rfl,zq _ rfl,trivial⟩ ⟨RnK.nf (zkI n m c),RnK.nf (zhG y),trivial⟩
theorem atC {y:Un}{p w:Nat}{d:Bool}{tr:KTm}{zm:KZ}(ht:[1,2,3,7,8,9,11,12].map (zj tr)=vC n l j p w d) (hz:[0,1].map (kb zm)=zB2 n m c y):atS (mOf 110) (sC n m c y l j p w d) tr zm :=
 atS.of (s:=sC n m c y l j p w d) [] id ht hz (by kernel_rfl) ⟨zq _ rfl,zq _ rfl,xU (ltk rfl),zq _ rfl,xU (ltk rfl),zq _ rfl,zq _ rfl,zq _ rfl,trivial⟩ ⟨RnK.nf (zkI n m c),RnK.nf (zhG y),trivial⟩
theorem atF {y:Un}{p w:Nat}{tr:KTm}{zm:KZ}(ht:[1,2,3,7,8,11,13].map (zj tr)=vF n l j p w) (hz:[0,1].map (kb zm)=zB2 n m c y):atS (mOf 110) (sF n m c y l j p w) tr zm :=
 atS.of (s:=sF n m c y l j p w) [] id ht hz (by kernel_rfl) ⟨zq _ rfl,zq _ rfl,xU (ltk rfl),zq _ rfl,xU (ltk rfl),zq _ rfl,zq _ rfl,trivial⟩ ⟨RnK.nf (zkI n m c),RnK.nf (zhG y),trivial⟩
theorem atG {y z:Un}{p w i:Nat}{u:Bool}{tr:KTm}{zm:KZ}(ht:[1,2,3,7,8,11,13,14,15,16,17].map (zj tr)=vG n l j p w u i) (hz:[0,1,2,3].map (kb zm)=zG n m c y z):atS (mOf 110) (sG n m c y z l j p w u i) tr zm :=
 atS.of (s:=sG n m c y z l j p w u i) [] id ht hz (by kernel_rfl) ⟨zq _ rfl,zq _ rfl,xU (ltk rfl),zq _ rfl,xU (ltk rfl),zq _ rfl,zq _ rfl,xU (ltk rfl),xU (ltk rfl),zq _ rfl,zq _ rfl,trivial⟩ ⟨RnK.nf (zkI n m c),RnK.nf (zhG y),RnK.nf (zhG z),RnK.nf (by kernel_rfl),trivial⟩
theorem zut (hN:176≤N) (h0:a=0) (y:Un) (p w:Nat) (tr:KTm) (zm:KZ) (nx:Nat) (h:atS (mOf 110) (sF n m c y l j p w) tr zm):JL vb B N (mOf 110) (ja.drop 15) tr zm nx (jB a):=by
 refine JL.preS vk h (xx (by kernel_rfl)) ?_
 refine JL.all (n:=60) vk rfl (rOf 110) [] [] hN (by kernel_rfl) (by kernel_rfl) (fun v=>v=nI a) jQ ?_
 show pL n m c y l j p w _ _
 rw[eL,h0]
theorem ji (x:Nat):Nat.add 0 x=x:=Nat.zero_add x
noncomputable def zmn (z:Un) (i:Nat):Prop:=0 < (z.nd.rc i).st∨0 < (z.nd.en i).st
theorem zuu (hN:176≤N) (y z:Un) (p w:Nat) (Qb:K4) (hb:∀ v tr zm nx,v=nI a→MB (am zm) nx→INV (mOf 110) tr→RAll Tryz.prog (tv' (zj tr)) (am zm) (rOf 110) v.v→Qb .ret tr zm nx) (tr:KTm) (zm:KZ) (nx:Nat) (h:atS (mOf 110) (sG n m c y z l j p w false 0) tr zm) (m1:MB (am zm) nx) (m2:INV (mOf 110) tr)
  (hq:∀ u tr zm nx,(u=true↔YU z)→atS (mOf 110) (sG n m c y z l j p w u 4) tr zm→MB (am zm) nx→INV (mOf 110) tr→JL vb B N (mOf 110) ((fl Zf).drop 5) tr zm nx Qb):JL vb B N (mOf 110) ((fl Zf).drop 4) tr zm nx Qb:=by
 refine JL.loopT vk (fun x:Nat×Bool=>sG n m c y z l j p w x.2 x.1) (fun x=>4 - x.1) (fun x=>x.1≤4∧(x.2=true↔∃ i,i < x.1∧zmn z i)) (id:=6) (b:=zhs) (l2:=(fl Zf).drop 5) (by kernel_rfl) (fun x=>by kernel_rfl) (0,false) ⟨by omega,⟨fun h=>(by cases h),fun⟨i,hi,_⟩=>absurd hi (Nat.not_lt_zero i)⟩⟩ h m1 m2 ?_
 rintro⟨i,u⟩ ⟨hi4,hu⟩
 refine JL.all (n:=60) vk rfl (rOf 110) [1,2,3,7,8,11,13,14,15,16,17] [0,1,2,3] hN (by kernel_rfl) (by kernel_rfl) (fun v=>v=nI a) hb ?_
 show pH n m c y z l j p w u i _ _
 by_cases h4:i < 4
 ·rw[eH h4]
  cases u with
  | true =>
   intro tr zm ht hz hmb hi
   exact⟨(Nat.succ i,true),by show 4 - (i + 1) < 4 - i; omega,⟨by show i + 1≤4; omega,⟨fun _=>by
    obtain⟨k,hk,h⟩:=hu.1 rfl
    exact⟨k,by show k < i + 1; have:k < i:=hk; omega,h⟩,fun _=>rfl⟩⟩,atG ht hz⟩
  | false =>
   have hno:∀ k,k < i→¬ zmn z k:=fun k hk h=>by have:=hu.2 ⟨k,hk,h⟩; cases this
   show alt _ _ _
   simp only[zh,zdq,bf zdq]
   refine⟨fun hg=>?_,fun hg=>?_⟩
   ·intro tr zm ht hz hmb hi
    exact⟨(Nat.succ i,true),by show 4 - (i + 1) < 4 - i; omega,⟨by show i + 1≤4; omega,⟨fun _=>⟨i,Nat.lt_succ_self i,.inl hg⟩,fun _=>rfl⟩⟩,atG ht hz⟩
   ·intro tr zm ht hz hmb hi
    refine⟨(Nat.succ i,gtZ (z.nd.en i).st),by show 4 - (i + 1) < 4 - i; omega,⟨by show i + 1≤4; omega,⟨fun h=>⟨i,Nat.lt_succ_self i,.inr (zdq.1 h)⟩,?_⟩⟩,atG ht hz⟩
    rintro⟨k,hk,hu'⟩
    have hk':k < i + 1:=hk
    by_cases e:k=i
    ·subst e
     rcases hu' with h | h
     ·exact absurd h hg
     ·exact zdq.2 h
    ·exact absurd hu' (hno k (by omega))
 ·obtain rfl:i=4:=by have:i≤4:=hi4; omega
  rw[eH4]
  intro tr zm ht hz hmb hi
  show (if 6=6 then _ else _)
  rw[if_pos rfl]
  exact hq u tr zm 4 hu (atG ht hz) hmb hi
theorem zuv (H:TrOk n m c) (hs:isS n l j=true) (hk2:∀ k w,l=Nat.succ k→w < xl n l j→(zbr n c k j w).nd.lv≤2) (hN:176≤N) (y:Un)
  (h0:wg n c l j y (xl n l j)→a=0) (h9:¬ wg n c l j y (xl n l j)→a=9) (tr:KTm) (zm:KZ) (nx:Nat) (h:atS (mOf 110) (sF n m c y l j (xl n l j) 0) tr zm) (m1:MB (am zm) nx) (m2:INV (mOf 110) tr):JL vb B N (mOf 110) (ja.drop 14) tr zm nx (jB a):=by
 obtain⟨hl2,hj6⟩:=Wo H.n24 hs
 obtain⟨hp1,hp4⟩:=Wn H.n24 hs
 generalize hp:xl n l j=p at *
 refine JL.loopT vk (fun w=>sF n m c y l j p w) (fun w=>p - w) (fun w=>w≤p∧wg n c l j y w) (id:=4) (b:=Xf) (l2:=ja.drop 15) (by kernel_rfl) (fun w=>by kernel_rfl) 0 ⟨by omega,fun k _ w hw=>absurd hw (Nat.not_lt_zero w)⟩ h m1 m2 ?_
 rintro w ⟨hw,hI⟩
 refine JL.stp (n:=60) vk rfl 2 (rOf 110) [1,2,3,7,8,11,13] [0,1] hN (by kernel_rfl) (by kernel_rfl) (fun v=>v=nI a) (fun v tr zm nx h1 h2 h3 h4=>jQ v tr zm nx h1 h2 h3 h4) ?_
 show pF n m c y l j p w _ _
 have out:wg n c l j y p→∀ tr zm nx,[1,2,3,7,8,11,13].map (zj tr)=vF n l j p w→[0,1].map (kb zm)=zB2 n m c y→JL vb B N (mOf 110) (ja.drop 15) tr zm nx (jB a):=fun he tr zm nx ht hz=>zut hN (h0 he) y p w tr zm nx (atF ht hz)
 cases l with
 | zero =>
  rw[eF0]
  have he:wg n c 0 j y p:=fun k hk=>by cases hk
  simp only[zh]
  refine⟨fun _=>?_,fun _=>?_⟩
  ·intro tr zm ht hz hmb hi
   show (if (4:Nat)=4 then JL vb B N (mOf 110) (ja.drop 15) tr zm 2 (jB a) else jB a (.exit 4) tr zm 2)
   rw[if_pos rfl]
   exact out he tr zm 2 ht hz
  ·intro tr zm ht hz hmb hi
   show (if (4:Nat)=4 then JL vb B N (mOf 110) (ja.drop 15) tr zm 2 (jB a) else jB a (.exit 4) tr zm 2)
   rw[if_pos rfl]
   exact out he tr zm 2 ht hz
 | succ k =>
  rw[eFs]
  simp only[zh,jM,bf jM]
  refine⟨fun hwp=>?_,fun hwp=>?_⟩
  ·intro tr zm ht hz hmb hi
   have hkid:isS n k (j4 j w)=true:=zhE H.n24 hs (by rw[hp]; exact hwp)
   have hidx:=H.inm k (j4 j w) hkid
   have hw4:w < 4:=by omega
   have hj4:j4 j w=4 * j + w:=rfl
   show JL vb B N (mOf 110) ((fl Xf).drop 2) tr zm 2 _
   refine JL.blk (id:=5) (X:=Zf) (l2:=(fl Xf).drop 3) (by kernel_rfl) hmb hi ?_
   refine JL.preS vk (atF (n:=n) (m:=m) (c:=c) ht hz) (xx (by kernel_rfl)) ?_
   refine JL.stp (n:=60) vk rfl 4 (rOf 110) [1,2,3,7,8,11,13,14,15,16,17] [0,1,2,3] hN (by kernel_rfl) (by kernel_rfl) (fun v=>v=nI a) (fun v tr zm nx h1 h2 h3 h4=>jQ v tr zm nx h1 h2 h3 h4) ?_
   show pG n m c y (Nat.succ k) j p w _ _
   rw[eG]
   simp only[ze,xe,xQ,ji]
   refine⟨by show k < _; omega,by show 4 * j < _; omega,by rw[hj4]; omega,⟨H.n24,by omega,by rw[hj4]; omega⟩,hidx,?_⟩
   intro tr zm ht hz hmb hi
   let z:=c (xO n k (j4 j w))
   have hzl:z.nd.wl:=H.wl _ hidx
   have hzb:z.nd.wb:=H.wb _ hidx
   have hzs:z.sl=0∨z.sl=1:=H.sl _ hidx
   have hz2:z.nd.lv≤2:=hk2 k w rfl hwp
   show JL vb B N (mOf 110) ((fl Zf).drop 4) tr zm 4 _
   refine zuu (a:=a) (B:=B) hN y z p w _ ?_ tr zm 4 (atG ht hz) hmb hi ?_
   ·exact fun v tr zm nx h1 h2 h3 h4=>jQ v tr zm nx h1 h2 h3 h4
   intro u tr zm nx hu hat hmb hi
   refine JL.preS vk hat (xx (by kernel_rfl)) ?_
   refine JL.all (n:=60) vk rfl (rOf 110) [1,2,3,7,8,11,13] [0,1] hN (by kernel_rfl) (by kernel_rfl) (fun v=>v=nI a) (fun v tr zm nx h1 h2 h3 h4=>jQ v tr zm nx h1 h2 h3 h4) ?_
   show pI n m c y z (Nat.succ k) j p w u _ _
   have next:zpF (y.nd.en w) z→∀ tr zm,[1,2,3,7,8,11,13].map (zj tr)=vF n (Nat.succ k) j p w→[0,1].map (kb zm)=zB2 n m c y→MB (am zm) 4→INV (mOf 110) tr→JL vb B N (mOf 110) ((fl Xf).drop 3) tr zm 4 (fun e tr zm nx=>match e with
     | .normal=>∃ s',p - s' < p - w∧(s'≤p∧wg n c (Nat.succ k) j y s')∧atS (mOf 110) (sF n m c y (Nat.succ k) j p s') tr zm
     | .exit i=>if i=4 then JL vb B N (mOf 110) (ja.drop 15) tr zm nx (jB a) else jB a (.exit i) tr zm nx
     | e=>jB a e tr zm nx):=by
    intro he tr zm ht hz hmb hi
    refine JL.preS vk (atF (n:=n) (m:=m) (c:=c) ht hz) (xx (by kernel_rfl)) ?_
    refine JL.all (n:=60) vk rfl (rOf 110) [1,2,3,7,8,11,13] [0,1] hN (by kernel_rfl) (by kernel_rfl) (fun v=>v=nI a) (fun v tr zm nx h1 h2 h3 h4=>jQ v tr zm nx h1 h2 h3 h4) ?_
    show pJ n m c y (Nat.succ k) j p w _ _
    rw[eJ]
    simp only[ze,xe]
    refine⟨by show w + 1 < _; omega,?_⟩
    intro tr zm ht hz hmb hi
    refine⟨w + 1,by omega,⟨by omega,?_⟩,atF ht hz⟩
    intro k' hk' w' hw'
    by_cases e:w'=w
    ·cases hk'; rw[e]; exact he
    ·exact hI k' hk' w' (by omega)
   have bad:¬ zpF (y.nd.en w) z→nI 9=nI a:=fun hb=>by rw[h9 fun he=>hb (he k rfl w hwp)]
   cases u with
   | false =>
    have hnu:¬ YU z:=fun h=>by have:=hu.2 h; cases this
    rw[eI0 hw4]
    simp only[zh,Bool.not_eq_true',Bool.not_eq_false']
    refine⟨fun hb=>bad fun he=>(by rw[he.2 hnu] at hb; cases hb),fun hb=>?_⟩
    intro tr zm ht hz hmb hi
    exact next ⟨fun h=>absurd h hnu,fun _=>hb⟩ tr zm ht hz hmb hi
   | true =>
    have hU:YU z:=hu.1 rfl
    rw[eI1 hw4 hzs]
    unfold fIx
    rw[zuq hzl]
    simp only[zh,Bool.not_eq_true',Bool.not_eq_false']
    refine⟨⟨zur hzl hzb,hz2⟩,fun hb=>bad fun he=>(by rw[he.1 hU] at hb; cases hb),fun hb=>?_⟩
    intro tr zm ht hz hmb hi
    exact next ⟨fun _=>hb,fun h=>absurd hU h⟩ tr zm ht hz hmb hi
  ·intro tr zm ht hz hmb hi
   show (if (4:Nat)=4 then JL vb B N (mOf 110) (ja.drop 15) tr zm 2 (jB a) else jB a (.exit 4) tr zm 2)
   rw[if_pos rfl]
   have:w=p:=by omega
   rw[this] at hI
   exact out hI tr zm 2 ht hz
theorem zuw (H:TrOk n m c) (hs:isS n l j=true) (hk2:∀ k w,l=Nat.succ k→w < xl n l j→(zbr n c k j w).nd.lv≤2) (hN:176≤N) (y:Un) (d:Bool) (hd:d=true↔∃ w,w < 4∧y.ch w=true)
  (h0:(y.di=true↔vv n c l j y (xl n l j))→wg n c l j y (xl n l j)→a=0) (h9:¬ ((y.di=true↔vv n c l j y (xl n l j))∧wg n c l j y (xl n l j))→a=9) (tr:KTm) (zm:KZ) (nx:Nat) (h:atS (mOf 110) (sC n m c y l j (xl n l j) 0 d) tr zm) (m1:MB (am zm) nx) (m2:INV (mOf 110) tr):JL vb B N (mOf 110) (ja.drop 10) tr zm nx (jB a):=by
 obtain⟨hl2,hj6⟩:=Wo H.n24 hs
 obtain⟨hp1,hp4⟩:=Wn H.n24 hs
 have zje:=fun hN hd0 hd9=>zuv (B:=B) (N:=N) (a:=a) H hs hk2 hN y hd0 hd9
 generalize hp:xl n l j=p at *
 refine JL.loopT vk (fun x:Nat×Bool=>sC n m c y l j p x.1 x.2) (fun x=>p - x.1) (fun x=>x.1≤p∧(x.2=true↔vv n c l j y x.1)) (id:=2) (b:=zhr) (l2:=ja.drop 11) (by kernel_rfl) (fun w=>by kernel_rfl) (0,d) ⟨by show 0≤p; omega,?_⟩ h m1 m2 ?_
 ·show d=true↔vv n c l j y 0
  rw[hd]
  exact⟨fun h=>.inl h,fun h=>h.elim id fun⟨_,_,w,hw,_⟩=>absurd hw (Nat.not_lt_zero w)⟩
 rintro⟨w,e⟩ ⟨hw,hI⟩
 have hw:w≤p:=hw
 have hI:e=true↔vv n c l j y w:=hI
 refine JL.all (n:=60) vk rfl (rOf 110) [1,2,3,7,8,9,11,12] [0,1] hN (by kernel_rfl) (by kernel_rfl) (fun v=>v=nI a) (fun v tr zm nx h1 h2 h3 h4=>jQ v tr zm nx h1 h2 h3 h4) ?_
 show pD n m c y l j p w e _ _
 have out:(e=true↔vv n c l j y p)→∀ tr zm,[1,2,3,7,8,9,11,12].map (zj tr)=vC n l j p w e→[0,1].map (kb zm)=zB2 n m c y→MB (am zm) 2→INV (mOf 110) tr→JL vb B N (mOf 110) (ja.drop 11) tr zm 2 (jB a):=by
  intro he tr zm ht hz hmb hi
  refine JL.preS vk (atC (n:=n) (m:=m) (c:=c) ht hz) (xx (by kernel_rfl)) ?_
  refine JL.stp (n:=60) vk rfl 3 (rOf 110) [1,2,3,7,8,11,13] [0,1] hN (by kernel_rfl) (by kernel_rfl) (fun v=>v=nI a) jQ ?_
  show pE n m c y l j p w e _ _
  rw[eE]
  simp only[zh,Bool.not_eq_true',Bool.not_eq_false',bf zhF,zhF]
  have hdi:(y.di=true↔vv n c l j y p)↔y.di=e:=by
   rw[←he]
   cases y.di<;>cases e<;>simp
  refine⟨fun hb=>(by rw[h9 fun hg=>hb (hdi.1 hg.1)]),fun hb=>?_⟩
  intro tr zm ht hz hmb hi
  show JL vb B N (mOf 110) ((ja.drop 11).drop 3) tr zm 2 (jB a)
  rw[List.drop_drop]
  exact zje hN (fun he2=>h0 (hdi.2 hb) he2) (fun he2=>h9 fun hg=>he2 hg.2) tr zm 2 (atF ht hz) hmb hi
 have ext:(e=true↔vv n c l j y p)→∀ tr zm,[1,2,3,7,8,9,11,12].map (zj tr)=vC n l j p w e→[0,1].map (kb zm)=zB2 n m c y→MB (am zm) 2→INV (mOf 110) tr→(if (2:Nat)=2 then JL vb B N (mOf 110) (ja.drop 11) tr zm 2 (jB a) else jB a (.exit 2) tr zm 2):=by
  intro he tr zm ht hz hmb hi
  rw[if_pos rfl]
  exact out he tr zm ht hz hmb hi
 cases l with
 | zero =>
  rw[eD0]
  have he:e=true↔vv n c 0 j y p:=by
   rw[hI]
   exact⟨fun h=>h.elim .inl fun⟨_,hk,_⟩=>(by cases hk),fun h=>h.elim .inl fun⟨_,hk,_⟩=>(by cases hk)⟩
  simp only[zh]
  exact⟨fun _=>ext he,fun _=>ext he⟩
 | succ k =>
  have stop:p≤w→(e=true↔vv n c (Nat.succ k) j y p):=fun h=>by
   have:w=p:=by omega
   rw[←this]; exact hI
  cases e with
  | true =>
   rw[eDt]
   simp only[zh,jM,bf jM,ze,xe]
   refine⟨fun hwp=>⟨by show w + 1 < _; omega,?_⟩,fun hwp=>ext (stop (by omega))⟩
   intro tr zm ht hz hmb hi
   refine⟨(w + 1,true),by show p - (w + 1) < p - w; omega,⟨by show w + 1≤p; omega,⟨fun _=>?_,fun _=>rfl⟩⟩,atC ht hz⟩
   rcases hI.1 rfl with h | ⟨k',hk',w',hw',hd'⟩
   ·exact .inl h
   ·exact .inr ⟨k',hk',w',by show w' < w + 1; omega,hd'⟩
  | false =>
   rw[eDf]
   have hno:∀ P:Prop,(P→vv n c (Nat.succ k) j y w)→¬ P:=fun P hP hq=>by have:=hI.2 (hP hq); cases this
   simp only[zh,jM,bf jM,ze,xe,xQ,ji]
   refine⟨fun hwp=>?_,fun hwp=>ext (stop (by omega))⟩
   have hkid:isS n k (j4 j w)=true:=zhE H.n24 hs (by rw[hp]; exact hwp)
   have hidx:=H.inm k (j4 j w) hkid
   have hj4:j4 j w=4 * j + w:=rfl
   refine⟨by show k < _; omega,by show 4 * j < _; omega,by rw[hj4]; omega,⟨H.n24,by omega,by rw[hj4]; omega⟩,hidx,by show w + 1 < _; omega,?_⟩
   intro tr zm ht hz hmb hi
   refine⟨(w + 1,(zbr n c k j w).di),by show p - (w + 1) < p - w; omega,⟨by show w + 1≤p; omega,⟨fun h=>.inr ⟨k,rfl,w,Nat.lt_succ_self w,h⟩,?_⟩⟩,atC ht hz⟩
   rintro (h | ⟨k',hk',w',hw',hd'⟩)
   ·exact absurd h (hno _ .inl)
   ·cases hk'
    have hw'':w' < w + 1:=hw'
    by_cases e:w'=w
    ·rw[←e]; exact hd'
    ·exact absurd ⟨k,rfl,w',by omega,hd'⟩ (hno _ .inr)
theorem zux (H:TrOk n m c) (hs:isS n l j=true) (hk2:∀ k w,l=Nat.succ k→w < xl n l j→(zbr n c k j w).nd.lv≤2) (hN:176≤N) (y:Un) (d:Bool) (hd:d=true↔∃ w,w < 4∧y.ch w=true)
  (h0:(y.di=true↔vv n c l j y (xl n l j))→wg n c l j y (xl n l j)→a=0) (h9:¬ ((y.di=true↔vv n c l j y (xl n l j))∧wg n c l j y (xl n l j))→a=9) (tr:KTm) (zm:KZ) (nx:Nat) (h:atS (mOf 110) (sB n m c y l j 4 d) tr zm):JL vb B N (mOf 110) (ja.drop 8) tr zm nx (jB a):=by
 refine JL.preS vk h (xx (by kernel_rfl)) ?_
 refine JL.stp (n:=60) vk rfl 2 (rOf 110) [1,2,3,7,8,9,11,12] [0,1] hN (by kernel_rfl) (by kernel_rfl) (fun v=>v=nI a) jQ ?_
 show pC n m c y l j d _ _
 rw[eC]
 refine⟨⟨H.n24,hs⟩,?_⟩
 intro tr zm ht hz hmb hi
 show JL vb B N (mOf 110) ((ja.drop 8).drop 2) tr zm 2 (jB a)
 rw[List.drop_drop]
 exact zuw H hs hk2 hN y d hd h0 h9 tr zm 2 (atC ht hz) hmb hi
theorem zuy (H:TrOk n m c) (hs:isS n l j=true) (hk2:∀ k w,l=Nat.succ k→w < xl n l j→(zbr n c k j w).nd.lv≤2) (hN:176≤N) (y:Un)
  (h0:zhD n c l j y→a=0) (h9:¬ zhD n c l j y→a=9) (tr:KTm) (zm:KZ) (nx:Nat) (h:atS (mOf 110) (sB n m c y l j 0 false) tr zm) (m1:MB (am zm) nx) (m2:INV (mOf 110) tr):JL vb B N (mOf 110) (ja.drop 7) tr zm nx (jB a):=by
 refine JL.loopT vk (fun x:Nat×Bool=>sB n m c y l j x.1 x.2) (fun x=>4 - x.1) (fun x=>x.1≤4∧(x.2=true↔∃ i,i < x.1∧y.ch i=true)∧chP l y x.1) (id:=0) (b:=zhq) (l2:=ja.drop 8) (by kernel_rfl) (fun w=>by kernel_rfl) (0,false) ⟨by show 0≤4; omega,⟨fun h=>(by cases h),fun⟨i,hi,_⟩=>absurd hi (Nat.not_lt_zero i)⟩,fun w hw=>absurd hw (Nat.not_lt_zero w)⟩ h m1 m2 ?_
 rintro⟨w,d⟩ ⟨hw,hI,hc⟩
 have hw:w≤4:=hw
 have hI:d=true↔∃ i,i < w∧y.ch i=true:=hI
 have hc:chP l y w:=hc
 refine JL.all (n:=60) vk rfl (rOf 110) [1,2,3,7,8,9,10] [0,1] hN (by kernel_rfl) (by kernel_rfl) (fun v=>v=nI a) (fun v tr zm nx h1 h2 h3 h4=>jQ v tr zm nx h1 h2 h3 h4) ?_
 show pB n m c y l j w d _ _
 by_cases h4:w < 4
 ·rw[eB h4]
  have next:(y.ch w=true→l=0∧(y.nd.rc w).st≠0)→∀ tr zm,[1,2,3,7,8,9,10].map (zj tr)=vB n l j (Nat.succ w) (@Bool.rec (fun _=>Bool) (y.ch w) true d)→[0,1].map (kb zm)=zB2 n m c y→MB (am zm) 2→INV (mOf 110) tr→∃ s':Nat×Bool,4 - s'.1 < 4 - w∧(s'.1≤4∧(s'.2=true↔∃ i,i < s'.1∧y.ch i=true)∧chP l y s'.1)∧atS (mOf 110) (sB n m c y l j s'.1 s'.2) tr zm:=by
   intro hg tr zm ht hz hmb hi
   refine⟨(Nat.succ w,@Bool.rec (fun _=>Bool) (y.ch w) true d),by show 4 - (w + 1) < 4 - w; omega,⟨by show w + 1≤4; omega,?_,?_⟩,atB ht hz⟩
   ·cases d with
    | true =>
     refine⟨fun _=>?_,fun _=>rfl⟩
     obtain⟨i,hi,h⟩:=hI.1 rfl
     exact⟨i,by show i < w + 1; omega,h⟩
    | false =>
     refine⟨fun h=>⟨w,Nat.lt_succ_self w,h⟩,fun⟨i,hi,h⟩=>?_⟩
     have hi':i < w + 1:=hi
     by_cases e:i=w
     ·rw[e] at h; exact h
     ·have:=hI.2 ⟨i,by omega,h⟩; cases this
   ·intro i hi h
    have hi':i < w + 1:=hi
    by_cases e:i=w
    ·rw[e] at h ⊢; exact hg h
    ·exact hc i (by omega) h
  have bad:(y.ch w=true∧¬ (l=0∧(y.nd.rc w).st≠0))→nI 9=nI a:=fun hb=>by rw[h9 fun hg=>hb.2 (hg.1 w h4 hb.1)]
  unfold fBn
  simp only[zh]
  refine⟨fun hb=>?_,fun hb=>next fun h=>(by rw[h] at hb; cases hb)⟩
  cases l with
  | zero =>
   show alt _ _ _
   simp only[zh,wJ,bf wJ]
   exact⟨fun hz=>bad ⟨hb,fun q=>q.2 hz⟩,fun hz=>next fun _=>⟨rfl,hz⟩⟩
  | succ k=>exact bad ⟨hb,fun q=>by cases q.1⟩
 ·obtain rfl:w=4:=by omega
  rw[eB4]
  intro tr zm ht hz hmb hi
  show (if (0:Nat)=0 then JL vb B N (mOf 110) (ja.drop 8) tr zm 2 (jB a) else jB a (.exit 0) tr zm 2)
  rw[if_pos rfl]
  exact zux H hs hk2 hN y d hI (fun q1 q2=>h0 ⟨hc,q1,q2⟩) (fun q=>h9 fun hg=>q hg.2) tr zm 2 (atB ht hz)
end
#print axioms zuy
end
end Go.K
set_option maxRecDepth 100000
namespace Go.K
open Go.Ab Go.RowKit Go.Y Go.Proofs
noncomputable section
attribute [local instance 10000] gO
noncomputable def hS (n:Nat):Nat:=@Bool.rec (fun _=>Nat) (@Bool.rec (fun _=>Nat) 2 1 (Nat.beq (xv n 1) 1)) 0 (Nat.beq (xv n 0) 1)
noncomputable def wK (n:Nat):Nat:=Nat.succ (xO n (hS n) 0)
end
end Go.K
set_option maxRecDepth 100000
namespace Go.K
open Go.Ab Go.RowKit Go.Y Go.Proofs
noncomputable section
attribute [local instance 10000] gO
noncomputable def Wp (m:Nat) (c:Nat→Un):Prop:=∀ i,i < m→(c i).sl=0∨(c i).sl=1
noncomputable def VK (l' j' l j:Nat):Prop:=l' < l∨(l'=l∧j' < j)
structure IsChk (n m:Nat) (c:Nat→Un) (a:Nat):Prop where
 bad:¬ Wp m c→a=1
 fine:Wp m c→(∀ l j,isS n l j=true→zdo n c l j=0)→a=0
 fst:Wp m c→∀ l j,isS n l j=true→(∀ l' j',isS n l' j'=true→VK l' j' l j→zdo n c l' j'=0)→zdo n c l j≠0→a=zdo n c l j
structure TrOk0 (n m:Nat) (c:Nat→Un):Prop where
 n24:vV n=true
 tot:m=wK n
 wl:∀ i,i < m→(c i).nd.wl
 wb:∀ i,i < m→(c i).nd.wb
theorem zpJ {n l j:Nat}(hn:vV n=true) (h:isS n l j=true):xO n l j < wK n:=by
 obtain⟨h1,h2⟩:=Wo hn h
 obtain⟨n1,n2⟩:=wi hn
 obtain⟨m,rfl⟩:∃ m,n=Nat.succ m:=⟨n - 1,by omega⟩
 have hd:∀ m:Fin 24,∀ l:Fin 3,∀ j:Fin 6,isS (Nat.succ m.1) l.1 j.1=true→xO (Nat.succ m.1) l.1 j.1 < wK (Nat.succ m.1):=by decide
 exact hd ⟨m,by omega⟩ ⟨l,by omega⟩ ⟨j,h2⟩ h
theorem TrOk0.ok {n m:Nat}{c:Nat→Un}(H:TrOk0 n m c) (hs:Wp m c):TrOk n m c:=⟨H.n24,fun l j h=>by rw[H.tot]; exact zpJ H.n24 h,H.wl,H.wb,hs⟩
attribute [local irreducible] kpre cOf mOf rOf JL zp xO hS wK xv
section
variable {n m:Nat}{c:Nat→Un}{B N a:Nat}
theorem zdu {p q:Prop}(i:Nat) [Decidable (i=i)] (h:p):if i=i then p else q:=by rw[if_pos rfl]; exact h
end
end
end Go.K
set_option maxRecDepth 100000
namespace Go.K
open Go.Ab Go.RowKit Go.Y Go.Proofs
noncomputable section
attribute [local instance 10000] gO
attribute [local irreducible] zo zp
end
end Go.K
set_option maxRecDepth 100000
namespace Go.K
open Go.Ab Go.RowKit Go.Y Go.Proofs
noncomputable section
attribute [local instance 10000] gO
inductive DS where
 | F
 | T
 | V (i:Nat)
noncomputable def DS.val (y:Un) (s:DS):Bool:=@DS.rec (fun _=>Bool) false true (fun i=>y.ch i) s
noncomputable def Un.nf (z:Un):Un:=⟨z.nd.nf,z.sl,z.di,c4 (z.ch 0) (z.ch 1) (z.ch 2) (z.ch 3)⟩
end
end Go.K
