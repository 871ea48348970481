/- CommitsErrors: the tree that is drawn, for each number of blocks: what its run comes to. No condition. -/
import Derived.Test.YtkllahedaiddgaaGreatDoorPV0
import Derived.Test.YtkllahedaiddgaaGreatDoorUG3
set_option linter.unusedSimpArgs false
set_option linter.unusedVariables false
set_option maxRecDepth 100000
namespace Go.K
open Go.Ab Go.RowKit Go.Y Go.Proofs
noncomputable section
attribute [local instance 10000] gO
noncomputable def z32:List Nat:=[0,0,0,0,0,0,0,0,0,0,0,0,0,0,0,0,0,0,0,0,0,0,0,0,0,0,0,0,0,0,0,0]
noncomputable def zRc:Rc:=⟨0,0,0,z32⟩
noncomputable def zEn:En:=⟨0,z32⟩
noncomputable def qc (n:Nat) (rc:Nat→Rc) (now:Nat→Nat):Nat→Nat→Nd
 | 0,j=>⟨0,j,fun i=>if i < zw n 0 j then rc (Nat.add 0 (j4 j i)) else zRc,fun _=>zEn⟩
 | l + 1,j=>⟨l + 1,j,fun _=>zRc,fun w=>if w < zw n (l + 1) j∧emS n rc l (j4 j w)=false then ⟨Nat.mod (Nat.add (now (Nat.add 0 (zi n l (j4 j w)))) 1) 256,(qc n rc now l (j4 j w)).dg⟩ else zEn⟩
theorem zD9:∀ i,i < 32→nN z32 i=0:=by
 have h:∀ i:Fin 32,nN z32 i.1=0:=by decide
 exact fun i hi=>h ⟨i,hi⟩
theorem zep:Imp (KV.ar 32 (kU8 0) .te).v (kBy 32 (nN z32)).v:=yA (n:=32) (f:=fun i=>kU8 (nN z32 i)) (d:=kU8 0) fun i hi=>by
 rw[zD9 i hi]; rfl
theorem Vy:Imp rcZ.v zRc.k.v:=Imp.cons (Imp.refl _) (Imp.cons (Imp.refl _) (Imp.cons zep (Imp.refl _)))
theorem zeq:Imp enZ.v zEn.k.v:=Imp.cons (Imp.refl _) (Imp.cons zep (Imp.refl _))
theorem zer {d T:KV}{f:Nat→KV}(h:∀ i,i < 4→Imp (T.atv (enc i) d.v) (f i).v):Imp (KV.ar 4 d T).v (kAr 4 d f).v :=
 Imp.arr fun i hi=>Eq.mpr (congrArg (Imp (T.atv (enc i) d.v)) (wu (f:=f) (z:=d.v) hi)) (h i hi)
theorem zio {l j:Nat}{T U:KV}{x:Nd}(hl:x.lv=l) (hj:x.ix=j) (hT:∀ i,i < 4→Imp (T.atv (enc i) rcZ.v) (x.rc i).k.v) (hU:∀ i,i < 4→Imp (U.atv (enc i) enZ.v) (x.en i).k.v):Imp (z0N j l T U).v x.k.v:=by
 subst hl; subst hj
 exact Imp.cons (Imp.refl _) (Imp.cons (Imp.refl _) (Imp.cons (zer hT) (Imp.cons (zer hU) (Imp.refl _))))
theorem zbh (x:Nd):xl x.k.v=true:=by kernel_rfl
theorem zcl {n j w:Nat}(hn:zT n=true) (h:isS n 0 j=true) (hw:w < zw n 0 j):Nat.add (Nat.mul 4 j) w < n:=by
 obtain⟨h1,h2⟩:=xD hn h
 obtain⟨h3,h4⟩:=w9 hn h
 obtain⟨n1,n2⟩:=xc hn
 obtain⟨m,rfl⟩:∃ m,n=Nat.succ m:=⟨n - 1,by omega⟩
 have hd:∀ m:Fin 24,∀ j:Fin 6,∀ w:Fin 4,isS (Nat.succ m.1) 0 j.1=true→w.1 < zw (Nat.succ m.1) 0 j.1→Nat.add (Nat.mul 4 j.1) w.1 < Nat.succ m.1:=by decide
 exact hd ⟨m,by omega⟩ ⟨j,h2⟩ ⟨w,by omega⟩ h hw
theorem ziq {rc:Nat→Rc}{j i:Nat}{z:V}:∀ w,(tr0 rc j w).atv (enc i) z=if i < w then (rc (Nat.add 0 (j4 j i))).k.v else z
 | 0=>by rw[if_neg (by omega)]; rfl
 | w + 1=>by
  show (x6 (rc (Nat.add 0 (Nat.add (Nat.mul 4 j) w))).k (enc w) (tr0 rc j w)).atv (enc i) z=_
  rw[jm]
  by_cases e:i=w
  ·rw[if_pos e,if_pos (by omega),e]; rfl
  ·rw[if_neg e,ziq w]
   by_cases q:i < w
   ·rw[if_pos q,if_pos (by omega)]
   ·rw[if_neg q,if_neg (by omega)]
noncomputable def Qy (L:Nat) (x:P6):Prop:=zT x.1=true∧x.2.1=zq x.1∧(∀ i,i < x.1→(x.2.2.1 i).tg.length=32∧(x.2.2.1 i).wb)∧(∀ i,i < x.2.1→x.2.2.2.1 i≤1)∧x.2.2.2.2.1 < L∧isS x.1 x.2.2.2.2.1 x.2.2.2.2.2=true
noncomputable def nd6 (x:P6):Nd:=qc x.1 x.2.2.1 x.2.2.2.1 x.2.2.2.2.1 x.2.2.2.2.2
theorem zir:∀ b∈z32,b < 256:=by decide
theorem Yx:zRc.wb:=⟨by decide,by decide,by decide,zir⟩
theorem zis:zEn.wb:=⟨by decide,zir⟩
theorem Yy {n:Nat}{rc:Nat→Rc}{now:Nat→Nat}(hn:zT n=true) (hr:∀ i,i < n→(rc i).tg.length=32∧(rc i).wb):∀ l j,isS n l j=true→(qc n rc now l j).wl∧(qc n rc now l j).wb∧(qc n rc now l j).lv=l∧(qc n rc now l j).ix=j
 | 0,j,h=>by
  have hj:=(xD hn h).2
  refine⟨⟨fun i hi=>?_,fun i hi=>rfl⟩,⟨by show 0 < 256; omega,by show j < _; omega,fun i hi=>?_,fun i hi=>zis⟩,rfl,rfl⟩
  ·show (if i < zw n 0 j then rc (Nat.add 0 (j4 j i)) else zRc).tg.length=32
   by_cases q:i < zw n 0 j
   ·rw[if_pos q,qv]; exact (hr _ (zcl hn h q)).1
   ·rw[if_neg q]; rfl
  ·show (if i < zw n 0 j then rc (Nat.add 0 (j4 j i)) else zRc).wb
   by_cases q:i < zw n 0 j
   ·rw[if_pos q,qv]; exact (hr _ (zcl hn h q)).2
   ·rw[if_neg q]; exact Yx
 | l + 1,j,h=>by
  have hj:=xD hn h
  refine⟨⟨fun i hi=>rfl,fun i hi=>?_⟩,⟨by show l + 1 < 256; omega,by show j < _; omega,fun i hi=>Yx,fun i hi=>?_⟩,rfl,rfl⟩
  ·show (if i < zw n (l + 1) j∧emS n rc l (j4 j i)=false then (⟨_,_⟩:En) else zEn).dg.length=32
   split
   ·exact zxy _
   ·rfl
  ·show (if i < zw n (l + 1) j∧emS n rc l (j4 j i)=false then (⟨_,_⟩:En) else zEn).wb
   split
   ·exact⟨Nat.mod_lt _ (by omega),zCD _⟩
   ·exact zis
theorem zbi {n j w p:Nat}{rc:Nat→Rc}{K:KV→Prop}{x:Prop}(hn:zT n=true) (h:isS n 0 j=true) (hp:zw n 0 j=p) (hw:w≤p) (hq:w=p→K (z0N j 0 (tr0 rc j w) .te)) (hx:w < p→x):st0 n rc j K w x:=by
 refine⟨⟨hn,h⟩,zo.2 ⟨fun q=>?_,fun q=>hq ?_⟩⟩
 ·rw[xo,hp] at q
  exact ze.2 ⟨vm.2 (zcl hn h (by omega)),hx q⟩
 ·rw[bf xo,hp] at q
  omega
theorem zzQ {n j:Nat}{rc:Nat→Rc}{now:Nat→Nat}(hn:zT n=true) (h:isS n 0 j=true):zbq n rc j fun r=>Imp r.v (qc n rc now 0 j).k.v:=by
 obtain⟨h3,h4⟩:=w9 hn h
 have fin:∀ w,w=zw n 0 j→Imp (z0N j 0 (tr0 rc j w) .te).v (qc n rc now 0 j).k.v:=fun w hw=>zio rfl rfl (fun i hi=>by
  rw[ziq]
  show Imp _ (if i < zw n 0 j then rc (Nat.add 0 (j4 j i)) else zRc).k.v
  rw[hw]
  by_cases q:i < zw n 0 j
  ·rw[if_pos q,if_pos q]; exact Imp.refl _
  ·rw[if_neg q,if_neg q]; exact Vy) fun i hi=>zeq
 exact zbi hn h rfl (by omega) (fin 0) fun q0=>zbi hn h rfl q0 (fin 1) fun q1=>zbi hn h rfl q1 (fin 2) fun q2=>zbi hn h rfl q2 (fin 3) fun q3=>zbi hn h rfl q3 (fin 4) fun q4=>absurd q4 (by omega)
noncomputable def UI (x:Nd) (w:Nat) (U:KV):Prop:=∀ i,i < 4→Imp (U.atv (enc i) enZ.v) (if i < w then x.en i else zEn).k.v
theorem zFV {n m L k j p:Nat}{rc:Nat→Rc}{now:Nat→Nat}(hx:Qy (L + 1) (n,m,rc,now,k + 1,j)) (hp:zw n (k + 1) j=p):∀ r w U,r + w=p→UI (qc n rc now (k + 1) j) w U→zbt nd6 (Qy L) n m rc now k j p (fun r=>Imp r.v (qc n rc now (k + 1) j).k.v) r w U:=by
 obtain⟨hn,hm,hr,hs,hl,hS⟩:=hx
 replace hn:zT n=true:=hn
 replace hm:m=zq n:=hm
 replace hr:∀ i,i < n→(rc i).tg.length=32∧(rc i).wb:=hr
 replace hs:∀ i,i < m→now i≤1:=hs
 replace hl:k + 1 < L + 1:=hl
 replace hS:isS n (k + 1) j=true:=hS
 obtain⟨n1,n2⟩:=xc hn
 have hkj:=xD hn hS
 obtain⟨p1,p4⟩:=w9 hn hS
 intro r
 induction r with
 | zero =>
  intro w U hw hU
  obtain rfl:w=p:=by omega
  refine⟨⟨⟨hn,hS⟩,hp⟩,zio rfl rfl (fun i hi=>Vy) fun i hi=>?_⟩
  have h:=hU i hi
  by_cases q:i < w
  ·rw[if_pos q] at h; exact h
  ·rw[if_neg q] at h
   have:(qc n rc now (k + 1) j).en i=zEn:=by
    show (if i < zw n (k + 1) j∧emS n rc k (j4 j i)=false then (⟨_,_⟩:En) else zEn)=zEn
    rw[if_neg fun h=>q (by omega)]
   rw[this]; exact h
 | succ r ih =>
  intro w U hw hU
  have hwp:w < zw n (k + 1) j:=by omega
  have hk:=JO hn hS hwp
  have hc:=xD hn hk
  refine⟨⟨⟨hn,hS⟩,hp⟩,(n,rc,k,j4 j w),rfl,⟨n2,by show k≤2; omega⟩,?_⟩
  show alt (!(emS n rc k (j4 j w))) _ _
  refine zo.2 ⟨fun he=>?_,fun he=>ih (w + 1) U (by omega) fun i hi=>?_⟩
  ·replace he:emS n rc k (j4 j w)=false:=by simpa using he
   have hnum:=YN hn hk
   have hno:=hs (zi n k (j4 j w)) (by omega)
   obtain⟨wl,wb,lv,ix⟩:=Yy hn hr (now:=now) k (j4 j w) hk
   refine⟨⟨hn,by omega,by show j4 j w < _; omega⟩,ze.2 ⟨vm.2 (by show zi n k (j4 j w) < m; omega),ze.2 ⟨xB.2 (by
    show now (Nat.add 0 (zi n k (j4 j w))) + 1 < _
    rw[qv]; omega),(n,m,rc,now,k,j4 j w),rfl,⟨hn,hm,hr,hs,by show k < L; omega,hk⟩,⟨zs2 wl wb,?_⟩,?_⟩⟩⟩
   ·show (qc n rc now k (j4 j w)).lv≤2
    rw[lv]; omega
   ·refine ih (w + 1) _ (by omega) fun i hi=>?_
    rw[jm]
    by_cases e:i=w
    ·rw[if_pos e,if_pos (by omega),e]
     have hen:(qc n rc now (k + 1) j).en w=⟨Nat.mod (Nat.add (now (Nat.add 0 (zi n k (j4 j w)))) 1) 256,(qc n rc now k (j4 j w)).dg⟩:=by
      show (if w < zw n (k + 1) j∧emS n rc k (j4 j w)=false then (⟨_,_⟩:En) else zEn)=_
      rw[if_pos ⟨hwp,he⟩]
     rw[hen]
     show Imp (KV.cons _ (.cons (kBy 32 (nN (qc n rc now k (j4 j w)).nf.dg)) .nl)).v _
     rw[zeF wl]
     exact Imp.refl _
    ·rw[if_neg e]
     have h:=hU i hi
     by_cases q:i < w
     ·rw[if_pos q] at h; rw[if_pos (by omega)]; exact h
     ·rw[if_neg q] at h; rw[if_neg (by omega)]; exact h
  ·replace he:emS n rc k (j4 j w)=true:=by simpa using he
   have h:=hU i hi
   by_cases q:i < w
   ·rw[if_pos q] at h; rw[if_pos (by omega)]; exact h
   ·rw[if_neg q] at h
    by_cases e:i=w
    ·rw[if_pos (by omega),e]
     have hen:(qc n rc now (k + 1) j).en w=zEn:=by
      show (if w < zw n (k + 1) j∧emS n rc k (j4 j w)=false then (⟨_,_⟩:En) else zEn)=zEn
      rw[if_neg fun h=>by rw[he] at h; cases h.2]
     rw[hen]; rw[e] at h; exact h
    ·rw[if_neg (by omega)]; exact h
noncomputable def Zq (L:Nat):zg:=sNo nd6 (Qy L)
theorem zCU:KCS Tryz.prog 44 (Zq 0):=⟨⟨Tryz.f44,Tryz.func44,by kernel_rfl,by kernel_rfl⟩,fun l K h=>by
 obtain⟨x,_,h,_⟩:=h
 exact absurd h.2.2.2.2.1 (Nat.not_lt_zero _)⟩
theorem zxY {n k j:Nat}(hn:zT n=true) (h:isS n (k + 1) j=true):(k=0∧j=0∧(zw n 1 0=2∨zw n 1 0=3∨zw n 1 0=4))∨(k=0∧j=1∧(zw n 1 1=1∨zw n 1 1=2))∨(k=1∧j=0∧zw n 2 0=2):=by
 obtain⟨h1,h2⟩:=xD hn h
 obtain⟨n1,n2⟩:=xc hn
 obtain⟨m,rfl⟩:∃ m,n=Nat.succ m:=⟨n - 1,by omega⟩
 have ha:∀ m:Fin 24,isS (Nat.succ m.1) 1 0=true→zw (Nat.succ m.1) 1 0=2∨zw (Nat.succ m.1) 1 0=3∨zw (Nat.succ m.1) 1 0=4:=by decide
 have hb:∀ m:Fin 24,isS (Nat.succ m.1) 1 1=true→zw (Nat.succ m.1) 1 1=1∨zw (Nat.succ m.1) 1 1=2:=by decide
 have hc:∀ m:Fin 24,isS (Nat.succ m.1) 2 0=true→zw (Nat.succ m.1) 2 0=2:=by decide
 have hj1:∀ m:Fin 24,∀ j:Fin 6,isS (Nat.succ m.1) 1 j.1=true→j.1 < 2:=by decide
 have hj2:∀ m:Fin 24,∀ j:Fin 6,isS (Nat.succ m.1) 2 j.1=true→j.1 < 1:=by decide
 have hk:k=0∨k=1:=by omega
 have hm:m < 24:=by omega
 rcases hk with rfl | rfl
 ·have:=hj1 ⟨m,hm⟩ ⟨j,h2⟩ h
  have hj:j=0∨j=1:=by have:j < 2:=this; omega
  rcases hj with rfl | rfl
  ·exact .inl ⟨rfl,rfl,ha ⟨m,hm⟩ h⟩
  ·exact .inr (.inl ⟨rfl,rfl,hb ⟨m,hm⟩ h⟩)
 ·have:=hj2 ⟨m,hm⟩ ⟨j,h2⟩ h
  obtain rfl:j=0:=by have:j < 1:=this; omega
  exact .inr (.inr ⟨rfl,rfl,hc ⟨m,hm⟩ h⟩)
theorem zxZ {x:Nd}:UI x 0 .te:=fun i hi=>by rw[if_neg (by omega)]; exact zeq
theorem znL {L:Nat}(ih:KCS Tryz.prog 44 (Zq L)):KCS Tryz.prog 44 (Zq (L + 1)):=ZV ⟨Tryz.f44,Tryz.func44,by kernel_rfl,by kernel_rfl⟩ fun l K hs=>by
 obtain⟨⟨n,m,rc,now,l,j⟩,rfl,hx,hk⟩:=hs
 have hn:zT n=true:=hx.1
 have hS:isS n l j=true:=hx.2.2.2.2.2
 have okP:∀ p,KOk (zfZ p (Zq L)):=fun p=>xA.tab ⟨zFt p,zCN,zxX,zlN,ih,trivial⟩
 cases l with
 | zero =>
  have hj:=(xD hn hS).2
  have hf:zbq n rc j fun r=>Imp r.v (qc n rc now 0 j).k.v:=zzQ hn hS
  refine⟨E44 (Zq L),xA.tab ⟨zwF,zCN,zxX,zlN,ih,trivial⟩,rfl,200,fun r=>Imp r.v (qc n rc now 0 j).k.v,_,hk,zbh _,fun r h=>h,?_⟩
  match j,hj with
  | 0,_=>exact Eq.mpr (zwM (Zq L) n m rc now _) hf
  | 1,_=>exact Eq.mpr (zwN (Zq L) n m rc now _) hf
  | 2,_=>exact Eq.mpr (zwO (Zq L) n m rc now _) hf
  | 3,_=>exact Eq.mpr (zwP (Zq L) n m rc now _) hf
  | 4,_=>exact Eq.mpr (zwQ (Zq L) n m rc now _) hf
  | 5,_=>exact Eq.mpr (zwR (Zq L) n m rc now _) hf
 | succ k =>
  have go:∀ p,zw n (k + 1) j=p→zbt nd6 (Qy L) n m rc now k j p (fun r=>Imp r.v (qc n rc now (k + 1) j).k.v) p 0 .te:=fun p hp=>zFV hx hp p 0 .te rfl zxZ
  have fin:∀ p,zn (zfZ p (Zq L)) (zu (zfZ p (Zq L)) 200) 0 44 [jN n rc,qU m now,nI (k + 1),nI j] .e 0 0 (fun r _ _ _=>Imp r.v (qc n rc now (k + 1) j).k.v)→_:=fun p h=>(⟨zfZ p (Zq L),okP p,rfl,200,fun r=>Imp r.v (qc n rc now (k + 1) j).k.v,_,hk,zbh _,fun r h=>h,h⟩:∃ E:KEnv,KOk E∧E.P=Tryz.prog∧∃(n':Nat) (Q:KV→Prop) (w:KV),K w∧xl w.v=true∧(∀ r:KV,Q r→Imp r.v w.v)∧zn E (zu E n') 0 44 (zxd (n,m,rc,now,k + 1,j)) .e 0 0 fun r _ _ _=>Q r)
  rcases zxY hn hS with ⟨rfl,rfl,hp | hp | hp⟩ | ⟨rfl,rfl,hp | hp⟩ | ⟨rfl,rfl,hp⟩
  ·exact fin 2 (Eq.mpr (zpB nd6 (Qy L) n m rc now _) (go 2 hp))
  ·exact fin 3 (Eq.mpr (zpC nd6 (Qy L) n m rc now _) (go 3 hp))
  ·exact fin 4 (Eq.mpr (zpE nd6 (Qy L) n m rc now _) (go 4 hp))
  ·exact fin 1 (Eq.mpr (zpD nd6 (Qy L) n m rc now _) (go 1 hp))
  ·exact fin 2 (Eq.mpr (zpU nd6 (Qy L) n m rc now _) (go 2 hp))
  ·exact fin 2 (Eq.mpr (zpV nd6 (Qy L) n m rc now _) (go 2 hp))
theorem zCV:KCS Tryz.prog 44 (Zq 3):=znL (znL (znL zCU))
noncomputable def p36 (n m:Nat) (u:Ud) (b:Nat) (K:KV→Prop):Prop:=zn EO0 (zu EO0 60) 0 36 [uK n m u,nI b] .e 0 0 fun r _ _ _=>K r
noncomputable def Vg (u:Ud) (b:Nat):Nat:=(u.rc (Nat.add 0 b)).st
noncomputable def f36 (n m:Nat) (u:Ud) (b:Nat) (K:KV→Prop):Prop :=
 cnd (ixB (.ofNat b) n) (cnd (b63 (Vg u b)) (alt (eqN (Vg u b) 0) (K (nI 0)) (cnd (ixB (.ofNat b) n) (alt (u.ch (Nat.add 0 b)) (alt (Nat.ble 1 (Vg u b)) (cnd (b63 (Nat.sub (Vg u b) 1)) (K (nI (Nat.sub (Vg u b) 1)))) (K (.int .i64 (Vc .i64 (.ofNat (Vg u b)) (.ofNat 1))))) (alt (Nat.ble (Vg u b) 2) (cnd (b63 (Nat.sub 2 (Vg u b))) (K (nI (Nat.sub 2 (Vg u b))))) (K (.int .i64 (Vc .i64 (.ofNat 2) (.ofNat (Vg u b))))))))))
theorem e36 (n m:Nat) (u:Ud) (b:Nat) (K:KV→Prop):p36 n m u b K=f36 n m u b K:=by kernel_rfl
noncomputable def tgS (u:Ud) (b:Nat):Nat:=if (u.rc b).st=0 then 0 else if u.ch b=true then (u.rc b).st - 1 else 2 - (u.rc b).st
abbrev P4t:=Nat×Nat×Ud×Nat
noncomputable def zth (x:P4t):List KV:=[uK x.1 x.2.1 x.2.2.1,nI x.2.2.2]
noncomputable def zB5:zg:=v3 zth (fun x=>x.2.2.2 < x.1∧(x.2.2.1.rc x.2.2.2).st≤2) fun x=>nI (tgS x.2.2.1 x.2.2.2)
theorem zB6 {n m:Nat}{u:Ud}{b:Nat}(h1:b < n) (h2:(u.rc b).st≤2):f36 n m u b fun r=>r=nI (tgS u b):=by
 have e:Vg u b=(u.rc b).st:=by unfold Vg; rw[qv]
 unfold f36
 rw[e]
 simp only[ze,zo,vm,xB,jI,bf jI,qv]
 refine⟨h1,by omega,fun h0=>?_,fun h0=>⟨h1,fun hc=>⟨fun q=>⟨?_,?_⟩,fun q=>?_⟩,fun hc=>⟨fun q=>⟨?_,?_⟩,fun q=>?_⟩⟩⟩
 ·unfold tgS; rw[if_pos h0]
 ·show (u.rc b).st - 1 < _; omega
 ·unfold tgS; rw[if_neg h0,if_pos hc]; rfl
 ·have:Nat.ble 1 (u.rc b).st=true:=Nat.ble_eq_true_of_le (by omega)
  rw[this] at q; cases q
 ·show 2 - (u.rc b).st < _; omega
 ·unfold tgS; rw[if_neg h0,if_neg (by rw[hc]; exact Bool.false_ne_true)]; rfl
 ·have:Nat.ble (u.rc b).st 2=true:=Nat.ble_eq_true_of_le h2
  rw[this] at q; cases q
theorem zFk:KCS Tryz.prog 36 zB5:=ZV ⟨Tryz.f36,Tryz.func36,by kernel_rfl,by kernel_rfl⟩ fun l K hs=>by
 obtain⟨⟨n,m,u,b⟩,rfl,⟨h1,h2⟩,hk⟩:=hs
 exact⟨EO0,xA,rfl,60,fun r=>r=nI (tgS u b),_,hk,rfl,fun r hr=>by rw[hr]; exact Imp.refl _,Eq.mpr (e36 n m u b _) (zB6 h1 h2)⟩
noncomputable def EU:KEnv:=EO0.tab [(26,zAs),(36,zB5)]
theorem okU:KOk EU:=xA.tab ⟨zpO,zFk,trivial⟩
noncomputable def Vh (u:Ud) (b a c:Nat) (tg:List Nat):Rc:=⟨Nat.mod (Nat.add (tgS u b) 1) 256,a,c,tg⟩
noncomputable def znQ (n m:Nat) (u:Ud) (b a c:Nat) (tg:List Nat):List KV:=[uK n m u,nI b,.cons (yH a) (.cons (YA c) .nl),kBy 32 (nN tg)]
noncomputable def zCX (n:Nat) (u:Ud) (b:Nat) (x:Rc):KBlk:=⟨.row 96,.arr n xv,.fa n fun j=>ifN j b x.k (u.rc j).k⟩
noncomputable def zCY (n:Nat) (u:Ud) (b:Nat):KBlk:=⟨.box 4,.arr n .sc,.fa n fun j=>ifN j (Nat.add 0 b) (.bool true) (Jg 0 (Nat.add 0 (min n n)) j (.bool (u.ch (Nat.add 0 (Nat.sub j 0)))) (.bool false))⟩
noncomputable def zCZ (m:Nat) (u:Ud):KBlk:=⟨.row 3,.arr m .sc,.fa m fun j=>nI (u.sl j)⟩
noncomputable def v38 (n m:Nat):KV:=.cons (.row 5 xv n) (.cons (.sl 6 [] .sc 0 n (some n)) (.cons (.row 7 .sc m) .nl))
noncomputable def r38 (n m:Nat) (u:Ud) (b a c:Nat) (tg:List Nat) (Q:QT) (R:RT):Prop:=pc EU 38 (fl (cOf 38)) [] [5,6,7] (vy (mOf 38) 0 (znQ n m u b a c tg),[],0) Q R
noncomputable def f38 (n m:Nat) (u:Ud) (b a c:Nat) (tg:List Nat) (R:RT):Prop :=
 cnd (apB 0 n) (cnd (mkB (.ofNat n) (.ofNat n)) (cnd (apB 0 m) (∃ x:P4t,[uK n m u,nI b]=zth x∧(x.2.2.2 < x.1∧(x.2.2.1.rc x.2.2.2).st≤2)∧cnd (b63 (Nat.add (tgS x.2.2.1 x.2.2.2) 1)) (cnd (ixB (.ofNat b) n) (cnd (ixB (.ofNat b) n) (R (v38 n m) [some (zCX n u b (Vh x.2.2.1 x.2.2.2 a c tg)),some (zCY n u b),some (zCZ m u)] 9))))))
theorem e38 (n m:Nat) (u:Ud) (b a c:Nat) (tg:List Nat) (Q:QT) (R:RT):r38 n m u b a c tg Q R=f38 n m u b a c tg R:=by kernel_rfl
attribute [local irreducible] kpre cOf mOf rOf JL zu zi hS zq zQ jP
theorem zEu:Tryz.f38.ntmps=37:=by kernel_rfl
theorem zEv:Tryz.f38.results.toList=rOf 38:=by kernel_rfl
noncomputable def zbl (u:Ud) (b:Nat) (x:Rc):Ud:=⟨fun i=>if i=b then x else u.rc i,fun i=>if i=b then true else u.ch i,u.sl⟩
theorem w8 (x:Rc):xl x.k.v=true:=by kernel_rfl
theorem Z1 {br:Bool}{zm:KZ}{x y:KV}(e:x=y) (hn:xl y.v=true):FzE br zm x.v y.v:=by subst e; exact FzE.noref hn
theorem j38 {n m b a c:Nat}{u:Ud}{tg:List Nat}(hn:n≤24) (hm:m≤9) (hb:b < n) (hs:(u.rc b).st≤2):JFn Tryz.prog 38 false (znQ n m u b a c tg) (uK n m (zbl u b (Vh u b a c tg))):=by
 refine JFn.of (P:=Tryz.prog) okU rfl (c:=cOf 38) (mOf 38) Tryz.func38 (by kernel_rfl) fun B N hN=>?_
 rw[zEu] at hN
 have:=JL.goR (B:=B) (N:=N) (mask:=mOf 38) (l1:=fl (cOf 38)) (l2:=[]) (Q:=retJ EU Tryz.f38 false (uK n m (zbl u b (Vh u b a c tg)))) (n:=60) okU rfl (rOf 38) [] [5,6,7] (lt0:=vy (mOf 38) 0 (znQ n m u b a c tg)) (lz0:=[]) (n0:=0) hN (by kernel_rfl) (by kernel_rfl) ?_
 ·rwa [List.append_nil] at this
 ·show r38 n m u b a c tg _ _
  rw[e38]
  have e:tgS u b≤2:=by unfold tgS; split<;>(try split)<;>omega
  refine ze.2 ⟨Nat.ble_eq_true_of_le (by omega),ze.2 ⟨?_,ze.2 ⟨Nat.ble_eq_true_of_le (by omega),(n,m,u,b),rfl,⟨hb,hs⟩,ze.2 ⟨xB.2 (by show tgS u b + 1 < _; omega),ze.2 ⟨vm.2 hb,ze.2 ⟨vm.2 hb,?_⟩⟩⟩⟩⟩⟩
  ·unfold mkB
   have q1:leI 0 (.ofNat n)=true:=wA (a:=0).2 (Nat.zero_le _)
   have q2:leI (.ofNat n) (.ofNat n)=true:=wA.2 (Nat.le_refl _)
   have q3:leI (.ofNat n) 16777216=true:=wA (b:=16777216).2 (by omega)
   rw[q1,q2,q3]; rfl
  ·intro tr zm hz hmb hi hr
   have h5:kb zm 5=some (zCX n u b (Vh u b a c tg)):=congrArg (fun l=>l.getD 0 none) hz
   have h6:kb zm 6=some (zCY n u b):=congrArg (fun l=>l.getD 1 none) hz
   have h7:kb zm 7=some (zCZ m u):=congrArg (fun l=>l.getD 2 none) hz
   refine retJ.mk rfl zEv (FzP.cons (FzP.row h5 rfl rfl fun i hi=>Z1 ?_ ?_) (FzP.cons (FzP.sl h6 rfl rfl rfl fun i hi=>Z1 ?_ ?_) (FzP.cons (FzP.row h7 rfl rfl fun i hi=>Z1 rfl rfl) (FzP.noref rfl)))) hr
   ·show ifN i b _ _=(if i=b then _ else u.rc i).k
    rw[w3]
    by_cases q:i=b
    ·rw[if_pos q,if_pos q]
    ·rw[if_neg q,if_neg q]
   ·exact w8 _
   ·show ifN (0 + i) (Nat.add 0 b) _ (Jg 0 (Nat.add 0 (min n n)) (0 + i) _ _)=KV.bool (if i=b then true else u.ch i)
    rw[w3,Jh,qv,qv,Nat.zero_add,Nat.min_self,if_pos (⟨by omega,hi⟩:0≤i∧i < n)]
    by_cases q:i=b
    ·rw[if_pos q,if_pos q]
    ·rw[if_neg q,if_neg q,qv]; rfl
   ·rfl
noncomputable def zAy:zg:=v3 (fun x:Nat×Nat×Ud×Nat×Nat×Nat×List Nat=>znQ x.1 x.2.1 x.2.2.1 x.2.2.2.1 x.2.2.2.2.1 x.2.2.2.2.2.1 x.2.2.2.2.2.2) (fun x=>x.1≤24∧x.2.1≤9∧x.2.2.2.1 < x.1∧(x.2.2.1.rc x.2.2.2.1).st≤2) fun x=>uK x.1 x.2.1 (zbl x.2.2.1 x.2.2.2.1 (Vh x.2.2.1 x.2.2.2.1 x.2.2.2.2.1 x.2.2.2.2.2.1 x.2.2.2.2.2.2))
theorem zEw:KCS Tryz.prog 38 zAy:=qs ⟨Tryz.f38,Tryz.func38,by kernel_rfl,by kernel_rfl⟩ fun x h=>j38 h.1 h.2.1 h.2.2.1 h.2.2.2
end
end Go.K
set_option maxRecDepth 100000
namespace Go.K
open Go.Ab Go.RowKit Go.Y Go.Proofs
noncomputable section
attribute [local instance 10000] gO
noncomputable def zvW (n:Nat) (u:Ud):KBlk:=⟨.row 96,.arr n xv,.fa n fun j=>(u.rc j).k⟩
noncomputable def zvX (n:Nat):KBlk:=⟨.box 4,.arr n .sc,.ar n (.bool false) .te⟩
noncomputable def zjY (k:Nat) (x:KV) (f:Nat→Nat):KBlk:=⟨.row 3,.arr (Nat.succ k) .sc,.fa (Nat.succ k) fun j=>ifN j k x (nI (f j))⟩
noncomputable def v86 (n m:Nat):KV:=.cons (.row 3 xv n) (.cons (.sl 4 [] .sc 0 n (some n)) (.cons (.row 5 .sc m) .nl))
noncomputable def f86 (n k:Nat) (u:Ud) (R:RT) (m:Nat) (f:Nat→Nat):Prop :=
 cnd (apB 0 n) (cnd (mkB (.ofNat n) (.ofNat n)) (cnd (apB 0 m) (cnd (b63 k) (cnd (ixB (.ofNat k) m) (alt (Nat.ble (u.sl (Nat.add 0 k)) 1) (cnd (b63 (Nat.sub 1 (u.sl (Nat.add 0 k)))) (cnd (ixB (.ofNat k) m) (R (v86 n m) [some (zvW n u),some (zvX n),some (zjY k (nI (Nat.sub 1 (u.sl (Nat.add 0 k)))) f)] 7))) (cnd (ixB (.ofNat k) m) (R (v86 n m) [some (zvW n u),some (zvX n),some (zjY k (.int .i64 (Vc .i64 (.ofNat 1) (.ofNat (u.sl (Nat.add 0 k))))) f)] 7)))))))
noncomputable def sNw (n k:Nat) (u:Ud) (f:Nat→Nat):zg:=fun l K=>([uK n (Nat.succ k) u]=l∧UOk n (Nat.succ k) u)∧K (qU (Nat.succ k) f)
noncomputable def E86 (n k:Nat) (u:Ud) (f:Nat→Nat):KEnv:=EO0.tab [(26,sNw n k u f)]
noncomputable def r86 (n k:Nat) (u:Ud) (f:Nat→Nat) (Q:QT) (R:RT):Prop:=pc (E86 n k u f) 86 (fl (cOf 86)) [] [3,4,5] (vy (mOf 86) 0 [uK n (Nat.succ k) u],[],0) Q R
theorem e86 (n k:Nat) (u:Ud) (f:Nat→Nat) (Q:QT) (R:RT):r86 n k u f Q R=(([uK n (Nat.succ k) u]=[uK n (Nat.succ k) u]∧UOk n (Nat.succ k) u)∧f86 n k u R (Nat.succ k) f):=by kernel_rfl
attribute [local irreducible] kpre cOf mOf rOf JL zu zi hS zq zQ jP
theorem zE2:Tryz.f86.ntmps=25:=by kernel_rfl
theorem zE3:Tryz.f86.results.toList=rOf 86:=by kernel_rfl
noncomputable def YO (n k:Nat) (u:Ud):Ud:=⟨u.rc,fun _=>false,fun i=>if i=k then 1 - u.sl k else xR n u i⟩
theorem kNw (n k:Nat) (u:Ud):KCS Tryz.prog 26 (sNw n k u (xR n u)):=zpO.imp fun l K h=>by
 obtain⟨⟨rfl,h1⟩,h2⟩:=h
 exact⟨(n,Nat.succ k,u),rfl,h1,h2⟩
theorem zBI (n k:Nat) (u:Ud):KOk (E86 n k u (xR n u)):=xA.tab ⟨kNw n k u,trivial⟩
theorem j86 {n k:Nat}{u:Ud}(H:UOk n (Nat.succ k) u):JFn Tryz.prog 86 false [uK n (Nat.succ k) u] (uK n (Nat.succ k) (YO n k u)):=by
 obtain⟨n1,n2⟩:=xc H.n24
 have hm9:=yD H.n24
 have htot:=H.tot
 have hs:=H.sl k (Nat.lt_succ_self k)
 refine JFn.of (P:=Tryz.prog) (zBI n k u) rfl (c:=cOf 86) (mOf 86) Tryz.func86 (by kernel_rfl) fun B N hN=>?_
 rw[zE2] at hN
 have:=JL.goR (B:=B) (N:=N) (mask:=mOf 86) (l1:=fl (cOf 86)) (l2:=[]) (Q:=retJ (E86 n k u (xR n u)) Tryz.f86 false (uK n (Nat.succ k) (YO n k u))) (n:=60) (zBI n k u) rfl (rOf 86) [] [3,4,5] (lt0:=vy (mOf 86) 0 [uK n (Nat.succ k) u]) (lz0:=[]) (n0:=0) hN (by kernel_rfl) (by kernel_rfl) ?_
 ·rwa [List.append_nil] at this
 ·show r86 n k u (xR n u) _ _
  rw[e86]
  refine⟨⟨rfl,H⟩,?_⟩
  have q1:leI 0 (.ofNat n)=true:=wA (a:=0).2 (Nat.zero_le _)
  have q2:leI (.ofNat n) (.ofNat n)=true:=wA.2 (Nat.le_refl _)
  have q3:leI (.ofNat n) 16777216=true:=wA (b:=16777216).2 (by omega)
  refine ze.2 ⟨Nat.ble_eq_true_of_le (by omega),ze.2 ⟨by unfold mkB; rw[q1,q2,q3]; rfl,ze.2 ⟨Nat.ble_eq_true_of_le (by omega),ze.2 ⟨xB.2 (by omega),ze.2 ⟨vm.2 (Nat.lt_succ_self k),zo.2 ⟨fun _=>ze.2 ⟨xB.2 ?_,ze.2 ⟨vm.2 (Nat.lt_succ_self k),?_⟩⟩,fun q=>?_⟩⟩⟩⟩⟩⟩
  ·show 1 - u.sl (Nat.add 0 k) < _
   omega
  ·intro tr zm hz hmb hi hr
   have h3:kb zm 3=some (zvW n u):=congrArg (fun l=>l.getD 0 none) hz
   have h4:kb zm 4=some (zvX n):=congrArg (fun l=>l.getD 1 none) hz
   have h5:kb zm 5=some (zjY k (nI (Nat.sub 1 (u.sl (Nat.add 0 k)))) (xR n u)):=congrArg (fun l=>l.getD 2 none) hz
   refine retJ.mk rfl zE3 (FzP.cons (FzP.row h3 rfl rfl fun i hi=>Z1 rfl (w8 _)) (FzP.cons (FzP.sl h4 rfl rfl rfl fun i hi=>FzE.noref (x:=(KV.bool false).v) rfl) (FzP.cons (FzP.row h5 rfl rfl fun i hi=>Z1 ?_ rfl) (FzP.noref rfl)))) hr
   show ifN i k _ _=nI (if i=k then 1 - u.sl k else xR n u i)
   rw[w3,qv]
   by_cases e:i=k
   ·rw[if_pos e,if_pos e]; rfl
   ·rw[if_neg e,if_neg e]
  ·rw[qv] at q
   have:Nat.ble (u.sl k) 1=true:=Nat.ble_eq_true_of_le hs
   rw[this] at q; cases q
noncomputable def zBJ:zg:=v3 (fun x:Nat×Nat×Ud=>[uK x.1 (Nat.succ x.2.1) x.2.2]) (fun x=>UOk x.1 (Nat.succ x.2.1) x.2.2) fun x=>uK x.1 (Nat.succ x.2.1) (YO x.1 x.2.1 x.2.2)
theorem zE4:KCS Tryz.prog 86 zBJ:=qs ⟨Tryz.f86,Tryz.func86,by kernel_rfl,by kernel_rfl⟩ fun x h=>j86 h
theorem zwI {n k:Nat}{u:Ud}(H:UOk n (Nat.succ k) u):UOk n (Nat.succ k) (YO n k u):=⟨H.n24,H.tot,H.wl,H.wb,fun i hi=>by
 show (if i=k then 1 - u.sl k else xR n u i)≤1
 split
 ·omega
 ·exact zoh (H.sl i hi),H.st⟩
theorem zwJ {n m b a c:Nat}{u:Ud}{tg:List Nat}(H:UOk n m u) (hb:b < n) (ha:a < 4294967296) (hc:c < 18446744073709551616) (ht:tg.length=32) (hl:∀ x∈tg,x < 256):UOk n m (zbl u b (Vh u b a c tg)):=by
 have e:tgS u b≤1:=by
  have:=H.st b hb
  unfold tgS
  split
  ·omega
  ·split<;>omega
 have q:(Vh u b a c tg).st=tgS u b + 1:=by
  show (tgS u b + 1) % 256=_
  omega
 refine⟨H.n24,H.tot,fun i hi=>?_,fun i hi=>?_,H.sl,fun i hi=>?_⟩
 ·show (if i=b then _ else u.rc i).tg.length=32
  split
  ·exact ht
  ·exact H.wl i hi
 ·show (if i=b then Vh u b a c tg else u.rc i).wb
  split
  ·exact⟨by rw[q]; omega,ha,hc,hl⟩
  ·exact H.wb i hi
 ·show (if i=b then Vh u b a c tg else u.rc i).st≤2
  split
  ·rw[q]; omega
  ·exact H.st i hi
end
end Go.K
set_option maxRecDepth 100000
namespace Go.K
open Go.Ab Go.RowKit Go.Y Go.Proofs
noncomputable section
attribute [local instance 10000] gO
noncomputable def dsL (a:Nat):List Nat:=lsF 32 fun i=>Nat.mod (Nat.add a (Nat.mod (Nat.mul 7 i) 256)) 256
noncomputable def p17 (a:Nat) (K:KV→Prop):Prop:=zn EO0 (zu EO0 200) 0 17 [kU8 a] .e 0 0 fun r _ _ _=>K r
theorem e17 (a:Nat) (K:KV→Prop):p17 a K=K (kBy 32 (nN (dsL a))):=by kernel_rfl
noncomputable def noA (a:Nat):Nat:=Nat.mod (a % 4) 4294967296
noncomputable def noC (a:Nat):Nat:=Nat.mod a 18446744073709551616
noncomputable def p87 (a:Nat) (K:KV→Prop):Prop:=zn EO0 (zu EO0 200) 0 87 [kU8 a] .e 0 0 fun r _ _ _=>K r
theorem e87 (a:Nat) (K:KV→Prop):p87 a K=K (.cons (yH (noA a)) (.cons (YA (noC a)) .nl)):=by kernel_rfl
noncomputable def zFl (a:Nat) (K:KV→Prop):Prop:=zn EO0 (zu EO0 200) 0 156 [kU8 a] .e 0 0 fun r _ _ _=>K r
theorem zFm (a:Nat) (K:KV→Prop):zFl a K=cnd (b63 a) (cnd (b63 (Nat.add 1 (a % 24))) (K (nI (Nat.add 1 (a % 24))))):=by kernel_rfl
noncomputable def zw8:zg:=v3 (fun a:Nat=>[kU8 a]) (fun a=>True) fun a=>kBy 32 (nN (dsL a))
theorem zlr (l:List Nat):xl (kBy 32 (nN l)).v=true:=by kernel_rfl
theorem zB7:KCS Tryz.prog 17 zw8:=ZV ⟨Tryz.f17,Tryz.func17,by kernel_rfl,by kernel_rfl⟩ fun l K hs=>by
 obtain⟨a,rfl,_,hk⟩:=hs
 exact⟨EO0,xA,rfl,200,fun r=>r=kBy 32 (nN (dsL a)),_,hk,zlr _,fun r hr=>by rw[hr]; exact Imp.refl _,Eq.mpr (e17 a _) rfl⟩
noncomputable def zB8:zg:=v3 (fun a:Nat=>[kU8 a]) (fun a=>True) fun a=>.cons (yH (noA a)) (.cons (YA (noC a)) .nl)
theorem zFn:KCS Tryz.prog 87 zB8:=ZV ⟨Tryz.f87,Tryz.func87,by kernel_rfl,by kernel_rfl⟩ fun l K hs=>by
 obtain⟨a,rfl,_,hk⟩:=hs
 exact⟨EO0,xA,rfl,200,fun r=>r=.cons (yH (noA a)) (.cons (YA (noC a)) .nl),_,hk,rfl,fun r hr=>by rw[hr]; exact Imp.refl _,Eq.mpr (e87 a _) rfl⟩
noncomputable def zB9:zg:=v3 (fun a:Nat=>[kU8 a]) (fun a=>a < 256) fun a=>nI (Nat.add 1 (a % 24))
theorem zFo:KCS Tryz.prog 156 zB9:=ZV ⟨Tryz.f156,Tryz.func156,by kernel_rfl,by kernel_rfl⟩ fun l K hs=>by
 obtain⟨a,rfl,ha,hk⟩:=hs
 replace ha:a < 256:=ha
 exact⟨EO0,xA,rfl,200,fun r=>r=nI (Nat.add 1 (a % 24)),_,hk,rfl,fun r hr=>by rw[hr]; exact Imp.refl _,Eq.mpr (zFm a _) (ze.2 ⟨xB.2 (by omega),ze.2 ⟨xB.2 (by show 1 + a % 24 < _; omega),rfl⟩⟩)⟩
noncomputable def zqX:KEnv:=EO0.tab [(17,zw8)]
theorem zCa:KOk zqX:=xA.tab ⟨zB7,trivial⟩
noncomputable def zFp (a b:Nat) (K:KV→Prop):Prop:=zn zqX (zu zqX 200) 0 157 [kU8 a,kU8 b] .e 0 0 fun r _ _ _=>K r
noncomputable def rcT (a b:Nat) (x:Nat):Rc:=⟨a % 3,Nat.mod (b % 8) 4294967296,Nat.mod (Nat.mul (Nat.mod b 18446744073709551616) 257) 18446744073709551616,dsL x⟩
theorem zFq (a b:Nat) (K:KV→Prop):zFp a b K=alt (eqN (a % 3) 0) (K rcZ) (∃ x:Nat,[kU8 b]=[kU8 x]∧True∧K (rcT a b x).k):=by kernel_rfl
noncomputable def Xc (a b:Nat):Rc:=if a % 3=0 then zRc else rcT a b b
noncomputable def zCb:zg:=v3 (fun x:Nat×Nat=>[kU8 x.1,kU8 x.2]) (fun x=>True) fun x=>(Xc x.1 x.2).k
theorem zFr:KCS Tryz.prog 157 zCb:=ZV ⟨Tryz.f157,Tryz.func157,by kernel_rfl,by kernel_rfl⟩ fun l K hs=>by
 obtain⟨⟨a,b⟩,rfl,_,hk⟩:=hs
 refine⟨zqX,zCa,rfl,200,fun r=>Imp r.v (Xc a b).k.v,_,hk,w8 _,fun r hr=>hr,Eq.mpr (zFq a b _) (zo.2 ⟨fun h=>?_,fun h=>⟨b,rfl,trivial,?_⟩⟩)⟩
 ·unfold Xc
  rw[if_pos (jI.1 h)]; exact Vy
 ·unfold Xc
  rw[if_neg ((bf jI).1 h)]; exact Imp.refl _
theorem zeP (a:Nat):(dsL a).length=32:=wt 32
theorem zqY {P:Nat→Prop}{f:Nat→Nat}(h:∀ i,P (f i)) (n:Nat):∀ b∈lsF n f,P b:=by
 have go:∀(n s:Nat),∀ b∈(@Nat.rec (fun _=>Nat→List Nat) (fun _=>[]) (fun _ ih i=>f i::ih (Nat.succ i)) n s),P b:=by
  intro n
  induction n with
  | zero=>intro s b hb; cases hb
  | succ n ih =>
   intro s b hb
   rcases List.mem_cons.1 (show b∈f s::_ from hb) with e | e
   ·rw[e]; exact h s
   ·exact ih _ b e
 exact go n 0
theorem zls (a:Nat):∀ b∈dsL a,b < 256:=zqY (P:=fun b=>b < 256) (fun i=>Nat.mod_lt _ (by omega)) 32
theorem zqZ (a b:Nat):(Xc a b).tg.length=32∧(Xc a b).wb∧(Xc a b).st≤2:=by
 unfold Xc
 split
 ·exact⟨rfl,Yx,Nat.zero_le _⟩
 ·exact⟨zeP _,⟨by show a % 3 < 256; omega,Nat.mod_lt _ (by omega),Nat.mod_lt _ (by omega),zls _⟩,by show a % 3≤2; omega⟩
structure Md where
 nb:Nat
 p:Nat
 pp:Nat→Nat→Nat
 q:Nat
 ss:Nat→Nat
noncomputable def shM:Shape:=.cons .sc (.cons .sc (.cons .sc .nl))
noncomputable def Md.k (x:Md):KV:=.cons (kU8 x.nb) (.cons (roK (.arr 2 .sc) x.p fun i=>.fa 2 fun j=>kU8 (x.pp i j)) (.cons (roK .sc x.q fun i=>kU8 (x.ss i)) .nl))
noncomputable def zM (x:Md):KBlk:=bx 25 shM x.k
noncomputable def l85:List Code:=fl (cOf 85)
noncomputable def zgh:Code:=lpB (blB (l85.getD 4 .skip))
noncomputable def zgi:Code:=lpB (blB (l85.getD 7 .skip))
noncomputable def E85:KEnv:=EO0.tab [(156,zB9),(157,zCb),(104,zyz)]
theorem Vk:KOk E85:=xA.tab ⟨zFo,zFr,zDl,trivial⟩
noncomputable def vR (f:Nat→Rc) (k:Nat):KBlk:=⟨.row 96,.arr k xv,.fa k fun i=>(f i).k⟩
noncomputable def zrS (x:Md) (n k:Nat) (f:Nat→Rc):LS:=([(1,pUd),(4,nI n),(5,.row 1 xv (Nat.succ k)),(6,nI (Nat.succ k))],[(0,zM x),(1,vR f (Nat.succ k))],2)
noncomputable def zyK (x:Md) (n:Nat):LS:=([(1,pUd),(4,nI n),(5,.nils),(6,nI 0)],[(0,zM x)],1)
noncomputable def zDr (x:Md) (Q:QT) (R:zj):Prop:=pc E85 85 (l85.take 4) [1,4,5,6] [0] (vy (mOf 85) 0 [x.k],[],0) Q fun v _ _=>R v
theorem zGh (x:Md) (Q:QT) (R:zj):zDr x Q R=(∃ a:Nat,[kU8 x.nb]=[kU8 a]∧a < 256∧Q .normal [pUd,nI (Nat.add 1 (a % 24)),.nils,nI 0] [some (zM x)] 1):=by kernel_rfl
noncomputable def zDs (x:Md) (n k:Nat) (f:Nat→Rc) (Q:QT) (R:zj):Prop:=pc E85 85 (fl zgh) [1,4,5,6] [0,1,4] (zrS x n k f) Q fun v _ _=>R v
noncomputable def zGi (x:Md) (n k:Nat) (f:Nat→Rc) (Q:QT) (X:KV):Prop:=cnd (apB (Nat.succ k) 1) (cnd (b63 (Nat.add (Nat.succ k) 1)) (Q .normal [pUd,nI n,.row 4 xv (Nat.add (Nat.succ k) 1),nI (Nat.add (Nat.succ k) 1)] [some (zM x),some ⟨.dead,.arr (Nat.succ k) xv,.unk⟩,some ⟨.row 96,.arr (Nat.add (Nat.succ k) 1) xv,.fa (Nat.add (Nat.succ k) 1) fun i=>ifN i (Nat.add (Nat.succ k) 0) X (f i).k⟩] 5))
noncomputable def g85 (x:Md) (n k:Nat) (W:KV→Prop) (e:Prop):Prop:=alt (ltN k n) (alt (ltN k x.p) (cnd (ixB (.ofNat k) x.p) (cnd (ixB (.ofNat k) x.p) (∃ y:Nat×Nat,[kU8 (x.pp (Nat.add 0 k) 0),kU8 (x.pp (Nat.add 0 k) 1)]=[kU8 y.1,kU8 y.2]∧True∧W (Xc y.1 y.2).k))) (W rcZ)) e
theorem zGj (x:Md) (n k:Nat) (f:Nat→Rc) (Q:QT) (R:zj):zDs x n k f Q R=g85 x n (Nat.succ k) (zGi x n k f Q) (Q (.exit 0) [pUd,nI n,.row 1 xv (Nat.succ k),nI (Nat.succ k)] [some (zM x),some (vR f (Nat.succ k)),none] 2):=by kernel_rfl
noncomputable def zDt (x:Md) (n:Nat) (Q:QT) (R:zj):Prop:=pc E85 85 (fl zgh) [1,4,5,6] [0,3] (zyK x n) Q fun v _ _=>R v
noncomputable def zGk (x:Md) (n:Nat) (Q:QT) (X:KV):Prop:=Q .normal [pUd,nI n,.row 3 xv 1,nI 1] [some (zM x),some ⟨.row 96,.arr 1 xv,.ar 1 rcZ (x6 X (enc 0) .te)⟩] 4
theorem zGl (x:Md) (n:Nat) (Q:QT) (R:zj):zDt x n Q R=g85 x n 0 (zGk x n Q) (Q (.exit 0) [pUd,nI n,.nils,nI 0] [some (zM x),none] 1):=by kernel_rfl
noncomputable def zrT (x:Md) (n:Nat) (f:Nat→Rc):LS:=([(1,pUd),(4,nI n),(5,.row 1 xv n)],[(0,zM x),(1,vR f n)],2)
noncomputable def zDu (x:Md) (n:Nat) (f:Nat→Rc) (Q:QT) (R:zj):Prop:=pc E85 85 ((l85.drop 5).take 2) [1,4,5,8,9] [0,1] (zrT x n f) Q fun v _ _=>R v
theorem zGm (x:Md) (n:Nat) (f:Nat→Rc) (Q:QT) (R:zj):zDu x n f Q R=Q .normal [pUd,nI n,.row 1 xv n,.nils,nI 0] [some (zM x),some (vR f n)] 2:=by kernel_rfl
noncomputable def Zs (g:Nat→Nat) (k:Nat):KBlk:=⟨.row 3,.arr k .sc,.fa k fun i=>nI (g i)⟩
noncomputable def zaa (x:Md) (n k:Nat) (f:Nat→Rc) (g:Nat→Nat):LS:=([(1,pUd),(4,nI n),(5,.row 1 xv n),(8,.row 2 .sc (Nat.succ k)),(9,nI (Nat.succ k))],[(0,zM x),(1,vR f n),(2,Zs g (Nat.succ k))],3)
noncomputable def zyL (x:Md) (n:Nat) (f:Nat→Rc):LS:=([(1,pUd),(4,nI n),(5,.row 1 xv n),(8,.nils),(9,nI 0)],[(0,zM x),(1,vR f n)],2)
noncomputable def h85 (x:Md) (n k:Nat) (W:KV→Prop) (e:Prop):Prop:=zT n=true∧alt (ltN k (zq n)) (alt (ltN k x.q) (cnd (ixB (.ofNat k) x.q) (cnd (b63 (x.ss (Nat.add 0 k) % 2)) (W (nI (x.ss (Nat.add 0 k) % 2))))) (W (nI 0))) e
noncomputable def zGn (x:Md) (n k:Nat) (f:Nat→Rc) (g:Nat→Nat) (Q:QT) (X:KV):Prop:=cnd (apB (Nat.succ k) 1) (cnd (b63 (Nat.add (Nat.succ k) 1)) (Q .normal [pUd,nI n,.row 1 xv n,.row 4 .sc (Nat.add (Nat.succ k) 1),nI (Nat.add (Nat.succ k) 1)] [some (zM x),some (vR f n),some ⟨.dead,.arr (Nat.succ k) .sc,.unk⟩,some ⟨.row 3,.arr (Nat.add (Nat.succ k) 1) .sc,.fa (Nat.add (Nat.succ k) 1) fun i=>ifN i (Nat.add (Nat.succ k) 0) X (nI (g i))⟩] 5))
noncomputable def zDv (x:Md) (n k:Nat) (f:Nat→Rc) (g:Nat→Nat) (Q:QT) (R:zj):Prop:=pc E85 85 (fl zgi) [1,4,5,8,9] [0,1,2,4] (zaa x n k f g) Q fun v _ _=>R v
theorem zGo (x:Md) (n k:Nat) (f:Nat→Rc) (g:Nat→Nat) (Q:QT) (R:zj):zDv x n k f g Q R=h85 x n (Nat.succ k) (zGn x n k f g Q) (Q (.exit 2) [pUd,nI n,.row 1 xv n,.row 2 .sc (Nat.succ k),nI (Nat.succ k)] [some (zM x),some (vR f n),some (Zs g (Nat.succ k)),none] 3):=by kernel_rfl
noncomputable def zDw (x:Md) (n:Nat) (f:Nat→Rc) (Q:QT) (R:zj):Prop:=pc E85 85 (fl zgi) [1,4,5,8,9] [0,1,3] (zyL x n f) Q fun v _ _=>R v
noncomputable def zGp (x:Md) (n:Nat) (f:Nat→Rc) (Q:QT) (X:KV):Prop:=Q .normal [pUd,nI n,.row 1 xv n,.row 3 .sc 1,nI 1] [some (zM x),some (vR f n),some ⟨.row 3,.arr 1 .sc,.ar 1 (nI 0) (x6 X (enc 0) .te)⟩] 4
theorem zGq (x:Md) (n:Nat) (f:Nat→Rc) (Q:QT) (R:zj):zDw x n f Q R=h85 x n 0 (zGp x n f Q) (Q (.exit 2) [pUd,nI n,.row 1 xv n,.nils,nI 0] [some (zM x),some (vR f n),none] 2):=by kernel_rfl
noncomputable def zDx (x:Md) (n k:Nat) (f:Nat→Rc) (g:Nat→Nat) (Q:QT) (R:RT):Prop:=pc E85 85 (l85.drop 8) [] [1,2] (zaa x n k f g) Q R
theorem zGr (x:Md) (n k:Nat) (f:Nat→Rc) (g:Nat→Nat) (Q:QT) (R:RT):zDx x n k f g Q R=R (.tup (.cons (.row 1 xv n) (.cons (.row 2 .sc (Nat.succ k)) .nl))) [some (vR f n),some (Zs g (Nat.succ k))] 3:=by kernel_rfl
end
end Go.K
set_option maxRecDepth 100000
namespace Go.K
open Go.Ab Go.RowKit Go.Y Go.Proofs
noncomputable section
attribute [local instance 10000] gO
section
variable {F:List Nat}{ρ:Nat→Nat}{nx k n:Nat}{zm:KZ}{f:Nat→Rc}{g:Nat→Nat}{x:Md}
theorem ZY {b1 b:KBlk}(h1:b1.k=b.k) (h2:b1.sh=b.sh) (hi:Imp b1.v.v b.v.v) (hw:RnB (am zm) F ρ nx b.v.v b.v.v):RnK F ρ nx zm (some b1) b:=RnK.mk' h1 h2 fun B H C M q1 q2 q3 m hm=>hw B H C M q1 q2 q3 m (hi C m hm)
theorem zuN (y:Rc):xQ 0 y.k=true:=by kernel_rfl
theorem rnR:RnB (am zm) F ρ nx (vR f k).v.v (vR f k).v.v:=RnB.arr fun i hi=>nfB (zuN _)
theorem rnG:RnB (am zm) F ρ nx (Zs g k).v.v (Zs g k).v.v:=RnB.arr fun i hi=>nfB (v:=nI (g i)) rfl
theorem zit:RnK F ρ nx zm (some (vR f k)) (vR f k):=RnK.mk' rfl rfl rnR
theorem zEa:RnK F ρ nx zm (some (Zs g k)) (Zs g k):=RnK.mk' rfl rfl rnG
theorem zEb {X:KV}(h:Imp X.v (f 0).k.v):RnK F ρ nx zm (some ⟨.row 96,.arr 1 xv,.ar 1 rcZ (x6 X (enc 0) .te)⟩) (vR f 1):=ZY rfl rfl (Imp.arr fun i hi=>by
 obtain rfl:i=0:=by omega
 exact Eq.mpr (congrArg (fun a=>Imp a (f 0).k.v) ((jm X rcZ.v 0 0 .te).trans (if_pos rfl))) h) rnR
theorem zEc {X:KV}(h:Imp X.v (f (Nat.succ k)).k.v):RnK F ρ nx zm (some ⟨.row 96,.arr (Nat.add (Nat.succ k) 1) xv,.fa (Nat.add (Nat.succ k) 1) fun i=>ifN i (Nat.add (Nat.succ k) 0) X (f i).k⟩) (vR f (Nat.succ (Nat.succ k))):=ZY rfl rfl (Imp.arr fun i hi=>by
 show Imp (ifN i (Nat.succ k) X (f i).k).v (f i).k.v
 rw[w3]
 by_cases e:i=Nat.succ k
 ·rw[if_pos e,e]; exact h
 ·rw[if_neg e]; exact Imp.refl _) rnR
theorem zEd {X:KV}(h:X=nI (g 0)):RnK F ρ nx zm (some ⟨.row 3,.arr 1 .sc,.ar 1 (nI 0) (x6 X (enc 0) .te)⟩) (Zs g 1):=ZY rfl rfl (Imp.arr fun i hi=>by
 obtain rfl:i=0:=by omega
 subst h
 exact Eq.mpr (congrArg (fun a=>Imp a (nI (g 0)).v) ((jm (nI (g 0)) (nI 0).v 0 0 .te).trans (if_pos rfl))) (Imp.refl _)) rnG
theorem zEe {X:KV}(h:X=nI (g (Nat.succ k))):RnK F ρ nx zm (some ⟨.row 3,.arr (Nat.add (Nat.succ k) 1) .sc,.fa (Nat.add (Nat.succ k) 1) fun i=>ifN i (Nat.add (Nat.succ k) 0) X (nI (g i))⟩) (Zs g (Nat.succ (Nat.succ k))):=ZY rfl rfl (Imp.arr fun i hi=>by
 show Imp (ifN i (Nat.succ k) X (nI (g i))).v (nI (g i)).v
 rw[w3]
 by_cases e:i=Nat.succ k
 ·rw[if_pos e,e,h]; exact Imp.refl _
 ·rw[if_neg e]; exact Imp.refl _) rnG
theorem kbM (x:Md):xQ 0 (zM x).v=true:=by kernel_rfl
end
end
end Go.K
set_option maxRecDepth 100000
namespace Go.K
open Go.Ab Go.RowKit Go.Y Go.Proofs
noncomputable section
attribute [local instance 10000] gO
noncomputable def rcM (x:Md) (i:Nat):Rc:=if i < x.p then Xc (x.pp (Nat.add 0 i) 0) (x.pp (Nat.add 0 i) 1) else zRc
noncomputable def slM (x:Md) (i:Nat):Nat:=if i < x.q then x.ss (Nat.add 0 i) % 2 else 0
noncomputable def nM (x:Md):Nat:=Nat.add 1 (x.nb % 24)
noncomputable def S1 (x:Md) (n:Nat) (f:Nat→Rc) (k:Nat):LS:=@Nat.rec (fun _=>LS) (zyK x n) (fun k _=>zrS x n k f) k
noncomputable def S2 (x:Md) (n:Nat) (f:Nat→Rc) (g:Nat→Nat) (k:Nat):LS:=@Nat.rec (fun _=>LS) (zyL x n f) (fun k _=>zaa x n k f g) k
attribute [local irreducible] kpre cOf mOf rOf JL zu l85 zgh zgi zi hS zq zQ jP Xc
theorem zFu:Tryz.f85.ntmps=65:=by kernel_rfl
theorem zFv:Tryz.f85.results.toList=rOf 85:=by kernel_rfl
theorem zFw:fl (cOf 85)=l85:=by kernel_rfl
section
variable {x:Md}{n k:Nat}{f:Nat→Rc}{g:Nat→Nat}{tr:KTm}{zm:KZ}
theorem zFx:∀ k,nd (ltL (S1 x n f k).2.2 (S1 x n f k).2.1) (jE (mOf 85) (S1 x n f k).1)=true
 | 0=>by kernel_rfl
 | Nat.succ k=>by kernel_rfl
theorem zCi:∀ k,nd (ltL (S2 x n f g k).2.2 (S2 x n f g k).2.1) (jE (mOf 85) (S2 x n f g k).1)=true
 | 0=>by kernel_rfl
 | Nat.succ k=>by kernel_rfl
noncomputable def qd (a b c i:Nat):Nat:=@Nat.rec (fun _=>Nat) a (fun i _=>@Nat.rec (fun _=>Nat) b (fun _ _=>c) i) i
theorem zCj (ht:[1,4,5,6].map (zp tr)=[pUd,nI n,.nils,nI 0]) (hz:[0].map (kb zm)=[some (zM x)]):atS (mOf 85) (S1 x n f 0) tr zm :=
 atS.of (s:=zyK x n) [] id ht hz (by kernel_rfl) ⟨vc (ltk rfl),zC _ rfl,zC _ rfl,zC _ rfl,trivial⟩ ⟨RnK.nf (kbM x),trivial⟩
theorem zxj {X:KV}(hX:Imp X.v (f 0).k.v) (ht:[1,4,5,6].map (zp tr)=[pUd,nI n,.row 3 xv 1,nI 1]) (hz:[0,3].map (kb zm)=[some (zM x),some ⟨.row 96,.arr 1 xv,.ar 1 rcZ (x6 X (enc 0) .te)⟩]):atS (mOf 85) (S1 x n f 1) tr zm :=
 atS.of (s:=zrS x n 0 f) [] (qd 0 3 0) ht hz (by kernel_rfl) ⟨(show RnB (am zm) [] (qd 0 3 0) 2 (V.ptr 0 [] shM) (V.ptr 0 [] shM) from RnB.ptr rfl (ltk rfl)).v,(nfB rfl).v,(show RnB (am zm) [] (qd 0 3 0) 2 (V.row 3 xv _) (V.row 1 xv _) from RnB.row rfl (ltk rfl)).v,(nfB rfl).v,trivial⟩ ⟨RnK.nf (kbM x),zEb hX,trivial⟩
theorem zxk {X:KV}(hX:Imp X.v (f (Nat.succ k)).k.v) (ht:[1,4,5,6].map (zp tr)=[pUd,nI n,.row 4 xv (Nat.add (Nat.succ k) 1),nI (Nat.add (Nat.succ k) 1)]) (hz:[0,1,4].map (kb zm)=[some (zM x),some ⟨.dead,.arr (Nat.succ k) xv,.unk⟩,some ⟨.row 96,.arr (Nat.add (Nat.succ k) 1) xv,.fa (Nat.add (Nat.succ k) 1) fun i=>ifN i (Nat.add (Nat.succ k) 0) X (f i).k⟩]):atS (mOf 85) (S1 x n f (k + 2)) tr zm:=by
 have h0:kb zm 0=some (zM x):=congrArg (fun l=>l.getD 0 none) hz
 have h2:=congrArg (fun l=>l.getD 2 none) hz
 exact atS.of (s:=zrS x n (Nat.succ k) f) [] (qd 0 4 0) (os:=[some (zM x),some ⟨.row 96,.arr (Nat.add (Nat.succ k) 1) xv,.fa (Nat.add (Nat.succ k) 1) fun i=>ifN i (Nat.add (Nat.succ k) 0) X (f i).k⟩]) ht (by
  show [kb zm 0,kb zm 4]=_
  rw[h0,show kb zm 4=_ from h2]; rfl) (by kernel_rfl) ⟨(show RnB (am zm) [] (qd 0 4 0) 2 (V.ptr 0 [] shM) (V.ptr 0 [] shM) from RnB.ptr rfl (ltk rfl)).v,(nfB rfl).v,(show RnB (am zm) [] (qd 0 4 0) 2 (V.row 4 xv _) (V.row 1 xv _) from RnB.row rfl (ltk rfl)).v,(nfB rfl).v,trivial⟩ ⟨RnK.nf (kbM x),zEc hX,trivial⟩
theorem zCk (ht:[1,4,5,6].map (zp tr)=[pUd,nI n,.row 1 xv n,nI n]) (hz:[0,1,4].map (kb zm)=[some (zM x),some (vR f n),none]):atS (mOf 85) (zrT x n f) tr zm:=by
 have h0:kb zm 0=some (zM x):=congrArg (fun l=>l.getD 0 none) hz
 have h1:kb zm 1=some (vR f n):=congrArg (fun l=>l.getD 1 none) hz
 have t:[1,4,5].map (zp tr)=[pUd,nI n,.row 1 xv n]:=congrArg (fun l=>l.take 3) ht
 exact atS.of (s:=zrT x n f) [] id (os:=[some (zM x),some (vR f n)]) t (by show [kb zm 0,kb zm 1]=_; rw[h0,h1]) (by kernel_rfl) ⟨vc (ltk rfl),zC _ rfl,(RnB.row rfl (ltk rfl)).v,trivial⟩ ⟨RnK.nf (kbM x),zit,trivial⟩
end
end
end Go.K
set_option maxRecDepth 100000
namespace Go.K
open Go.Ab Go.RowKit Go.Y Go.Proofs
noncomputable section
attribute [local instance 10000] gO
attribute [local irreducible] kpre cOf mOf rOf JL zu l85 zgh zgi zi hS zq zQ jP Xc
section
variable {x:Md}{n k:Nat}{f:Nat→Rc}{g:Nat→Nat}{tr:KTm}{zm:KZ}
theorem zAf (ht:[1,4,5,8,9].map (zp tr)=[pUd,nI n,.row 1 xv n,.nils,nI 0]) (hz:[0,1].map (kb zm)=[some (zM x),some (vR f n)]):atS (mOf 85) (S2 x n f g 0) tr zm :=
 atS.of (s:=zyL x n f) [] id ht hz (by kernel_rfl) ⟨vc (ltk rfl),zC _ rfl,(RnB.row rfl (ltk rfl)).v,zC _ rfl,zC _ rfl,trivial⟩ ⟨RnK.nf (kbM x),zit,trivial⟩
theorem zu7 {X:KV}(hX:X=nI (g 0)) (ht:[1,4,5,8,9].map (zp tr)=[pUd,nI n,.row 1 xv n,.row 3 .sc 1,nI 1]) (hz:[0,1,3].map (kb zm)=[some (zM x),some (vR f n),some ⟨.row 3,.arr 1 .sc,.ar 1 (nI 0) (x6 X (enc 0) .te)⟩]):atS (mOf 85) (S2 x n f g 1) tr zm :=
 atS.of (s:=zaa x n 0 f g) [] (qd 0 1 3) ht hz (by kernel_rfl) ⟨(show RnB (am zm) [] (qd 0 1 3) 3 (V.ptr 0 [] shM) (V.ptr 0 [] shM) from RnB.ptr rfl (ltk rfl)).v,(nfB rfl).v,(show RnB (am zm) [] (qd 0 1 3) 3 (V.row 1 xv _) (V.row 1 xv _) from RnB.row rfl (ltk rfl)).v,(show RnB (am zm) [] (qd 0 1 3) 3 (V.row 3 .sc _) (V.row 2 .sc _) from RnB.row rfl (ltk rfl)).v,(nfB rfl).v,trivial⟩ ⟨RnK.nf (kbM x),zit,zEd hX,trivial⟩
theorem zu8 {X:KV}(hX:X=nI (g (Nat.succ k))) (ht:[1,4,5,8,9].map (zp tr)=[pUd,nI n,.row 1 xv n,.row 4 .sc (Nat.add (Nat.succ k) 1),nI (Nat.add (Nat.succ k) 1)]) (hz:[0,1,2,4].map (kb zm)=[some (zM x),some (vR f n),some ⟨.dead,.arr (Nat.succ k) .sc,.unk⟩,some ⟨.row 3,.arr (Nat.add (Nat.succ k) 1) .sc,.fa (Nat.add (Nat.succ k) 1) fun i=>ifN i (Nat.add (Nat.succ k) 0) X (nI (g i))⟩]):atS (mOf 85) (S2 x n f g (k + 2)) tr zm:=by
 have h0:kb zm 0=some (zM x):=congrArg (fun l=>l.getD 0 none) hz
 have h1:kb zm 1=some (vR f n):=congrArg (fun l=>l.getD 1 none) hz
 have h3:=congrArg (fun l=>l.getD 3 none) hz
 exact atS.of (s:=zaa x n (Nat.succ k) f g) [] (qd 0 1 4) (os:=[some (zM x),some (vR f n),some ⟨.row 3,.arr (Nat.add (Nat.succ k) 1) .sc,.fa (Nat.add (Nat.succ k) 1) fun i=>ifN i (Nat.add (Nat.succ k) 0) X (nI (g i))⟩]) ht (by
  show [kb zm 0,kb zm 1,kb zm 4]=_
  rw[h0,h1,show kb zm 4=_ from h3]; rfl) (by kernel_rfl) ⟨(show RnB (am zm) [] (qd 0 1 4) 3 (V.ptr 0 [] shM) (V.ptr 0 [] shM) from RnB.ptr rfl (ltk rfl)).v,(nfB rfl).v,(show RnB (am zm) [] (qd 0 1 4) 3 (V.row 1 xv _) (V.row 1 xv _) from RnB.row rfl (ltk rfl)).v,(show RnB (am zm) [] (qd 0 1 4) 3 (V.row 4 .sc _) (V.row 2 .sc _) from RnB.row rfl (ltk rfl)).v,(nfB rfl).v,trivial⟩ ⟨RnK.nf (kbM x),zit,zEe hX,trivial⟩
theorem zAg (ht:[1,4,5,8,9].map (zp tr)=[pUd,nI n,.row 1 xv n,.row 2 .sc (Nat.succ k),nI (Nat.succ k)]) (hz:[0,1,2,4].map (kb zm)=[some (zM x),some (vR f n),some (Zs g (Nat.succ k)),none]):atS (mOf 85) (zaa x n k f g) tr zm:=by
 have h0:kb zm 0=some (zM x):=congrArg (fun l=>l.getD 0 none) hz
 have h1:kb zm 1=some (vR f n):=congrArg (fun l=>l.getD 1 none) hz
 have h2:kb zm 2=some (Zs g (Nat.succ k)):=congrArg (fun l=>l.getD 2 none) hz
 exact atS.of (s:=zaa x n k f g) [] id (os:=[some (zM x),some (vR f n),some (Zs g (Nat.succ k))]) ht (by show [kb zm 0,kb zm 1,kb zm 2]=_; rw[h0,h1,h2]) (by kernel_rfl) ⟨vc (ltk rfl),zC _ rfl,(RnB.row rfl (ltk rfl)).v,(RnB.row rfl (ltk rfl)).v,zC _ rfl,trivial⟩ ⟨RnK.nf (kbM x),zit,zEa,trivial⟩
end
end
end Go.K
set_option maxRecDepth 100000
namespace Go.K
open Go.Ab Go.RowKit Go.Y Go.Proofs
noncomputable section
attribute [local instance 10000] gO
attribute [local irreducible] kpre cOf mOf rOf JL zu l85 zgh zgi zi hS zq zQ jP Xc
noncomputable def resM (x:Md):KV:=.tup (.cons (jN (nM x) (rcM x)) (.cons (qU (zq (nM x)) (slM x)) .nl))
section
variable {x:Md}{B N k:Nat}
noncomputable abbrev Q85 (x:Md):K4:=retJ E85 Tryz.f85 false (resM x)
theorem zxf (h:¬ k < x.p):Imp rcZ.v (rcM x k).k.v:=by
 unfold rcM
 rw[if_neg h]; exact Vy
theorem j85 (hb:x.nb < 256):JFn Tryz.prog 85 false [x.k] (resM x):=by
 have hn:zT (nM x)=true:=by
  unfold zT
  rw[za]
  exact⟨Nat.ble_eq_true_of_le (by show 1≤1 + x.nb % 24; omega),Nat.ble_eq_true_of_le (by show 1 + x.nb % 24≤24; omega)⟩
 obtain⟨n1,n2⟩:=xc hn
 have h9:=yD hn
 have ht1:1≤zq (nM x):=by unfold zq; exact Nat.succ_le_succ (Nat.zero_le _)
 refine JFn.of (P:=Tryz.prog) Vk rfl (c:=cOf 85) (mOf 85) Tryz.func85 (by kernel_rfl) fun B N hN=>?_
 rw[zFu] at hN
 rw[zFw]
 refine JL.stp (n:=60) (s:=(vy (mOf 85) 0 [x.k],[],0)) Vk rfl 4 (rOf 85) [1,4,5,6] [0] hN (by kernel_rfl) (by kernel_rfl) (fun v=>False) (fun v tr zm nx h1 h2 h3 h4=>h1.elim) ?_
 show zDr x _ _
 rw[zGh]
 refine⟨x.nb,rfl,hb,?_⟩
 intro tr zm ht hz hmb hi
 refine JL.loopT Vk (fun k=>S1 x (nM x) (rcM x) k) (fun k=>nM x - k) (fun k=>k≤nM x) (id:=0) (b:=zgh) (l2:=l85.drop 5) (by kernel_rfl) (fun w=>zFx w) 0 (Nat.zero_le _) (zCj ht hz) hmb hi ?_
 have rest:∀ tr zm nx,atS (mOf 85) (zrT x (nM x) (rcM x)) tr zm→JL E85 B N (mOf 85) (l85.drop 5) tr zm nx (Q85 x):=by
  intro tr zm nx hat
  refine JL.preS Vk hat (vS (by kernel_rfl)) ?_
  refine JL.stp (n:=60) Vk rfl 2 (rOf 85) [1,4,5,8,9] [0,1] hN (by kernel_rfl) (by kernel_rfl) (fun v=>False) (fun v tr zm nx h1 h2 h3 h4=>h1.elim) ?_
  show zDu x (nM x) (rcM x) _ _
  rw[zGm]
  intro tr zm ht hz hmb hi
  show JL E85 B N (mOf 85) ((l85.drop 5).drop 2) tr zm 2 (Q85 x)
  rw[List.drop_drop]
  refine JL.loopT Vk (fun k=>S2 x (nM x) (rcM x) (slM x) k) (fun k=>zq (nM x) - k) (fun k=>k≤zq (nM x)) (id:=2) (b:=zgi) (l2:=l85.drop 8) (by kernel_rfl) (fun w=>zCi w) 0 (Nat.zero_le _) (zAf ht hz) hmb hi ?_
  intro k hk
  have hW:∀(W:KV→Prop) (e:Prop),(k < zq (nM x)→W (nI (slM x k)))→(¬ k < zq (nM x)→e)→h85 x (nM x) k W e:=by
   intro W e h1 h2
   refine⟨hn,zo.2 ⟨fun q=>?_,fun q=>h2 ((bf xo).1 q)⟩⟩
   have h3:=h1 (xo.1 q)
   unfold slM at h3
   refine zo.2 ⟨fun q2=>?_,fun q2=>?_⟩
   ·rw[if_pos (xo.1 q2)] at h3
    exact ze.2 ⟨vm.2 (xo.1 q2),ze.2 ⟨xB.2 (by omega),h3⟩⟩
   ·rw[if_neg ((bf xo).1 q2)] at h3
    exact h3
  cases k with
  | zero =>
   refine JL.all (n:=60) Vk rfl (rOf 85) [1,4,5,8,9] [0,1,3] hN (by kernel_rfl) (by kernel_rfl) (fun v=>False) (fun v tr zm nx h1 h2 h3 h4=>h1.elim) ?_
   show zDw x (nM x) (rcM x) _ _
   rw[zGq]
   refine hW _ _ (fun _=>?_) fun q=>absurd ht1 (by omega)
   intro tr zm ht hz hmb hi
   exact⟨1,by omega,ht1,zu7 rfl ht hz⟩
  | succ k =>
   refine JL.all (n:=60) Vk rfl (rOf 85) [1,4,5,8,9] [0,1,2,4] hN (by kernel_rfl) (by kernel_rfl) (fun v=>False) (fun v tr zm nx h1 h2 h3 h4=>h1.elim) ?_
   show zDv x (nM x) k (rcM x) (slM x) _ _
   rw[zGo]
   refine hW _ _ (fun q=>?_) fun q=>?_
   ·refine ze.2 ⟨Nat.ble_eq_true_of_le (by omega),ze.2 ⟨xB.2 (by show k + 1 + 1 < _; omega),?_⟩⟩
    intro tr zm ht hz hmb hi
    exact⟨k + 2,by omega,by omega,zu8 rfl ht hz⟩
   ·intro tr zm ht hz hmb hi
    show (if (2:Nat)=2 then JL E85 B N (mOf 85) (l85.drop 8) tr zm 3 (Q85 x) else _)
    rw[if_pos rfl]
    have hkm:zq (nM x)=Nat.succ k:=by show _=k + 1; omega
    refine JL.preS Vk (zAg ht hz) (vS (by kernel_rfl)) ?_
    have:=JL.goR (B:=B) (N:=N) (mask:=mOf 85) (l1:=l85.drop 8) (l2:=[]) (Q:=Q85 x) (n:=60) Vk rfl (rOf 85) [] [1,2] (lt0:=(zaa x (nM x) k (rcM x) (slM x)).1) (lz0:=(zaa x (nM x) k (rcM x) (slM x)).2.1) (n0:=3) hN (by kernel_rfl) (by kernel_rfl) ?_
    ·rwa [List.append_nil] at this
    ·show zDx x (nM x) k (rcM x) (slM x) _ _
     rw[zGr]
     intro tr zm hz hmb hi hr
     have h1:kb zm 1=some (vR (rcM x) (nM x)):=congrArg (fun l=>l.getD 0 none) hz
     have h2:kb zm 2=some (Zs (slM x) (Nat.succ k)):=congrArg (fun l=>l.getD 1 none) hz
     unfold Q85 resM
     rw[hkm]
     exact retJ.mk rfl zFv (FzP.tup (FzP.cons (FzP.row h1 rfl rfl fun i hi=>Z1 rfl (w8 _)) (FzP.cons (FzP.row h2 rfl rfl fun i hi=>Z1 rfl rfl) (FzP.noref rfl)))) hr
 intro k hk
 have hW:∀(W:KV→Prop) (e:Prop),(k < nM x→∀ X:KV,Imp X.v (rcM x k).k.v→W X)→(¬ k < nM x→e)→g85 x (nM x) k W e:=by
  intro W e h1 h2
  refine zo.2 ⟨fun q=>?_,fun q=>h2 ((bf xo).1 q)⟩
  have h3:=h1 (xo.1 q)
  refine zo.2 ⟨fun q2=>?_,fun q2=>h3 _ (zxf ((bf xo).1 q2))⟩
  have q3:=xo.1 q2
  refine ze.2 ⟨vm.2 q3,ze.2 ⟨vm.2 q3,(x.pp (Nat.add 0 k) 0,x.pp (Nat.add 0 k) 1),rfl,trivial,h3 _ ?_⟩⟩
  unfold rcM
  rw[if_pos q3]; exact Imp.refl _
 cases k with
 | zero =>
  refine JL.all (n:=60) Vk rfl (rOf 85) [1,4,5,6] [0,3] hN (by kernel_rfl) (by kernel_rfl) (fun v=>False) (fun v tr zm nx h1 h2 h3 h4=>h1.elim) ?_
  show zDt x (nM x) _ _
  rw[zGl]
  refine hW _ _ (fun _ X hX=>?_) fun q=>absurd n1 (by omega)
  intro tr zm ht hz hmb hi
  exact⟨1,by omega,n1,zxj hX ht hz⟩
 | succ k =>
  refine JL.all (n:=60) Vk rfl (rOf 85) [1,4,5,6] [0,1,4] hN (by kernel_rfl) (by kernel_rfl) (fun v=>False) (fun v tr zm nx h1 h2 h3 h4=>h1.elim) ?_
  show zDs x (nM x) k (rcM x) _ _
  rw[zGj]
  refine hW _ _ (fun q X hX=>?_) fun q=>?_
  ·refine ze.2 ⟨Nat.ble_eq_true_of_le (by omega),ze.2 ⟨xB.2 (by show k + 1 + 1 < _; omega),?_⟩⟩
   intro tr zm ht hz hmb hi
   exact⟨k + 2,by omega,by omega,zxk hX ht hz⟩
  ·intro tr zm ht hz hmb hi
   show (if (0:Nat)=0 then JL E85 B N (mOf 85) (l85.drop 5) tr zm 2 (Q85 x) else _)
   rw[if_pos rfl]
   have hkm:Nat.succ k=nM x:=by show k + 1=_; omega
   rw[hkm] at ht hz
   exact rest tr zm 2 (zCk ht hz)
end
noncomputable def sOf:zg:=v3 (fun x:Md=>[x.k]) (fun x=>x.nb < 256) resM
theorem kOf:KCS Tryz.prog 85 sOf:=qs ⟨Tryz.f85,Tryz.func85,by kernel_rfl,by kernel_rfl⟩ fun x h=>j85 h
end
end Go.K
set_option maxRecDepth 100000
namespace Go.K
open Go.Ab Go.RowKit Go.Y Go.Proofs
noncomputable section
attribute [local instance 10000] gO
noncomputable def zCP (n:Nat):KBlk:=⟨.box 4,.arr n .sc,.ar n (.bool false) .te⟩
noncomputable def v61 (n m:Nat):KV:=.cons (.row 1 xv n) (.cons (.sl 2 [] .sc 0 n (some n)) (.cons (.row 3 .sc m) .nl))
noncomputable def r61 (n m:Nat) (rc:Nat→Rc) (f:Nat→Nat) (Q:QT) (R:RT):Prop:=pc EO0 61 (fl (cOf 61)) [] [1,2,3] (vy (mOf 61) 0 [jN n rc,qU m f],[],0) Q R
theorem e61 (n m:Nat) (rc:Nat→Rc) (f:Nat→Nat) (Q:QT) (R:RT):r61 n m rc f Q R=cnd (apB 0 n) (cnd (mkB (.ofNat n) (.ofNat n)) (cnd (apB 0 m) (R (v61 n m) [some (vR rc n),some (zCP n),some (Zs f m)] 4))):=by kernel_rfl
attribute [local irreducible] kpre cOf mOf rOf JL zu zi hS zq zQ jP
theorem zFS:Tryz.f61.ntmps=13:=by kernel_rfl
theorem zFT:Tryz.f61.results.toList=rOf 61:=by kernel_rfl
theorem j61 {n m:Nat}{rc:Nat→Rc}{f:Nat→Nat}(hn:n≤24) (hm:m≤9):JFn Tryz.prog 61 false [jN n rc,qU m f] (uK n m ⟨rc,fun _=>false,f⟩):=by
 refine JFn.of (P:=Tryz.prog) xA rfl (c:=cOf 61) (mOf 61) Tryz.func61 (by kernel_rfl) fun B N hN=>?_
 rw[zFS] at hN
 have:=JL.goR (B:=B) (N:=N) (mask:=mOf 61) (l1:=fl (cOf 61)) (l2:=[]) (Q:=retJ EO0 Tryz.f61 false (uK n m ⟨rc,fun _=>false,f⟩)) (n:=60) xA rfl (rOf 61) [] [1,2,3] (lt0:=vy (mOf 61) 0 [jN n rc,qU m f]) (lz0:=[]) (n0:=0) hN (by kernel_rfl) (by kernel_rfl) ?_
 ·rwa [List.append_nil] at this
 ·show r61 n m rc f _ _
  rw[e61]
  have q1:leI 0 (.ofNat n)=true:=wA (a:=0).2 (Nat.zero_le _)
  have q2:leI (.ofNat n) (.ofNat n)=true:=wA.2 (Nat.le_refl _)
  have q3:leI (.ofNat n) 16777216=true:=wA (b:=16777216).2 (by omega)
  refine ze.2 ⟨Nat.ble_eq_true_of_le (by omega),ze.2 ⟨by unfold mkB; rw[q1,q2,q3]; rfl,ze.2 ⟨Nat.ble_eq_true_of_le (by omega),?_⟩⟩⟩
  intro tr zm hz hmb hi hr
  have h1:kb zm 1=some (vR rc n):=congrArg (fun l=>l.getD 0 none) hz
  have h2:kb zm 2=some (zCP n):=congrArg (fun l=>l.getD 1 none) hz
  have h3:kb zm 3=some (Zs f m):=congrArg (fun l=>l.getD 2 none) hz
  exact retJ.mk rfl zFT (FzP.cons (FzP.row h1 rfl rfl fun i hi=>Z1 rfl (w8 _)) (FzP.cons (FzP.sl h2 rfl rfl rfl fun i hi=>FzE.noref (x:=(KV.bool false).v) rfl) (FzP.cons (FzP.row h3 rfl rfl fun i hi=>Z1 rfl rfl) (FzP.noref rfl)))) hr
noncomputable def zCQ:zg:=v3 (fun x:Nat×Nat×(Nat→Rc)×(Nat→Nat)=>[jN x.1 x.2.2.1,qU x.2.1 x.2.2.2]) (fun x=>x.1≤24∧x.2.1≤9) fun x=>uK x.1 x.2.1 ⟨x.2.2.1,fun _=>false,x.2.2.2⟩
theorem zFU:KCS Tryz.prog 61 zCQ:=qs ⟨Tryz.f61,Tryz.func61,by kernel_rfl,by kernel_rfl⟩ fun x h=>j61 h.1 h.2
end
end Go.K
set_option maxRecDepth 100000
namespace Go.K
open Go.Ab Go.RowKit Go.Y Go.Proofs
noncomputable section
attribute [local instance 10000] gO
structure Sd where
 t:Md
 c:Nat
 sp:Nat→Nat→Nat
noncomputable def shS:Shape:=.cons shM (.cons .sc .nl)
noncomputable def Sd.k (x:Sd):KV:=.cons x.t.k (.cons (roK (.arr 2 .sc) x.c fun i=>.fa 2 fun j=>kU8 (x.sp i j)) .nl)
noncomputable def zS (x:Sd):KBlk:=bx 27 shS x.k
noncomputable def E15:KEnv:=EO0.tab [(85,sOf),(61,zCQ),(86,zBJ),(38,zAy),(87,zB8),(17,zw8)]
theorem zfT:KOk E15:=xA.tab ⟨kOf,zFU,zE4,zEw,zFn,zB7,trivial⟩
noncomputable def l15:List Code:=fl (cOf 15)
noncomputable def b15:Code:=lpB (blB (l15.getD 4 .skip))
noncomputable def pS:KV:=.ptr 0 [] shS
noncomputable def zR:KBlk:=bx 33 shU (.cons .nils (.cons .nils (.cons .nils .nl)))
noncomputable def s15 (x:Sd) (n k:Nat) (rc:Nat→Rc) (u:Ud) (i:Nat):LS:=([(1,pS),(2,.ptr 1 [] shU),(3,jN n rc),(5,.ptr 2 [] shU),(6,nI i)],[(0,zS x),(1,zR),(2,zU n (Nat.succ k) u)],3)
noncomputable def zBg (x:Sd) (Q:QT) (R:zj):Prop:=pc E15 15 (l15.take 4) [1,2,3,5,6] [0,1,2] (vy (mOf 15) 0 [x.k],[],0) Q fun v _ _=>R v
theorem zEP (x:Sd) (Q:QT) (R:zj):zBg x Q R=(∃ a:Md,[x.t.k]=[a.k]∧a.nb < 256∧∃ y:Nat×Nat×(Nat→Rc)×(Nat→Nat),[jN (nM a) (rcM a),qU (zq (nM a)) (slM a)]=[jN y.1 y.2.2.1,qU y.2.1 y.2.2.2]∧(y.1≤24∧y.2.1≤9)∧Q .normal [pS,.ptr 1 [] shU,jN (nM a) (rcM a),.ptr 2 [] shU,nI 0] [some (zS x),some zR,some (bx 33 shU (uK y.1 y.2.1 ⟨y.2.2.1,fun _=>false,y.2.2.2⟩))] 3):=by kernel_rfl
noncomputable def sp0 (x:Sd) (i j:Nat):Nat:=x.sp (Nat.add 0 i) j
noncomputable def v15 (n:Nat) (rc:Nat→Rc) (i:Nat):List KV:=[pS,.ptr 1 [] shU,jN n rc,.ptr 2 [] shU,nI i]
noncomputable def n15 (x:Sd) (n:Nat) (rc:Nat→Rc) (i:Nat) (Q:QT) (w:KV):Prop:=cnd (b63 (Nat.add i 1)) (Q .normal (v15 n rc (Nat.add i 1)) [some (zS x),some zR,some (bx 33 shU w)] 3)
noncomputable def zBh (x:Sd) (n k:Nat) (rc:Nat→Rc) (u:Ud) (i:Nat) (Q:QT) (R:zj):Prop:=pc E15 15 (fl b15) [1,2,3,5,6] [0,1,2] (s15 x n k rc u i) Q fun v _ _=>R v
abbrev P7:=Nat×Nat×Ud×Nat×Nat×Nat×List Nat
noncomputable def f15 (x:Sd) (n k:Nat) (rc:Nat→Rc) (u:Ud) (i:Nat) (Q:QT) (W:KV→Prop) (e:Prop):Prop :=
 alt (ltN i x.c) (alt (ltN i 20) (cnd (ixB (.ofNat i) x.c) (alt (leN 250 (sp0 x i 0)) (∃ y:Nat×Nat×Ud,[uK n (Nat.succ k) u]=[uK y.1 (Nat.succ y.2.1) y.2.2]∧UOk y.1 (Nat.succ y.2.1) y.2.2∧W (uK y.1 (Nat.succ y.2.1) (YO y.1 y.2.1 y.2.2)))
  (cnd (ixB (.ofNat i) x.c) (cnd (b63 (sp0 x i 0)) (cnd (neB (.ofNat n)) (cnd (ixB (.ofNat i) x.c) (∃ a:Nat,[kU8 (sp0 x i 1)]=[kU8 a]∧True∧cnd (ixB (.ofNat i) x.c) (∃ d:Nat,[kU8 (sp0 x i 1)]=[kU8 d]∧True ∧
   ∃ y:P7,[uK n (Nat.succ k) u,nI (sp0 x i 0 % n),.cons (yH (noA a)) (.cons (YA (noC a)) .nl),kBy 32 (nN (dsL d))]=znQ y.1 y.2.1 y.2.2.1 y.2.2.2.1 y.2.2.2.2.1 y.2.2.2.2.2.1 y.2.2.2.2.2.2∧(y.1≤24∧y.2.1≤9∧y.2.2.2.1 < y.1∧(y.2.2.1.rc y.2.2.2.1).st≤2)∧W (uK y.1 y.2.1 (zbl y.2.2.1 y.2.2.2.1 (Vh y.2.2.1 y.2.2.2.1 y.2.2.2.2.1 y.2.2.2.2.2.1 y.2.2.2.2.2.2))))))))))) e) e
theorem zEQ (x:Sd) (n k:Nat) (rc:Nat→Rc) (u:Ud) (i:Nat) (Q:QT) (R:zj):zBh x n k rc u i Q R=f15 x n k rc u i Q (n15 x n rc i Q) (Q (.exit 0) (v15 n rc i) [some (zS x),some zR,some (zU n (Nat.succ k) u)] 3):=by kernel_rfl
noncomputable def zAm (x:Sd) (n k:Nat) (rc:Nat→Rc) (u:Ud) (i:Nat) (Q:QT) (R:RT):Prop:=pc E15 15 (l15.drop 5) [] [] (s15 x n k rc u i) Q R
theorem zEm (x:Sd) (n k:Nat) (rc:Nat→Rc) (u:Ud) (i:Nat) (Q:QT) (R:RT):zAm x n k rc u i Q R=R (uK n (Nat.succ k) u) [] 3:=by kernel_rfl
noncomputable def uAt (x:Sd) (n k:Nat):Nat→Ud
 | 0=>⟨rcM x.t,fun _=>false,slM x.t⟩
 | i + 1=>if 250≤x.sp i 0 then YO n k (uAt x n k i) else zbl (uAt x n k i) (x.sp i 0 % n) (Vh (uAt x n k i) (x.sp i 0 % n) (noA (x.sp i 1)) (noC (x.sp i 1)) (dsL (x.sp i 1)))
theorem zcw {x:Sd}{n k:Nat}(h:UOk n (Nat.succ k) ⟨rcM x.t,fun _=>false,slM x.t⟩):∀ i,UOk n (Nat.succ k) (uAt x n k i)
 | 0=>h
 | i + 1=>by
  have ih:=zcw h i
  obtain⟨n1,n2⟩:=xc ih.n24
  show UOk n (Nat.succ k) (if 250≤x.sp i 0 then YO n k (uAt x n k i) else zbl (uAt x n k i) (x.sp i 0 % n) (Vh (uAt x n k i) (x.sp i 0 % n) (noA (x.sp i 1)) (noC (x.sp i 1)) (dsL (x.sp i 1))))
  split
  ·exact zwI ih
  ·exact zwJ ih (Nat.mod_lt _ (by omega)) (Nat.mod_lt _ (by omega)) (Nat.mod_lt _ (by omega)) (zeP _) (zls _)
attribute [local irreducible] kpre cOf mOf rOf JL zu l15 b15 zi hS zq zQ jP Xc
theorem zGd:Tryz.f15.ntmps=63:=by kernel_rfl
theorem zGe:Tryz.f15.results.toList=rOf 15:=by kernel_rfl
theorem zGf:fl (cOf 15)=l15:=by kernel_rfl
theorem kbS (x:Sd):xQ 0 (zS x).v=true:=by kernel_rfl
theorem kbR:xQ 0 zR.v=true:=by kernel_rfl
theorem zyF {x:Sd}{n k i:Nat}{rc:Nat→Rc}{u:Ud}{tr:KTm}{zm:KZ}(ht:[1,2,3,5,6].map (zp tr)=v15 n rc i) (hz:[0,1,2].map (kb zm)=[some (zS x),some zR,some (zU n (Nat.succ k) u)]):atS (mOf 15) (s15 x n k rc u i) tr zm :=
 atS.of (s:=s15 x n k rc u i) [] id ht hz (by kernel_rfl) ⟨vc (ltk rfl),vc (ltk rfl),zC _ rfl,vc (ltk rfl),zC _ rfl,trivial⟩ ⟨RnK.nf (kbS x),RnK.nf kbR,RnK.nf (kbU _ _ _),trivial⟩
theorem zbB {x:Md}(hb:x.nb < 256):UOk (nM x) (zq (nM x)) ⟨rcM x,fun _=>false,slM x⟩:=by
 have hn:zT (nM x)=true:=by
  unfold zT
  rw[za]
  exact⟨Nat.ble_eq_true_of_le (by show 1≤1 + x.nb % 24; omega),Nat.ble_eq_true_of_le (by show 1 + x.nb % 24≤24; omega)⟩
 have hr:∀ i,(rcM x i).tg.length=32∧(rcM x i).wb∧(rcM x i).st≤2:=fun i=>by
  unfold rcM
  split
  ·exact zqZ _ _
  ·exact⟨rfl,Yx,Nat.zero_le _⟩
 exact⟨hn,rfl,fun i _=>(hr i).1,fun i _=>(hr i).2.1,fun i _=>by
  show slM x i≤1
  unfold slM
  split<;>omega,fun i _=>(hr i).2.2⟩
theorem FzP.ub {zm:KZ}{v:KV}(h:ubK v=true):FzP true zm v v:=fun B C M _ _=>R.allT_fr h
theorem zyG (x:Sd) (i j:Nat):sp0 x i j=x.sp i j:=congrArg (fun q=>x.sp q j) (qv i)
theorem zyH {n:Nat}{f:Nat→KV}(h:∀ i,ubK (f i)=true):ubK (.fa n f)=true:=XJ.2 h
theorem zyI (x:Rc):ubK x.k=true:=by kernel_rfl
theorem zdq {s:Shape}{n:Nat}{f:Nat→KV}(h:∀ i,ubK (f i)=true):ubK (roK s n f)=true:=by
 show nd true (ubK (.fa n f))=true
 rw[zyH h]; rfl
theorem zDo (n m:Nat) (u:Ud):ubK (uK n m u)=true:=by
 show nd (ubK (roK xv n fun i=>(u.rc i).k)) (nd (ubK (roK .sc n fun i=>.bool (u.ch i))) (nd (ubK (roK .sc m fun i=>nI (u.sl i))) true))=true
 rw[zdq fun i=>zyI _,zdq fun i=>rfl,zdq fun i=>rfl]; rfl
theorem zDp (x:Sd) (n k:Nat) (rc:Nat→Rc) (u:Ud) (i:Nat):nd (ltL (s15 x n k rc u i).2.2 (s15 x n k rc u i).2.1) (jE (mOf 15) (s15 x n k rc u i).1)=true:=by kernel_rfl
section
variable {x:Sd}{B N:Nat}
noncomputable abbrev Q15 (n m:Nat) (u:Ud):K4:=retJ E15 Tryz.f15 true (uK n m u)
theorem j15 (hb:x.t.nb < 256) (hp:∀ i j,x.sp i j < 256):JFn Tryz.prog 15 true [x.k] (uK (nM x.t) (zq (nM x.t)) (uAt x (nM x.t) (zq (nM x.t) - 1) (min x.c 20))):=by
 have H0:=zbB hb
 obtain⟨k,hk⟩:∃ k,zq (nM x.t)=Nat.succ k:=⟨zi (nM x.t) (hS (nM x.t)) 0,by unfold zq; rfl⟩
 have h9:=yD H0.n24
 obtain⟨n1,n2⟩:=xc H0.n24
 rw[hk] at H0
 have hkk:zq (nM x.t) - 1=k:=by omega
 rw[hkk,hk]
 rw[hk] at h9
 have hOk:=fun i=>zcw H0 i
 refine JFn.of (P:=Tryz.prog) zfT rfl (c:=cOf 15) (mOf 15) Tryz.func15 (by kernel_rfl) fun B N hN=>?_
 rw[zGd] at hN
 rw[zGf]
 refine JL.stp (n:=60) (s:=(vy (mOf 15) 0 [x.k],[],0)) zfT rfl 4 (rOf 15) [1,2,3,5,6] [0,1,2] hN (by kernel_rfl) (by kernel_rfl) (fun v=>False) (fun v tr zm nx h1 h2 h3 h4=>h1.elim) ?_
 show zBg x _ _
 rw[zEP]
 refine⟨x.t,rfl,hb,(nM x.t,zq (nM x.t),rcM x.t,slM x.t),rfl,⟨n2,by show zq (nM x.t)≤9; omega⟩,?_⟩
 intro tr zm ht hz hmb hi
 have hz':[0,1,2].map (kb zm)=[some (zS x),some zR,some (zU (nM x.t) (Nat.succ k) (uAt x (nM x.t) k 0))]:=by rw[←hk]; exact hz
 refine JL.loopT zfT (fun i=>s15 x (nM x.t) k (rcM x.t) (uAt x (nM x.t) k i) i) (fun i=>20 - i) (fun i=>i≤min x.c 20) (id:=0) (b:=b15) (l2:=l15.drop 5) (by kernel_rfl) (fun i=>zDp _ _ _ _ _ _) 0 (Nat.zero_le _) (zyF ht hz') hmb hi ?_
 intro i hi
 refine JL.all (n:=60) zfT rfl (rOf 15) [1,2,3,5,6] [0,1,2] hN (by kernel_rfl) (zDp _ _ _ _ _ _) (fun v=>False) (fun v tr zm nx h1 h2 h3 h4=>h1.elim) ?_
 show zBh x (nM x.t) k (rcM x.t) (uAt x (nM x.t) k i) i _ _
 rw[zEQ]
 have hO:=hOk i
 have hsp:=zyG x i
 have hp0:=hp i 0
 have hp1:=hp i 1
 have leN_t:∀ {a b:Nat},leN a b=true↔a≤b:=wA
 have next:∀ w,i < x.c→i < 20→w=uK (nM x.t) (Nat.succ k) (uAt x (nM x.t) k (i + 1))→n15 x (nM x.t) (rcM x.t) i (goQ (mOf 15) [1,2,3,5,6] [0,1,2] fun e tr zm nx=>match e with
   | .normal=>∃ s',20 - s' < 20 - i∧s'≤min x.c 20∧atS (mOf 15) (s15 x (nM x.t) k (rcM x.t) (uAt x (nM x.t) k s') s') tr zm
   | .exit i=>if i=0 then JL E15 B N (mOf 15) (l15.drop 5) tr zm nx (Q15 (nM x.t) (Nat.succ k) (uAt x (nM x.t) k (min x.c 20))) else Q15 (nM x.t) (Nat.succ k) (uAt x (nM x.t) k (min x.c 20)) (.exit i) tr zm nx
   | e=>Q15 (nM x.t) (Nat.succ k) (uAt x (nM x.t) k (min x.c 20)) e tr zm nx) w:=by
  rintro w h1 h2 rfl
  refine ze.2 ⟨xB.2 (by show i + 1 < _; omega),?_⟩
  intro tr zm ht hz hmb hi
  exact⟨i + 1,by omega,by omega,zyF ht hz⟩
 have out:min x.c 20=i→(goQ (mOf 15) [1,2,3,5,6] [0,1,2] fun e tr zm nx=>match e with
   | .normal=>∃ s',20 - s' < 20 - i∧s'≤min x.c 20∧atS (mOf 15) (s15 x (nM x.t) k (rcM x.t) (uAt x (nM x.t) k s') s') tr zm
   | .exit i=>if i=0 then JL E15 B N (mOf 15) (l15.drop 5) tr zm nx (Q15 (nM x.t) (Nat.succ k) (uAt x (nM x.t) k (min x.c 20))) else Q15 (nM x.t) (Nat.succ k) (uAt x (nM x.t) k (min x.c 20)) (.exit i) tr zm nx
   | e=>Q15 (nM x.t) (Nat.succ k) (uAt x (nM x.t) k (min x.c 20)) e tr zm nx) (.exit 0) (v15 (nM x.t) (rcM x.t) i) [some (zS x),some zR,some (zU (nM x.t) (Nat.succ k) (uAt x (nM x.t) k i))] 3:=by
  intro h1
  intro tr zm ht hz hmb hi
  show (if (0:Nat)=0 then JL E15 B N (mOf 15) (l15.drop 5) tr zm 3 _ else _)
  rw[if_pos rfl,h1]
  refine JL.preS zfT (zyF ht hz) (vS (by kernel_rfl)) ?_
  have:=JL.goR (B:=B) (N:=N) (mask:=mOf 15) (l1:=l15.drop 5) (l2:=[]) (Q:=Q15 (nM x.t) (Nat.succ k) (uAt x (nM x.t) k i)) (n:=60) zfT rfl (rOf 15) [] [] (lt0:=(s15 x (nM x.t) k (rcM x.t) (uAt x (nM x.t) k i) i).1) (lz0:=(s15 x (nM x.t) k (rcM x.t) (uAt x (nM x.t) k i) i).2.1) (n0:=3) hN (by kernel_rfl) (by kernel_rfl) ?_
  ·rwa [List.append_nil] at this
  ·show zAm x (nM x.t) k (rcM x.t) (uAt x (nM x.t) k i) i _ _
   rw[zEm]
   intro tr zm hz hmb hi hr
   exact retJ.mk rfl zGe (FzP.ub (zDo _ _ _)) hr
 unfold f15
 simp only[hsp]
 refine zo.2 ⟨fun q=>?_,fun q=>out (by have:=(bf xo).1 q; omega)⟩
 have q1:=xo.1 q
 refine zo.2 ⟨fun q2=>?_,fun q2=>out (by have:=(bf xo).1 q2; omega)⟩
 have q3:=xo.1 q2
 refine ze.2 ⟨vm.2 q1,zo.2 ⟨fun q4=>?_,fun q4=>?_⟩⟩
 ·refine⟨(nM x.t,k,uAt x (nM x.t) k i),rfl,hO,next _ q1 q3 ?_⟩
  show uK _ _ (YO (nM x.t) k (uAt x (nM x.t) k i))=uK _ _ (if 250≤x.sp i 0 then YO (nM x.t) k (uAt x (nM x.t) k i) else _)
  rw[if_pos (leN_t.1 q4)]
 ·have hlt:x.sp i 0 % nM x.t < nM x.t:=Nat.mod_lt _ (by omega)
  refine ze.2 ⟨vm.2 q1,ze.2 ⟨xB.2 (by omega),ze.2 ⟨?_,ze.2 ⟨vm.2 q1,x.sp i 1,rfl,trivial,ze.2 ⟨vm.2 q1,x.sp i 1,rfl,trivial,(nM x.t,Nat.succ k,uAt x (nM x.t) k i,x.sp i 0 % nM x.t,noA (x.sp i 1),noC (x.sp i 1),dsL (x.sp i 1)),rfl,⟨n2,by show Nat.succ k≤9; omega,hlt,hO.st _ hlt⟩,next _ q1 q3 ?_⟩⟩⟩⟩⟩
  ·unfold neB
   rw[jx]
   have:¬ (Int.ofNat (nM x.t)=0):=fun h=>by have:nM x.t=0:=Int.ofNat.inj h; omega
   simp
   omega
  ·show uK _ _ (zbl _ _ _)=uK _ _ (if 250≤x.sp i 0 then _ else _)
   rw[if_neg ((bf leN_t).1 q4)]
end
noncomputable def preS (x:Sd):Prop:=x.t.nb < 256∧∀ i j,x.sp i j < 256
noncomputable def zgg (x:Sd):Ud:=uAt x (nM x.t) (zq (nM x.t) - 1) (min x.c 20)
noncomputable def zGg:zg:=v3 (fun x:Sd=>[x.k]) preS fun x=>uK (nM x.t) (zq (nM x.t)) (zgg x)
theorem zDq:Qv Tryz.prog 15 zGg:=zo2 ⟨Tryz.f15,Tryz.func15,by kernel_rfl,by kernel_rfl⟩ fun x h=>j15 h.1 h.2
theorem zrR {x:Sd}(h:preS x):UOk (nM x.t) (zq (nM x.t)) (zgg x):=by
 obtain⟨k,hk⟩:∃ k,zq (nM x.t)=Nat.succ k:=⟨zi (nM x.t) (hS (nM x.t)) 0,by unfold zq; rfl⟩
 have H0:=zbB h.1
 unfold zgg
 rw[hk] at H0 ⊢
 exact zcw H0 _
end
end Go.K
set_option maxRecDepth 100000
namespace Go.K
open Go.Ab Go.RowKit Go.Y Go.Proofs
noncomputable section
attribute [local instance 10000] gO
noncomputable def la4 (l:List KV) (f:KV→KV→KV→KV→Prop):Prop:=match l with
 | [a,b,c,d]=>f a b c d
 | _=>False
theorem zBi {l:List KV}{f:KV→KV→KV→KV→Prop}(h:la4 l f):∃ a b c d,l=[a,b,c,d]∧f a b c d:=by
 unfold la4 at h
 split at h
 ·exact⟨_,_,_,_,rfl,h⟩
 ·exact h.elim
noncomputable def zsX (x:Sd) (n:Nat) (u:Ud):zg:=fun l K=>l=[x.k]∧K (uK n (zq n) u)
noncomputable def zsY (n:Nat) (u:Ud):zg:=fun l K=>l=[uK n (zq n) u]∧K (zcx n (zq n) u)
noncomputable def zsZ (n:Nat) (u:Ud):zg:=fun l K=>la3 l fun a b c=>jg b fun i=>jg c fun j=>a=uK n (zq n) u∧cnd (isS n i j) (K (.bool (Vi n u i j)))
noncomputable def zs0 (n:Nat) (u:Ud) (F:Nat→Nat→Nd):zg:=fun l K=>la4 l fun a b c d=>jg c fun i=>jg d fun j=>[a,b]=[jN n u.rc,zcx n (zq n) u]∧cnd (isS n i j) (K (F i j).k)
noncomputable def zBj:zg:=fun l K=>la1 l fun a=>jg a fun n=>cnd (zT n) (K (nI (hS n)))
noncomputable def zs1:zg:=fun l K=>la2 l fun a b=>jg a fun n=>jg b fun l=>cnd (nd (zT n) (Nat.ble l 2)) (K (nI (zQ n l)))
noncomputable def Z7 (n:Nat) (u:Ud):Nat→Nat→Nd:=qc n u.rc (xR n u)
theorem zER:KCS Tryz.prog 28 zBj:=⟨kHt.1,fun l K h=>kHt.2 l K (by
 obtain⟨a,rfl,h1⟩:=wO h
 obtain⟨n,rfl,h2⟩:=xz h1
 obtain⟨h3,h4⟩:=ze.1 h2
 exact⟨h3,h4⟩)⟩
theorem zBl:KCS Tryz.prog 81 zs1:=⟨zrQ.1,fun l K h=>zrQ.2 l K (by
 obtain⟨a,b,rfl,h1⟩:=X4 h
 obtain⟨n,rfl,h2⟩:=xz h1
 obtain⟨i,rfl,h2⟩:=xz h2
 obtain⟨h3,h4⟩:=ze.1 h2
 obtain⟨h5,h6⟩:=za.1 h3
 exact⟨⟨h5,Nat.le_of_ble_eq_true h6⟩,h4⟩)⟩
section
variable {x:Sd}{n:Nat}{u:Ud}
theorem zBm (h:preS x) (hn:nM x.t=n) (hu:zgg x=u):Qv Tryz.prog 15 (zsX x n u):=⟨zDq.1,fun l K hk=>zDq.2 l K (by
 obtain⟨rfl,hk⟩:=hk
 subst hn hu
 exact⟨x,rfl,h,hk⟩)⟩
theorem zBn (H:UOk n (zq n) u):KCS Tryz.prog 26 (zsY n u):=⟨zpO.1,fun l K hk=>zpO.2 l K (by
 obtain⟨rfl,hk⟩:=hk
 exact⟨(n,zq n,u),rfl,H,hk⟩)⟩
theorem zBo (H:UOk n (zq n) u):KCS Tryz.prog 88 (zsZ n u):=⟨zyN.1,fun l K hk=>zyN.2 l K (by
 obtain⟨a,b,c,rfl,h1⟩:=zeN hk
 obtain⟨i,rfl,h2⟩:=xz h1
 obtain⟨j,rfl,h0,h5⟩:=xz h2
 subst h0
 obtain⟨h3,h4⟩:=ze.1 h5
 exact⟨(n,zq n,u,i,j),rfl,⟨(xc H.n24).2,(xD H.n24 h3).1⟩,h4⟩)⟩
theorem zBp (H:UOk n (zq n) u):KCS Tryz.prog 44 (zs0 n u (Z7 n u)):=⟨zCV.1,fun l K hk=>zCV.2 l K (by
 obtain⟨a,b,c,d,rfl,h1⟩:=zBi hk
 obtain⟨i,rfl,h2⟩:=xz h1
 obtain⟨j,rfl,h0,h2⟩:=xz h2
 obtain⟨h3,h4⟩:=ze.1 h2
 cases h0
 exact⟨(n,zq n,u.rc,xR n u,i,j),rfl,⟨H.n24,rfl,fun i hi=>⟨H.wl i hi,H.wb i hi⟩,fun i hi=>zoh (H.sl i hi),Nat.lt_succ_of_le (xD H.n24 h3).1,h3⟩,h4⟩)⟩
end
noncomputable def ct5 (n:Nat) (u:Ud) (F:Nat→Nat→Nd) (s39 s18 s19 s32:zg):List (Nat×zg):=[(26,zsY n u),(88,zsZ n u),(44,zs0 n u F),(28,zBj),(81,zs1),(39,s39),(22,xL [] (.bool true)),(18,s18),(19,s19),(32,s32)]
noncomputable def E5 (x:Sd) (n:Nat) (u:Ud) (F:Nat→Nat→Nd) (s39 s18 s19 s32:zg):KEnv:=(EO0.tab (ct5 n u F s39 s18 s19 s32)).tabB [(15,zsX x n u)]
theorem ok5 {x:Sd}{n:Nat}{u:Ud}{s39 s18 s19 s32:zg}(h:preS x) (hn:nM x.t=n) (hu:zgg x=u) (H:UOk n (zq n) u) (h22:KCS Tryz.prog 22 (xL [] (.bool true))) (h39:KCS Tryz.prog 39 s39) (h18:KCS Tryz.prog 18 s18) (h19:KCS Tryz.prog 19 s19) (h32:KCS Tryz.prog 32 s32):KOk (E5 x n u (Z7 n u) s39 s18 s19 s32):=KOk.tabB (xA.tab (l:=ct5 n u (Z7 n u) s39 s18 s19 s32) ⟨zBn H,zBo H,zBp H,zER,zBl,h39,h22,h18,h19,h32,trivial⟩) ⟨zBm h hn hu,trivial⟩
noncomputable def l5:List Code:=fl (cOf 5)
noncomputable def zK (y:Un) (b o c:Int):KV:=.cons y.k (.cons (.int .i64 b) (.cons (.int .u8 o) (.cons (.int .i64 c) .nl)))
noncomputable def a5 (x:Sd) (a:Nat) (y:Un) (b o c:Int):List KV:=[x.k,kU8 a,zK y b o c]
noncomputable def YM (C:Ctx):Ctx:={ C with ok:=fun _ b=>C.ok false b∨C.ok true b }
noncomputable def XO (l:List KV) (w:KV):zg:=fun l' K=>l'=l∧K w
theorem zeE {f:Nat}{s:zg}(hs:KCS Tryz.prog f s) {l l':List KV}{w:KV}(hlow:∀ C m,R C (mkL (l.map KV.v)) m→R (YM C) (mkL (l'.map KV.v)) m) (hid:xP (mkL (l'.map KV.v))=true) (hw:xl w.v=true) (hk:∀ K:KV→Prop,K w→s l' K):KCS Tryz.prog f (XO l w):=by
 refine⟨hs.1,fun q K hq=>?_⟩
 obtain⟨rfl,hK⟩:=hq
 obtain⟨v,hv,h2⟩:=hs.2 l' (fun v=>v=w) (hk _ rfl)
 subst hv
 have hc:xF Tryz.prog f { pre:=fun l''=>@decide (l''=q.map KV.v) (Classical.propDecidable _),res:=fun _=>v.v,fresh:=true }:=by
  refine⟨hs.1,fun C l'' vals hok hg hargs hpre=>?_⟩
  have hl:l''=q.map KV.v:=@of_decide_eq_true _ (Classical.propDecidable _) hpre
  subst hl
  have ha:R (YM C.pur) (mkL (l'.map KV.v)) (.list vals):=hlow C.pur _ hargs
  have hcall:=h2 C.w.heap.size (fun _=>none) 0 0 (l'.map KV.v) (fun D M vs _ _ hr=>R.keep (Keep.opened D _) _ _ (R.pure_of _ hid hr))
  have hz:GR C.w.heap.size 0 (YM C.pur) (fun _=>none) (fun _=>none) 0 :=
   ⟨⟨Nat.le_refl _,(fun u b h=>h.elim (hok _ _) (hok _ _)),(fun _ _ h=>(by cases h)),(fun _ _ h=>(by cases h)),(fun _ _ _ _ _ h=>(by cases h)),(fun _ _ _ h=>(by cases h)),fun g=>R.keep (C:=C.pur) (C':=(YM C.pur)) ⟨fun _ h=>h,fun _ _=>rfl,fun _ _=>rfl,fun u b h=>by
    cases u
    ·exact .inl h
    ·exact .inr h,fun _ _ _=>rfl⟩ _ _ (hg g)⟩,(fun id b hb=>(by cases hb)),fun _ _ _ h=>h⟩
  refine (hcall 0 (YM C.pur) (fun _=>none) vals (Nat.le_refl _) (Nat.le_refl _) hz ha).mono ?_
  rintro e w' ⟨val,he,C',M',hw',hR,_,hkk⟩
  subst hw'
  exact⟨hkk.kp.below,val,he,R.noref _ hw hR⟩
 refine⟨v,hK,fun B μ nx mx l0 hl0=>?_⟩
 exact vk (B:=B) (μ:=μ) (nx:=nx) (mx:=mx) xA.gn hc rfl hl0 (by rw[qO]; exact @decide_eq_true _ (Classical.propDecidable _) rfl)
noncomputable def shZ:Shape:=.cons Z4 (.cons .sc (.cons .sc (.cons .sc .nl)))
noncomputable def zfM (m:Nat) (c:Nat→KV):KBlk:=⟨.row 105,.arr m Z4,.fa m c⟩
noncomputable def Wr (n m r:Nat):KBlk:=bx 37 Z5 (.cons (nI n) (.cons (.row r Z4 m) .nl))
noncomputable def Zi (n m:Nat) (c:Nat→KV):KV:=.cons (nI n) (.cons (.ro false false Z4 0 m (.fa m c)) .nl)
noncomputable def s5B (n m:Nat) (c:Nat→Un) (a:Nat) (y:Un) (b o z:Int):LS:=([(1,kU8 a),(5,.ptr 0 [] shZ),(7,.ptr 1 [] Z5)],[(0,bx 107 shZ (zK y b o z)),(1,Wr n m 2),(2,zfM m fun i=>(c i).k)],3)
noncomputable def c5B (x:Sd) (n0:Nat) (u:Ud) (F:Nat→Nat→Nd) (s18 s19 s32:zg) (l:List KV) (n m:Nat) (c:Nat→Un) (a:Nat) (y:Un) (b o z:Int) (w:Nat) (Q:QT) (R:zj):Prop:=pc (E5 x n0 u F (XO l (nI w)) s18 s19 s32) 5 ((l5.drop 2).take 2) [7,8] [1,2] (s5B n m c a y b o z) Q fun v _ _=>R v
noncomputable def zfN:KV:=.ar 32 (kU8 0) .te
noncomputable def w5a (b:Nat):KV:=.tup (.cons .nils (.cons Xi (.cons (nI (Nat.succ b)) .nl)))
noncomputable def w5b (b:Nat):KV:=.tup (.cons .nils (.cons (nI (Nat.succ b)) .nl))
noncomputable def w5c (b:Nat):KV:=.tup (.cons (.cons (nI 0) (.cons .nils .nl)) (.cons (.cons (nI 0) (.cons .nils .nl)) (.cons (nI (Nat.succ b)) .nl)))
noncomputable def EC5 (x:Sd) (n0:Nat) (u:Ud) (F:Nat→Nat→Nd) (s39:zg) (t:KV) (b:Nat):KEnv:=E5 x n0 u F s39 (XO [t,Xi] (w5a b)) (XO [t] (w5b b)) (XO [t,J2,nI 0,Zr,zfN] (w5c b))
noncomputable def s5C (n m:Nat) (c:Nat→Un) (w:Nat):LS:=([(7,.ptr 0 [] Z5),(8,nI w)],[(0,Wr n m 1),(1,zfM m fun i=>(c i).k)],2)
noncomputable def c5Z (x:Sd) (n0:Nat) (u:Ud) (F:Nat→Nat→Nd) (s39 s18 s19 s32:zg) (n m:Nat) (c:Nat→Un) (Q:QT) (R:zj):Prop:=pc (E5 x n0 u F s39 s18 s19 s32) 5 (l5.drop 4) [] [] (s5C n m c 0) Q fun v _ _=>R v
noncomputable def c5S (x:Sd) (n0:Nat) (u:Ud) (F:Nat→Nat→Nd) (s39:zg) (t:KV) (n m:Nat) (c:Nat→Un) (b:Nat) (Q:QT) (R:zj):Prop:=pc (EC5 x n0 u F s39 t b) 5 (l5.drop 4) [] [] (s5C n m c (Nat.succ b)) Q fun v _ _=>R v
noncomputable def Ws (m:Nat) (g:Nat→KV):Bool:=nd (Wl m fun i=>xQ 0 (g i)) (Nat.ble m m)
noncomputable def zpX (m:Nat) (c:Nat→Un) (a:Nat) (y:Un) (j:Nat):KV:=ifN j (a % m) y.k (c j).k
theorem e5B (x:Sd) (n0:Nat) (u:Ud) (F:Nat→Nat→Nd) (s18 s19 s32:zg) (l:List KV) (n m:Nat) (c:Nat→Un) (a:Nat) (y:Un) (b o z:Int) (w:Nat) (Q:QT) (R:zj):c5B x n0 u F s18 s19 s32 l n m c a y b o z w Q R=cnd (b63 a) (cnd (neB (.ofNat m)) (cnd (ixB (.ofNat (a % m)) m) (alt (Ws m (zpX m c a y)) ([Zi n m (zpX m c a y)]=l∧Q .normal [.ptr 1 [] Z5,nI w] [some (Wr n m 2),some (zfM m (zpX m c a y))] 3) (BadN 221)))):=by kernel_rfl
theorem e5Z (x:Sd) (n0:Nat) (u:Ud) (F:Nat→Nat→Nd) (s39 s18 s19 s32:zg) (n m:Nat) (c:Nat→Un) (Q:QT) (R:zj):c5Z x n0 u F s39 s18 s19 s32 n m c Q R=R (.bool true):=by kernel_rfl
noncomputable def unK (c:Nat→Un) (i:Nat):KV:=(c i).k
theorem e5S (x:Sd) (n0:Nat) (u:Ud) (F:Nat→Nat→Nd) (s39:zg) (t:KV) (n m:Nat) (c:Nat→Un) (b:Nat) (Q:QT) (R:zj):c5S x n0 u F s39 t n m c b Q R =
  alt (Ws m (unK c)) ([Zi n m (unK c),Xi]=[t,Xi]∧alt (Ws m (unK c)) ([Zi n m (unK c)]=[t]∧alt (Ws m (unK c)) ([Zi n m (unK c),J2,nI 0,Zr,zfN]=[t,J2,nI 0,Zr,zfN] ∧
   alt (eqI (.ofNat (Nat.succ b)) (.ofNat (Nat.succ b))) (alt (eqI (.ofNat (Nat.succ b)) (.ofNat (Nat.succ b))) (alt (eqI (.ofNat (Nat.succ b)) (.ofNat (Nat.succ b))) (R (.bool true)) (R (.bool false))) (R (.bool false))) (R (.bool false))) (BadN 221)) (BadN 221)) (BadN 221):=by kernel_rfl
noncomputable def lvI (n k:Nat):Nat:=@Bool.rec (fun _=>Nat) (@Bool.rec (fun _=>Nat) 2 1 (Nat.blt k (zi n 2 0))) 0 (Nat.blt k (zi n 1 0))
noncomputable def ixI (n k:Nat):Nat:=Nat.sub k (zi n (lvI n k) 0)
noncomputable def chT (n:Nat) (u:Ud) (l j:Nat):KV:=@Nat.rec (fun _=>KV) .te (fun w t=>@Bool.rec (fun _=>KV) t (x6 (.bool (u.ch (Nat.add 0 (Nat.add (Nat.mul 4 j) w)))) (enc w) t) (nd (Nat.beq l 0) (Nat.blt (Nat.add (Nat.mul 4 j) w) n))) 4
noncomputable def zkt (n:Nat) (u:Ud) (F:Nat→Nat→Nd) (l j k:Nat):KV:=.cons (F l j).k (.cons (nI (u.sl (Nat.add 0 k))) (.cons (.bool (Vi n u l j)) (.cons (.ar 4 (.bool false) (chT n u l j)) .nl)))
noncomputable def zFa:KV:=.cons (kU8 0) (.cons (yH 0) (.cons (.ar 4 rcZ .te) (.cons (.ar 4 enZ .te) .nl)))
noncomputable def zBT:KV:=.cons zFa (.cons (nI 0) (.cons (.bool false) (.cons (.ar 4 (.bool false) .te) .nl)))
noncomputable def zs9 (n:Nat) (u:Ud) (F:Nat→Nat→Nd):KBlk:=⟨.row 105,.arr (zq n) Z4,kAr (zq n) zBT fun k=>zkt n u F (lvI n k) (ixI n k) k⟩
noncomputable def chn (n:Nat) (u:Ud) (p:Prop) (k:Nat):Prop:=@Nat.rec (fun _=>Prop) p (fun _ q=>[jN n u.rc,zcx n (zq n) u]=[jN n u.rc,zcx n (zq n) u]∧uK n (zq n) u=uK n (zq n) u∧q) k
noncomputable def d5A (x:Sd) (n:Nat) (u:Ud) (F:Nat→Nat→Nd) (s39 s18 s19 s32:zg) (a:Nat) (y:Un) (b o c:Int) (Q:QT) (R:zj):Prop:=pc (E5 x n u F s39 s18 s19 s32) 5 (l5.take 2) [1,5,7] [1,Nat.add 5 (Nat.mul 3 (zq n)),Nat.add 4 (Nat.mul 3 (zq n))] (vy (mOf 5) 0 (a5 x a y b o c),[],0) Q fun v _ _=>R v
noncomputable def r5A (x:Sd) (n:Nat) (u:Ud) (F:Nat→Nat→Nd) (a:Nat) (y:Un) (b o c:Int) (Q:QT):Prop:=[x.k]=[x.k]∧[uK n (zq n) u]=[uK n (zq n) u]∧chn n u (Q .normal [kU8 a,.ptr 1 [] shZ,.ptr (Nat.add 5 (Nat.mul 3 (zq n))) [] Z5] [some (bx 107 shZ (zK y b o c)),some (Wr n (zq n) (Nat.add 4 (Nat.mul 3 (zq n)))),some (zs9 n u F)] (Nat.add 6 (Nat.mul 3 (zq n)))) (zq n)
def P5A (n:Nat):Prop:=∀(x:Sd) (u:Ud) (F:Nat→Nat→Nd) (s39 s18 s19 s32:zg) (a:Nat) (y:Un) (b o c:Int) (Q:QT) (R:zj),d5A x n u F s39 s18 s19 s32 a y b o c Q R=r5A x n u F a y b o c Q
end
end Go.K
