/- caissonref18.U: Tree, for each number of blocks. No condition. -/
import Derived.Test.YtkllahedaiddgaaGreatDoorPV0
import Derived.Test.YtkllahedaiddgaaGreatDoorUG3
set_option linter.unusedSimpArgs false
set_option linter.unusedVariables false
set_option maxRecDepth 100000
namespace Go.K
open Go.Ab Go.RowKit Go.Y Go.Proofs
noncomputable section
attribute [local instance 10000] gO
noncomputable def z32:List Nat:=[0,0,0,0,0,0,0,0,0,0,0,0,0,0,0,0,0,0,0,0,0,0,0,0,0,0,0,0,0,0,0,0]
noncomputable def zRc:Rc:=⟨0,0,0,z32⟩
noncomputable def zEn:En:=⟨0,z32⟩
noncomputable def jH (n:Nat) (rc:Nat→Rc) (now:Nat→Nat):Nat→Nat→Nd
 | 0,j=>⟨0,j,fun i=>if i < zq n 0 j then rc (Nat.add 0 (j4 j i)) else zRc,fun _=>zEn⟩
 | l + 1,j=>⟨l + 1,j,fun _=>zRc,fun w=>if w < zq n (l + 1) j∧emS n rc l (j4 j w)=false then ⟨Nat.mod (Nat.add (now (Nat.add 0 (zh n l (j4 j w)))) 1) 256,(jH n rc now l (j4 j w)).dg⟩ else zEn⟩
theorem zuV:∀ i,i < 32→nN z32 i=0:=by
 have h:∀ i:Fin 32,nN z32 i.1=0:=by decide
 exact fun i hi=>h ⟨i,hi⟩
theorem zd6:Imp (KV.ar 32 (kU8 0) .te).v (kBy 32 (nN z32)).v:=yn (n:=32) (f:=fun i=>kU8 (nN z32 i)) (d:=kU8 0) fun i hi=>by
 rw[zuV i hi]; rfl
theorem Vi:Imp rcZ.v zRc.k.v:=Imp.cons (Imp.refl _) (Imp.cons (Imp.refl _) (Imp.cons zd6 (Imp.refl _)))
theorem zd7:Imp enZ.v zEn.k.v:=Imp.cons (Imp.refl _) (Imp.cons zd6 (Imp.refl _))
theorem zd8 {d T:KV}{f:Nat→KV}(h:∀ i,i < 4→Imp (T.atv (enc i) d.v) (f i).v):Imp (KV.ar 4 d T).v (kAr 4 d f).v :=
 Imp.arr fun i hi=>Eq.mpr (congrArg (Imp (T.atv (enc i) d.v)) (vY (f:=f) (z:=d.v) hi)) (h i hi)
theorem zhV {l j:Nat}{T U:KV}{x:Nd}(hl:x.lv=l) (hj:x.ix=j) (hT:∀ i,i < 4→Imp (T.atv (enc i) rcZ.v) (x.rc i).k.v) (hU:∀ i,i < 4→Imp (U.atv (enc i) enZ.v) (x.en i).k.v):Imp (z0N j l T U).v x.k.v:=by
 subst hl; subst hj
 exact Imp.cons (Imp.refl _) (Imp.cons (Imp.refl _) (Imp.cons (zd8 hT) (Imp.cons (zd8 hU) (Imp.refl _))))
theorem zaX (x:Nd):xi x.k.v=true:=by kernel_rfl
theorem W6 {n j w:Nat}(hn:zD n=true) (h:isS n 0 j=true) (hw:w < zq n 0 j):Nat.add (Nat.mul 4 j) w < n:=by
 obtain⟨h1,h2⟩:=xg hn h
 obtain⟨h3,h4⟩:=qW hn h
 obtain⟨n1,n2⟩:=zH hn
 obtain⟨m,rfl⟩:∃ m,n=Nat.succ m:=⟨n - 1,by omega⟩
 have hd:∀ m:Fin 24,∀ j:Fin 6,∀ w:Fin 4,isS (Nat.succ m.1) 0 j.1=true→w.1 < zq (Nat.succ m.1) 0 j.1→Nat.add (Nat.mul 4 j.1) w.1 < Nat.succ m.1:=by decide
 exact hd ⟨m,by omega⟩ ⟨j,h2⟩ ⟨w,by omega⟩ h hw
theorem zhW {rc:Nat→Rc}{j i:Nat}{z:V}:∀ w,(tr0 rc j w).atv (enc i) z=if i < w then (rc (Nat.add 0 (j4 j i))).k.v else z
 | 0=>by rw[if_neg (by omega)]; rfl
 | w + 1=>by
  show (xk (rc (Nat.add 0 (Nat.add (Nat.mul 4 j) w))).k (enc w) (tr0 rc j w)).atv (enc i) z=_
  rw[vX]
  by_cases e:i=w
  ·rw[if_pos e,if_pos (by omega),e]; rfl
  ·rw[if_neg e,zhW w]
   by_cases q:i < w
   ·rw[if_pos q,if_pos (by omega)]
   ·rw[if_neg q,if_neg (by omega)]
noncomputable def Qc (L:Nat) (x:P6):Prop:=zD x.1=true∧x.2.1=zi x.1∧(∀ i,i < x.1→(x.2.2.1 i).tg.length=32∧(x.2.2.1 i).wb)∧(∀ i,i < x.2.1→x.2.2.2.1 i≤1)∧x.2.2.2.2.1 < L∧isS x.1 x.2.2.2.2.1 x.2.2.2.2.2=true
noncomputable def nd6 (x:P6):Nd:=jH x.1 x.2.2.1 x.2.2.2.1 x.2.2.2.2.1 x.2.2.2.2.2
theorem zhX:∀ b∈z32,b < 256:=by decide
theorem W7:zRc.wb:=⟨by decide,by decide,by decide,zhX⟩
theorem zhY:zEn.wb:=⟨by decide,zhX⟩
theorem qd {n:Nat}{rc:Nat→Rc}{now:Nat→Nat}(hn:zD n=true) (hr:∀ i,i < n→(rc i).tg.length=32∧(rc i).wb):∀ l j,isS n l j=true→(jH n rc now l j).wl∧(jH n rc now l j).wb∧(jH n rc now l j).lv=l∧(jH n rc now l j).ix=j
 | 0,j,h=>by
  have hj:=(xg hn h).2
  refine⟨⟨fun i hi=>?_,fun i hi=>rfl⟩,⟨by show 0 < 256; omega,by show j < _; omega,fun i hi=>?_,fun i hi=>zhY⟩,rfl,rfl⟩
  ·show (if i < zq n 0 j then rc (Nat.add 0 (j4 j i)) else zRc).tg.length=32
   by_cases q:i < zq n 0 j
   ·rw[if_pos q,vb]; exact (hr _ (W6 hn h q)).1
   ·rw[if_neg q]; rfl
  ·show (if i < zq n 0 j then rc (Nat.add 0 (j4 j i)) else zRc).wb
   by_cases q:i < zq n 0 j
   ·rw[if_pos q,vb]; exact (hr _ (W6 hn h q)).2
   ·rw[if_neg q]; exact W7
 | l + 1,j,h=>by
  have hj:=xg hn h
  refine⟨⟨fun i hi=>rfl,fun i hi=>?_⟩,⟨by show l + 1 < 256; omega,by show j < _; omega,fun i hi=>W7,fun i hi=>?_⟩,rfl,rfl⟩
  ·show (if i < zq n (l + 1) j∧emS n rc l (j4 j i)=false then (⟨_,_⟩:En) else zEn).dg.length=32
   split
   ·exact zyw _
   ·rfl
  ·show (if i < zq n (l + 1) j∧emS n rc l (j4 j i)=false then (⟨_,_⟩:En) else zEn).wb
   split
   ·exact⟨Nat.mod_lt _ (by omega),zEN _⟩
   ·exact zhY
theorem zaY {n j w p:Nat}{rc:Nat→Rc}{K:KV→Prop}{x:Prop}(hn:zD n=true) (h:isS n 0 j=true) (hp:zq n 0 j=p) (hw:w≤p) (hq:w=p→K (z0N j 0 (tr0 rc j w) .te)) (hx:w < p→x):st0 n rc j K w x:=by
 refine⟨⟨hn,h⟩,zo.2 ⟨fun q=>?_,fun q=>hq ?_⟩⟩
 ·rw[xr,hp] at q
  exact zd.2 ⟨xM.2 (W6 hn h (by omega)),hx q⟩
 ·rw[bf xr,hp] at q
  omega
theorem zA1 {n j:Nat}{rc:Nat→Rc}{now:Nat→Nat}(hn:zD n=true) (h:isS n 0 j=true):za7 n rc j fun r=>Imp r.v (jH n rc now 0 j).k.v:=by
 obtain⟨h3,h4⟩:=qW hn h
 have fin:∀ w,w=zq n 0 j→Imp (z0N j 0 (tr0 rc j w) .te).v (jH n rc now 0 j).k.v:=fun w hw=>zhV rfl rfl (fun i hi=>by
  rw[zhW]
  show Imp _ (if i < zq n 0 j then rc (Nat.add 0 (j4 j i)) else zRc).k.v
  rw[hw]
  by_cases q:i < zq n 0 j
  ·rw[if_pos q,if_pos q]; exact Imp.refl _
  ·rw[if_neg q,if_neg q]; exact Vi) fun i hi=>zd7
 exact zaY hn h rfl (by omega) (fin 0) fun q0=>zaY hn h rfl q0 (fin 1) fun q1=>zaY hn h rfl q1 (fin 2) fun q2=>zaY hn h rfl q2 (fin 3) fun q3=>zaY hn h rfl q3 (fin 4) fun q4=>absurd q4 (by omega)
noncomputable def UI (x:Nd) (w:Nat) (U:KV):Prop:=∀ i,i < 4→Imp (U.atv (enc i) enZ.v) (if i < w then x.en i else zEn).k.v
theorem zJk {n m L k j p:Nat}{rc:Nat→Rc}{now:Nat→Nat}(hx:Qc (L + 1) (n,m,rc,now,k + 1,j)) (hp:zq n (k + 1) j=p):∀ r w U,r + w=p→UI (jH n rc now (k + 1) j) w U→zbf nd6 (Qc L) n m rc now k j p (fun r=>Imp r.v (jH n rc now (k + 1) j).k.v) r w U:=by
 obtain⟨hn,hm,hr,hs,hl,hS⟩:=hx
 replace hn:zD n=true:=hn
 replace hm:m=zi n:=hm
 replace hr:∀ i,i < n→(rc i).tg.length=32∧(rc i).wb:=hr
 replace hs:∀ i,i < m→now i≤1:=hs
 replace hl:k + 1 < L + 1:=hl
 replace hS:isS n (k + 1) j=true:=hS
 obtain⟨n1,n2⟩:=zH hn
 have hkj:=xg hn hS
 obtain⟨p1,p4⟩:=qW hn hS
 intro r
 induction r with
 | zero =>
  intro w U hw hU
  obtain rfl:w=p:=by omega
  refine⟨⟨⟨hn,hS⟩,hp⟩,zhV rfl rfl (fun i hi=>Vi) fun i hi=>?_⟩
  have h:=hU i hi
  by_cases q:i < w
  ·rw[if_pos q] at h; exact h
  ·rw[if_neg q] at h
   have:(jH n rc now (k + 1) j).en i=zEn:=by
    show (if i < zq n (k + 1) j∧emS n rc k (j4 j i)=false then (⟨_,_⟩:En) else zEn)=zEn
    rw[if_neg fun h=>q (by omega)]
   rw[this]; exact h
 | succ r ih =>
  intro w U hw hU
  have hwp:w < zq n (k + 1) j:=by omega
  have hk:=Za hn hS hwp
  have hc:=xg hn hk
  refine⟨⟨⟨hn,hS⟩,hp⟩,(n,rc,k,j4 j w),rfl,⟨n2,by show k≤2; omega⟩,?_⟩
  show alt (!(emS n rc k (j4 j w))) _ _
  refine zo.2 ⟨fun he=>?_,fun he=>ih (w + 1) U (by omega) fun i hi=>?_⟩
  ·replace he:emS n rc k (j4 j w)=false:=by simpa using he
   have hnum:=qY hn hk
   have hno:=hs (zh n k (j4 j w)) (by omega)
   obtain⟨wl,wb,lv,ix⟩:=qd hn hr (now:=now) k (j4 j w) hk
   refine⟨⟨hn,by omega,by show j4 j w < _; omega⟩,zd.2 ⟨xM.2 (by show zh n k (j4 j w) < m; omega),zd.2 ⟨xb.2 (by
    show now (Nat.add 0 (zh n k (j4 j w))) + 1 < _
    rw[vb]; omega),(n,m,rc,now,k,j4 j w),rfl,⟨hn,hm,hr,hs,by show k < L; omega,hk⟩,⟨ziU wl wb,?_⟩,?_⟩⟩⟩
   ·show (jH n rc now k (j4 j w)).lv≤2
    rw[lv]; omega
   ·refine ih (w + 1) _ (by omega) fun i hi=>?_
    rw[vX]
    by_cases e:i=w
    ·rw[if_pos e,if_pos (by omega),e]
     have hen:(jH n rc now (k + 1) j).en w=⟨Nat.mod (Nat.add (now (Nat.add 0 (zh n k (j4 j w)))) 1) 256,(jH n rc now k (j4 j w)).dg⟩:=by
      show (if w < zq n (k + 1) j∧emS n rc k (j4 j w)=false then (⟨_,_⟩:En) else zEn)=_
      rw[if_pos ⟨hwp,he⟩]
     rw[hen]
     show Imp (KV.cons _ (.cons (kBy 32 (nN (jH n rc now k (j4 j w)).nf.dg)) .nl)).v _
     rw[QW wl]
     exact Imp.refl _
    ·rw[if_neg e]
     have h:=hU i hi
     by_cases q:i < w
     ·rw[if_pos q] at h; rw[if_pos (by omega)]; exact h
     ·rw[if_neg q] at h; rw[if_neg (by omega)]; exact h
  ·replace he:emS n rc k (j4 j w)=true:=by simpa using he
   have h:=hU i hi
   by_cases q:i < w
   ·rw[if_pos q] at h; rw[if_pos (by omega)]; exact h
   ·rw[if_neg q] at h
    by_cases e:i=w
    ·rw[if_pos (by omega),e]
     have hen:(jH n rc now (k + 1) j).en w=zEn:=by
      show (if w < zq n (k + 1) j∧emS n rc k (j4 j w)=false then (⟨_,_⟩:En) else zEn)=zEn
      rw[if_neg fun h=>by rw[he] at h; cases h.2]
     rw[hen]; rw[e] at h; exact h
    ·rw[if_neg (by omega)]; exact h
noncomputable def Zh (L:Nat):zf:=sNo nd6 (Qc L)
theorem zFi:KCS Tryz.prog 44 (Zh 0):=⟨⟨Tryz.f44,Tryz.func44,by kernel_rfl,by kernel_rfl⟩,fun l K h=>by
 obtain⟨x,_,h,_⟩:=h
 exact absurd h.2.2.2.2.1 (Nat.not_lt_zero _)⟩
theorem zyV {n k j:Nat}(hn:zD n=true) (h:isS n (k + 1) j=true):(k=0∧j=0∧(zq n 1 0=2∨zq n 1 0=3∨zq n 1 0=4))∨(k=0∧j=1∧(zq n 1 1=1∨zq n 1 1=2))∨(k=1∧j=0∧zq n 2 0=2):=by
 obtain⟨h1,h2⟩:=xg hn h
 obtain⟨n1,n2⟩:=zH hn
 obtain⟨m,rfl⟩:∃ m,n=Nat.succ m:=⟨n - 1,by omega⟩
 have ha:∀ m:Fin 24,isS (Nat.succ m.1) 1 0=true→zq (Nat.succ m.1) 1 0=2∨zq (Nat.succ m.1) 1 0=3∨zq (Nat.succ m.1) 1 0=4:=by decide
 have hb:∀ m:Fin 24,isS (Nat.succ m.1) 1 1=true→zq (Nat.succ m.1) 1 1=1∨zq (Nat.succ m.1) 1 1=2:=by decide
 have hc:∀ m:Fin 24,isS (Nat.succ m.1) 2 0=true→zq (Nat.succ m.1) 2 0=2:=by decide
 have hj1:∀ m:Fin 24,∀ j:Fin 6,isS (Nat.succ m.1) 1 j.1=true→j.1 < 2:=by decide
 have hj2:∀ m:Fin 24,∀ j:Fin 6,isS (Nat.succ m.1) 2 j.1=true→j.1 < 1:=by decide
 have hk:k=0∨k=1:=by omega
 have hm:m < 24:=by omega
 rcases hk with rfl | rfl
 ·have:=hj1 ⟨m,hm⟩ ⟨j,h2⟩ h
  have hj:j=0∨j=1:=by have:j < 2:=this; omega
  rcases hj with rfl | rfl
  ·exact .inl ⟨rfl,rfl,ha ⟨m,hm⟩ h⟩
  ·exact .inr (.inl ⟨rfl,rfl,hb ⟨m,hm⟩ h⟩)
 ·have:=hj2 ⟨m,hm⟩ ⟨j,h2⟩ h
  obtain rfl:j=0:=by have:j < 1:=this; omega
  exact .inr (.inr ⟨rfl,rfl,hc ⟨m,hm⟩ h⟩)
theorem zyW {x:Nd}:UI x 0 .te:=fun i hi=>by rw[if_neg (by omega)]; exact zd7
theorem zlG {L:Nat}(ih:KCS Tryz.prog 44 (Zh L)):KCS Tryz.prog 44 (Zh (L + 1)):=jV ⟨Tryz.f44,Tryz.func44,by kernel_rfl,by kernel_rfl⟩ fun l K hs=>by
 obtain⟨⟨n,m,rc,now,l,j⟩,rfl,hx,hk⟩:=hs
 have hn:zD n=true:=hx.1
 have hS:isS n l j=true:=hx.2.2.2.2.2
 have okP:∀ p,KOk (zfF p (Zh L)):=fun p=>zI.tab ⟨zIu p,zEZ,zcK,zeK,ih,trivial⟩
 cases l with
 | zero =>
  have hj:=(xg hn hS).2
  have hf:za7 n rc j fun r=>Imp r.v (jH n rc now 0 j).k.v:=zA1 hn hS
  refine⟨E44 (Zh L),zI.tab ⟨zw5,zEZ,zcK,zeK,ih,trivial⟩,rfl,200,fun r=>Imp r.v (jH n rc now 0 j).k.v,_,hk,zaX _,fun r h=>h,?_⟩
  match j,hj with
  | 0,_=>exact Eq.mpr (zxi (Zh L) n m rc now _) hf
  | 1,_=>exact Eq.mpr (zxj (Zh L) n m rc now _) hf
  | 2,_=>exact Eq.mpr (zxk (Zh L) n m rc now _) hf
  | 3,_=>exact Eq.mpr (zxl (Zh L) n m rc now _) hf
  | 4,_=>exact Eq.mpr (zxm (Zh L) n m rc now _) hf
  | 5,_=>exact Eq.mpr (zxn (Zh L) n m rc now _) hf
 | succ k =>
  have go:∀ p,zq n (k + 1) j=p→zbf nd6 (Qc L) n m rc now k j p (fun r=>Imp r.v (jH n rc now (k + 1) j).k.v) p 0 .te:=fun p hp=>zJk hx hp p 0 .te rfl zyW
  have fin:∀ p,zk (zfF p (Zh L)) (zp (zfF p (Zh L)) 200) 0 44 [xU n rc,qz m now,nI (k + 1),nI j] .e 0 0 (fun r _ _ _=>Imp r.v (jH n rc now (k + 1) j).k.v)→_:=fun p h=>(⟨zfF p (Zh L),okP p,rfl,200,fun r=>Imp r.v (jH n rc now (k + 1) j).k.v,_,hk,zaX _,fun r h=>h,h⟩:∃ E:KEnv,KOk E∧E.P=Tryz.prog∧∃(n':Nat) (Q:KV→Prop) (w:KV),K w∧xi w.v=true∧(∀ r:KV,Q r→Imp r.v w.v)∧zk E (zp E n') 0 44 (zxX (n,m,rc,now,k + 1,j)) .e 0 0 fun r _ _ _=>Q r)
  rcases zyV hn hS with ⟨rfl,rfl,hp | hp | hp⟩ | ⟨rfl,rfl,hp | hp⟩ | ⟨rfl,rfl,hp⟩
  ·exact fin 2 (Eq.mpr (zoG nd6 (Qc L) n m rc now _) (go 2 hp))
  ·exact fin 3 (Eq.mpr (zoH nd6 (Qc L) n m rc now _) (go 3 hp))
  ·exact fin 4 (Eq.mpr (zoJ nd6 (Qc L) n m rc now _) (go 4 hp))
  ·exact fin 1 (Eq.mpr (zoI nd6 (Qc L) n m rc now _) (go 1 hp))
  ·exact fin 2 (Eq.mpr (zoY nd6 (Qc L) n m rc now _) (go 2 hp))
  ·exact fin 2 (Eq.mpr (zoZ nd6 (Qc L) n m rc now _) (go 2 hp))
theorem zq7:KCS Tryz.prog 44 (Zh 3):=zlG (zlG (zlG zFi))
noncomputable def p36 (n m:Nat) (u:Ud) (b:Nat) (K:KV→Prop):Prop:=zk EO0 (zp EO0 60) 0 36 [uK n m u,nI b] .e 0 0 fun r _ _ _=>K r
noncomputable def X0 (u:Ud) (b:Nat):Nat:=(u.rc (Nat.add 0 b)).st
noncomputable def f36 (n m:Nat) (u:Ud) (b:Nat) (K:KV→Prop):Prop :=
 cnd (ixB (.ofNat b) n) (cnd (b63 (X0 u b)) (alt (eqN (X0 u b) 0) (K (nI 0)) (cnd (ixB (.ofNat b) n) (alt (u.ch (Nat.add 0 b)) (alt (Nat.ble 1 (X0 u b)) (cnd (b63 (Nat.sub (X0 u b) 1)) (K (nI (Nat.sub (X0 u b) 1)))) (K (.int .i64 (yR .i64 (.ofNat (X0 u b)) (.ofNat 1))))) (alt (Nat.ble (X0 u b) 2) (cnd (b63 (Nat.sub 2 (X0 u b))) (K (nI (Nat.sub 2 (X0 u b))))) (K (.int .i64 (yR .i64 (.ofNat 2) (.ofNat (X0 u b))))))))))
theorem e36 (n m:Nat) (u:Ud) (b:Nat) (K:KV→Prop):p36 n m u b K=f36 n m u b K:=by kernel_rfl
noncomputable def tgS (u:Ud) (b:Nat):Nat:=if (u.rc b).st=0 then 0 else if u.ch b=true then (u.rc b).st - 1 else 2 - (u.rc b).st
abbrev P4t:=Nat×Nat×Ud×Nat
noncomputable def zth (x:P4t):List KV:=[uK x.1 x.2.1 x.2.2.1,nI x.2.2.2]
noncomputable def zEb:zf:=vp zth (fun x=>x.2.2.2 < x.1∧(x.2.2.1.rc x.2.2.2).st≤2) fun x=>nI (tgS x.2.2.1 x.2.2.2)
theorem zEc {n m:Nat}{u:Ud}{b:Nat}(h1:b < n) (h2:(u.rc b).st≤2):f36 n m u b fun r=>r=nI (tgS u b):=by
 have e:X0 u b=(u.rc b).st:=by unfold X0; rw[vb]
 unfold f36
 rw[e]
 simp only[zd,zo,xM,xb,j1,bf j1,vb]
 refine⟨h1,by omega,fun h0=>?_,fun h0=>⟨h1,fun hc=>⟨fun q=>⟨?_,?_⟩,fun q=>?_⟩,fun hc=>⟨fun q=>⟨?_,?_⟩,fun q=>?_⟩⟩⟩
 ·unfold tgS; rw[if_pos h0]
 ·show (u.rc b).st - 1 < _; omega
 ·unfold tgS; rw[if_neg h0,if_pos hc]; rfl
 ·have:Nat.ble 1 (u.rc b).st=true:=Nat.ble_eq_true_of_le (by omega)
  rw[this] at q; cases q
 ·show 2 - (u.rc b).st < _; omega
 ·unfold tgS; rw[if_neg h0,if_neg (by rw[hc]; exact Bool.false_ne_true)]; rfl
 ·have:Nat.ble (u.rc b).st 2=true:=Nat.ble_eq_true_of_le h2
  rw[this] at q; cases q
theorem zxP:KCS Tryz.prog 36 zEb:=jV ⟨Tryz.f36,Tryz.func36,by kernel_rfl,by kernel_rfl⟩ fun l K hs=>by
 obtain⟨⟨n,m,u,b⟩,rfl,⟨h1,h2⟩,hk⟩:=hs
 exact⟨EO0,zI,rfl,60,fun r=>r=nI (tgS u b),_,hk,rfl,fun r hr=>by rw[hr]; exact Imp.refl _,Eq.mpr (e36 n m u b _) (zEc h1 h2)⟩
noncomputable def EU:KEnv:=EO0.tab [(26,zBR),(36,zEb)]
theorem okU:KOk EU:=zI.tab ⟨zfz,zxP,trivial⟩
noncomputable def wk (u:Ud) (b a c:Nat) (tg:List Nat):Rc:=⟨Nat.mod (Nat.add (tgS u b) 1) 256,a,c,tg⟩
noncomputable def zlJ (n m:Nat) (u:Ud) (b a c:Nat) (tg:List Nat):List KV:=[uK n m u,nI b,.cons (ZR a) (.cons (Jt c) .nl),kBy 32 (nN tg)]
noncomputable def zFj (n:Nat) (u:Ud) (b:Nat) (x:Rc):KBlk:=⟨.row 96,.arr n xy,.fa n fun j=>ifN j b x.k (u.rc j).k⟩
noncomputable def zFk (n:Nat) (u:Ud) (b:Nat):KBlk:=⟨.box 4,.arr n .sc,.fa n fun j=>ifN j (Nat.add 0 b) (.bool true) (VX 0 (Nat.add 0 (min n n)) j (.bool (u.ch (Nat.add 0 (Nat.sub j 0)))) (.bool false))⟩
noncomputable def zFl (m:Nat) (u:Ud):KBlk:=⟨.row 3,.arr m .sc,.fa m fun j=>nI (u.sl j)⟩
noncomputable def v38 (n m:Nat):KV:=.cons (.row 5 xy n) (.cons (.sl 6 [] .sc 0 n (some n)) (.cons (.row 7 .sc m) .nl))
noncomputable def r38 (n m:Nat) (u:Ud) (b a c:Nat) (tg:List Nat) (Q:QT) (R:RT):Prop:=pc EU 38 (fl (cOf 38)) [] [5,6,7] (xd (mOf 38) 0 (zlJ n m u b a c tg),[],0) Q R
noncomputable def f38 (n m:Nat) (u:Ud) (b a c:Nat) (tg:List Nat) (R:RT):Prop :=
 cnd (apB 0 n) (cnd (mkB (.ofNat n) (.ofNat n)) (cnd (apB 0 m) (∃ x:P4t,[uK n m u,nI b]=zth x∧(x.2.2.2 < x.1∧(x.2.2.1.rc x.2.2.2).st≤2)∧cnd (b63 (Nat.add (tgS x.2.2.1 x.2.2.2) 1)) (cnd (ixB (.ofNat b) n) (cnd (ixB (.ofNat b) n) (R (v38 n m) [some (zFj n u b (wk x.2.2.1 x.2.2.2 a c tg)),some (zFk n u b),some (zFl m u)] 9))))))
theorem e38 (n m:Nat) (u:Ud) (b a c:Nat) (tg:List Nat) (Q:QT) (R:RT):r38 n m u b a c tg Q R=f38 n m u b a c tg R:=by kernel_rfl
attribute [local irreducible] kpre cOf mOf rOf JL zp zh hS zi zx xh
theorem zHd:Tryz.f38.ntmps=37:=by kernel_rfl
theorem zHe:Tryz.f38.results.toList=rOf 38:=by kernel_rfl
noncomputable def Qh (u:Ud) (b:Nat) (x:Rc):Ud:=⟨fun i=>if i=b then x else u.rc i,fun i=>if i=b then true else u.ch i,u.sl⟩
theorem wQ (x:Rc):xi x.k.v=true:=by kernel_rfl
theorem ZT {br:Bool}{zm:KZ}{x y:KV}(e:x=y) (hn:xi y.v=true):FzE br zm x.v y.v:=by subst e; exact FzE.noref hn
theorem j38 {n m b a c:Nat}{u:Ud}{tg:List Nat}(hn:n≤24) (hm:m≤9) (hb:b < n) (hs:(u.rc b).st≤2):JFn Tryz.prog 38 false (zlJ n m u b a c tg) (uK n m (Qh u b (wk u b a c tg))):=by
 refine JFn.of (P:=Tryz.prog) okU rfl (c:=cOf 38) (mOf 38) Tryz.func38 (by kernel_rfl) fun B N hN=>?_
 rw[zHd] at hN
 have:=JL.goR (B:=B) (N:=N) (mask:=mOf 38) (l1:=fl (cOf 38)) (l2:=[]) (Q:=retJ EU Tryz.f38 false (uK n m (Qh u b (wk u b a c tg)))) (n:=60) okU rfl (rOf 38) [] [5,6,7] (lt0:=xd (mOf 38) 0 (zlJ n m u b a c tg)) (lz0:=[]) (n0:=0) hN (by kernel_rfl) (by kernel_rfl) ?_
 ·rwa [List.append_nil] at this
 ·show r38 n m u b a c tg _ _
  rw[e38]
  have e:tgS u b≤2:=by unfold tgS; split<;>(try split)<;>omega
  refine zd.2 ⟨Nat.ble_eq_true_of_le (by omega),zd.2 ⟨?_,zd.2 ⟨Nat.ble_eq_true_of_le (by omega),(n,m,u,b),rfl,⟨hb,hs⟩,zd.2 ⟨xb.2 (by show tgS u b + 1 < _; omega),zd.2 ⟨xM.2 hb,zd.2 ⟨xM.2 hb,?_⟩⟩⟩⟩⟩⟩
  ·unfold mkB
   have q1:leI 0 (.ofNat n)=true:=wc (a:=0).2 (Nat.zero_le _)
   have q2:leI (.ofNat n) (.ofNat n)=true:=wc.2 (Nat.le_refl _)
   have q3:leI (.ofNat n) 16777216=true:=wc (b:=16777216).2 (by omega)
   rw[q1,q2,q3]; rfl
  ·intro tr zm hz hmb hi hr
   have h5:kb zm 5=some (zFj n u b (wk u b a c tg)):=congrArg (fun l=>l.getD 0 none) hz
   have h6:kb zm 6=some (zFk n u b):=congrArg (fun l=>l.getD 1 none) hz
   have h7:kb zm 7=some (zFl m u):=congrArg (fun l=>l.getD 2 none) hz
   refine retJ.mk rfl zHe (FzP.cons (FzP.row h5 rfl rfl fun i hi=>ZT ?_ ?_) (FzP.cons (FzP.sl h6 rfl rfl rfl fun i hi=>ZT ?_ ?_) (FzP.cons (FzP.row h7 rfl rfl fun i hi=>ZT rfl rfl) (FzP.noref rfl)))) hr
   ·show ifN i b _ _=(if i=b then _ else u.rc i).k
    rw[wM]
    by_cases q:i=b
    ·rw[if_pos q,if_pos q]
    ·rw[if_neg q,if_neg q]
   ·exact wQ _
   ·show ifN (0 + i) (Nat.add 0 b) _ (VX 0 (Nat.add 0 (min n n)) (0 + i) _ _)=KV.bool (if i=b then true else u.ch i)
    rw[wM,VY,vb,vb,Nat.zero_add,Nat.min_self,if_pos (⟨by omega,hi⟩:0≤i∧i < n)]
    by_cases q:i=b
    ·rw[if_pos q,if_pos q]
    ·rw[if_neg q,if_neg q,vb]; rfl
   ·rfl
noncomputable def zBX:zf:=vp (fun x:Nat×Nat×Ud×Nat×Nat×Nat×List Nat=>zlJ x.1 x.2.1 x.2.2.1 x.2.2.2.1 x.2.2.2.2.1 x.2.2.2.2.2.1 x.2.2.2.2.2.2) (fun x=>x.1≤24∧x.2.1≤9∧x.2.2.2.1 < x.1∧(x.2.2.1.rc x.2.2.2.1).st≤2) fun x=>uK x.1 x.2.1 (Qh x.2.2.1 x.2.2.2.1 (wk x.2.2.1 x.2.2.2.1 x.2.2.2.2.1 x.2.2.2.2.2.1 x.2.2.2.2.2.2))
theorem zHf:KCS Tryz.prog 38 zBX:=vV ⟨Tryz.f38,Tryz.func38,by kernel_rfl,by kernel_rfl⟩ fun x h=>j38 h.1 h.2.1 h.2.2.1 h.2.2.2
end
end Go.K
set_option maxRecDepth 100000
namespace Go.K
open Go.Ab Go.RowKit Go.Y Go.Proofs
noncomputable section
attribute [local instance 10000] gO
noncomputable def zv9 (n:Nat) (u:Ud):KBlk:=⟨.row 96,.arr n xy,.fa n fun j=>(u.rc j).k⟩
noncomputable def zwa (n:Nat):KBlk:=⟨.box 4,.arr n .sc,.ar n (.bool false) .te⟩
noncomputable def ziz (k:Nat) (x:KV) (f:Nat→Nat):KBlk:=⟨.row 3,.arr (Nat.succ k) .sc,.fa (Nat.succ k) fun j=>ifN j k x (nI (f j))⟩
noncomputable def v86 (n m:Nat):KV:=.cons (.row 3 xy n) (.cons (.sl 4 [] .sc 0 n (some n)) (.cons (.row 5 .sc m) .nl))
noncomputable def f86 (n k:Nat) (u:Ud) (R:RT) (m:Nat) (f:Nat→Nat):Prop :=
 cnd (apB 0 n) (cnd (mkB (.ofNat n) (.ofNat n)) (cnd (apB 0 m) (cnd (b63 k) (cnd (ixB (.ofNat k) m) (alt (Nat.ble (u.sl (Nat.add 0 k)) 1) (cnd (b63 (Nat.sub 1 (u.sl (Nat.add 0 k)))) (cnd (ixB (.ofNat k) m) (R (v86 n m) [some (zv9 n u),some (zwa n),some (ziz k (nI (Nat.sub 1 (u.sl (Nat.add 0 k)))) f)] 7))) (cnd (ixB (.ofNat k) m) (R (v86 n m) [some (zv9 n u),some (zwa n),some (ziz k (.int .i64 (yR .i64 (.ofNat 1) (.ofNat (u.sl (Nat.add 0 k))))) f)] 7)))))))
noncomputable def sNw (n k:Nat) (u:Ud) (f:Nat→Nat):zf:=fun l K=>([uK n (Nat.succ k) u]=l∧UOk n (Nat.succ k) u)∧K (qz (Nat.succ k) f)
noncomputable def E86 (n k:Nat) (u:Ud) (f:Nat→Nat):KEnv:=EO0.tab [(26,sNw n k u f)]
noncomputable def r86 (n k:Nat) (u:Ud) (f:Nat→Nat) (Q:QT) (R:RT):Prop:=pc (E86 n k u f) 86 (fl (cOf 86)) [] [3,4,5] (xd (mOf 86) 0 [uK n (Nat.succ k) u],[],0) Q R
theorem e86 (n k:Nat) (u:Ud) (f:Nat→Nat) (Q:QT) (R:RT):r86 n k u f Q R=(([uK n (Nat.succ k) u]=[uK n (Nat.succ k) u]∧UOk n (Nat.succ k) u)∧f86 n k u R (Nat.succ k) f):=by kernel_rfl
attribute [local irreducible] kpre cOf mOf rOf JL zp zh hS zi zx xh
theorem zHT:Tryz.f86.ntmps=25:=by kernel_rfl
theorem zHU:Tryz.f86.results.toList=rOf 86:=by kernel_rfl
noncomputable def Jw (n k:Nat) (u:Ud):Ud:=⟨u.rc,fun _=>false,fun i=>if i=k then 1 - u.sl k else xf n u i⟩
theorem kNw (n k:Nat) (u:Ud):KCS Tryz.prog 26 (sNw n k u (xf n u)):=zfz.imp fun l K h=>by
 obtain⟨⟨rfl,h1⟩,h2⟩:=h
 exact⟨(n,Nat.succ k,u),rfl,h1,h2⟩
theorem zC9 (n k:Nat) (u:Ud):KOk (E86 n k u (xf n u)):=zI.tab ⟨kNw n k u,trivial⟩
theorem j86 {n k:Nat}{u:Ud}(H:UOk n (Nat.succ k) u):JFn Tryz.prog 86 false [uK n (Nat.succ k) u] (uK n (Nat.succ k) (Jw n k u)):=by
 obtain⟨n1,n2⟩:=zH H.n24
 have hm9:=jK H.n24
 have htot:=H.tot
 have hs:=H.sl k (Nat.lt_succ_self k)
 refine JFn.of (P:=Tryz.prog) (zC9 n k u) rfl (c:=cOf 86) (mOf 86) Tryz.func86 (by kernel_rfl) fun B N hN=>?_
 rw[zHT] at hN
 have:=JL.goR (B:=B) (N:=N) (mask:=mOf 86) (l1:=fl (cOf 86)) (l2:=[]) (Q:=retJ (E86 n k u (xf n u)) Tryz.f86 false (uK n (Nat.succ k) (Jw n k u))) (n:=60) (zC9 n k u) rfl (rOf 86) [] [3,4,5] (lt0:=xd (mOf 86) 0 [uK n (Nat.succ k) u]) (lz0:=[]) (n0:=0) hN (by kernel_rfl) (by kernel_rfl) ?_
 ·rwa [List.append_nil] at this
 ·show r86 n k u (xf n u) _ _
  rw[e86]
  refine⟨⟨rfl,H⟩,?_⟩
  have q1:leI 0 (.ofNat n)=true:=wc (a:=0).2 (Nat.zero_le _)
  have q2:leI (.ofNat n) (.ofNat n)=true:=wc.2 (Nat.le_refl _)
  have q3:leI (.ofNat n) 16777216=true:=wc (b:=16777216).2 (by omega)
  refine zd.2 ⟨Nat.ble_eq_true_of_le (by omega),zd.2 ⟨by unfold mkB; rw[q1,q2,q3]; rfl,zd.2 ⟨Nat.ble_eq_true_of_le (by omega),zd.2 ⟨xb.2 (by omega),zd.2 ⟨xM.2 (Nat.lt_succ_self k),zo.2 ⟨fun _=>zd.2 ⟨xb.2 ?_,zd.2 ⟨xM.2 (Nat.lt_succ_self k),?_⟩⟩,fun q=>?_⟩⟩⟩⟩⟩⟩
  ·show 1 - u.sl (Nat.add 0 k) < _
   omega
  ·intro tr zm hz hmb hi hr
   have h3:kb zm 3=some (zv9 n u):=congrArg (fun l=>l.getD 0 none) hz
   have h4:kb zm 4=some (zwa n):=congrArg (fun l=>l.getD 1 none) hz
   have h5:kb zm 5=some (ziz k (nI (Nat.sub 1 (u.sl (Nat.add 0 k)))) (xf n u)):=congrArg (fun l=>l.getD 2 none) hz
   refine retJ.mk rfl zHU (FzP.cons (FzP.row h3 rfl rfl fun i hi=>ZT rfl (wQ _)) (FzP.cons (FzP.sl h4 rfl rfl rfl fun i hi=>FzE.noref (x:=(KV.bool false).v) rfl) (FzP.cons (FzP.row h5 rfl rfl fun i hi=>ZT ?_ rfl) (FzP.noref rfl)))) hr
   show ifN i k _ _=nI (if i=k then 1 - u.sl k else xf n u i)
   rw[wM,vb]
   by_cases e:i=k
   ·rw[if_pos e,if_pos e]; rfl
   ·rw[if_neg e,if_neg e]
  ·rw[vb] at q
   have:Nat.ble (u.sl k) 1=true:=Nat.ble_eq_true_of_le hs
   rw[this] at q; cases q
noncomputable def zDa:zf:=vp (fun x:Nat×Nat×Ud=>[uK x.1 (Nat.succ x.2.1) x.2.2]) (fun x=>UOk x.1 (Nat.succ x.2.1) x.2.2) fun x=>uK x.1 (Nat.succ x.2.1) (Jw x.1 x.2.1 x.2.2)
theorem zHV:KCS Tryz.prog 86 zDa:=vV ⟨Tryz.f86,Tryz.func86,by kernel_rfl,by kernel_rfl⟩ fun x h=>j86 h
theorem zw6 {n k:Nat}{u:Ud}(H:UOk n (Nat.succ k) u):UOk n (Nat.succ k) (Jw n k u):=⟨H.n24,H.tot,H.wl,H.wb,fun i hi=>by
 show (if i=k then 1 - u.sl k else xf n u i)≤1
 split
 ·omega
 ·exact zdg (H.sl i hi),H.st⟩
theorem zw7 {n m b a c:Nat}{u:Ud}{tg:List Nat}(H:UOk n m u) (hb:b < n) (ha:a < 4294967296) (hc:c < 18446744073709551616) (ht:tg.length=32) (hl:∀ x∈tg,x < 256):UOk n m (Qh u b (wk u b a c tg)):=by
 have e:tgS u b≤1:=by
  have:=H.st b hb
  unfold tgS
  split
  ·omega
  ·split<;>omega
 have q:(wk u b a c tg).st=tgS u b + 1:=by
  show (tgS u b + 1) % 256=_
  omega
 refine⟨H.n24,H.tot,fun i hi=>?_,fun i hi=>?_,H.sl,fun i hi=>?_⟩
 ·show (if i=b then _ else u.rc i).tg.length=32
  split
  ·exact ht
  ·exact H.wl i hi
 ·show (if i=b then wk u b a c tg else u.rc i).wb
  split
  ·exact⟨by rw[q]; omega,ha,hc,hl⟩
  ·exact H.wb i hi
 ·show (if i=b then wk u b a c tg else u.rc i).st≤2
  split
  ·rw[q]; omega
  ·exact H.st i hi
end
end Go.K
set_option maxRecDepth 100000
namespace Go.K
open Go.Ab Go.RowKit Go.Y Go.Proofs
noncomputable section
attribute [local instance 10000] gO
noncomputable def dsL (a:Nat):List Nat:=lsF 32 fun i=>Nat.mod (Nat.add a (Nat.mod (Nat.mul 7 i) 256)) 256
noncomputable def p17 (a:Nat) (K:KV→Prop):Prop:=zk EO0 (zp EO0 200) 0 17 [kU8 a] .e 0 0 fun r _ _ _=>K r
theorem e17 (a:Nat) (K:KV→Prop):p17 a K=K (kBy 32 (nN (dsL a))):=by kernel_rfl
noncomputable def noA (a:Nat):Nat:=Nat.mod (a % 4) 4294967296
noncomputable def noC (a:Nat):Nat:=Nat.mod a 18446744073709551616
noncomputable def p87 (a:Nat) (K:KV→Prop):Prop:=zk EO0 (zp EO0 200) 0 87 [kU8 a] .e 0 0 fun r _ _ _=>K r
theorem e87 (a:Nat) (K:KV→Prop):p87 a K=K (.cons (ZR (noA a)) (.cons (Jt (noC a)) .nl)):=by kernel_rfl
noncomputable def zIh (a:Nat) (K:KV→Prop):Prop:=zk EO0 (zp EO0 200) 0 156 [kU8 a] .e 0 0 fun r _ _ _=>K r
theorem zIi (a:Nat) (K:KV→Prop):zIh a K=cnd (b63 a) (cnd (b63 (Nat.add 1 (a % 24))) (K (nI (Nat.add 1 (a % 24))))):=by kernel_rfl
noncomputable def zxS:zf:=vp (fun a:Nat=>[kU8 a]) (fun a=>True) fun a=>kBy 32 (nN (dsL a))
theorem zkm (l:List Nat):xi (kBy 32 (nN l)).v=true:=by kernel_rfl
theorem zqv:KCS Tryz.prog 17 zxS:=jV ⟨Tryz.f17,Tryz.func17,by kernel_rfl,by kernel_rfl⟩ fun l K hs=>by
 obtain⟨a,rfl,_,hk⟩:=hs
 exact⟨EO0,zI,rfl,200,fun r=>r=kBy 32 (nN (dsL a)),_,hk,zkm _,fun r hr=>by rw[hr]; exact Imp.refl _,Eq.mpr (e17 a _) rfl⟩
noncomputable def zEe:zf:=vp (fun a:Nat=>[kU8 a]) (fun a=>True) fun a=>.cons (ZR (noA a)) (.cons (Jt (noC a)) .nl)
theorem zIj:KCS Tryz.prog 87 zEe:=jV ⟨Tryz.f87,Tryz.func87,by kernel_rfl,by kernel_rfl⟩ fun l K hs=>by
 obtain⟨a,rfl,_,hk⟩:=hs
 exact⟨EO0,zI,rfl,200,fun r=>r=.cons (ZR (noA a)) (.cons (Jt (noC a)) .nl),_,hk,rfl,fun r hr=>by rw[hr]; exact Imp.refl _,Eq.mpr (e87 a _) rfl⟩
noncomputable def zEf:zf:=vp (fun a:Nat=>[kU8 a]) (fun a=>a < 256) fun a=>nI (Nat.add 1 (a % 24))
theorem zIk:KCS Tryz.prog 156 zEf:=jV ⟨Tryz.f156,Tryz.func156,by kernel_rfl,by kernel_rfl⟩ fun l K hs=>by
 obtain⟨a,rfl,ha,hk⟩:=hs
 replace ha:a < 256:=ha
 exact⟨EO0,zI,rfl,200,fun r=>r=nI (Nat.add 1 (a % 24)),_,hk,rfl,fun r hr=>by rw[hr]; exact Imp.refl _,Eq.mpr (zIi a _) (zd.2 ⟨xb.2 (by omega),zd.2 ⟨xb.2 (by show 1 + a % 24 < _; omega),rfl⟩⟩)⟩
noncomputable def zqw:KEnv:=EO0.tab [(17,zxS)]
theorem zEg:KOk zqw:=zI.tab ⟨zqv,trivial⟩
noncomputable def zIl (a b:Nat) (K:KV→Prop):Prop:=zk zqw (zp zqw 200) 0 157 [kU8 a,kU8 b] .e 0 0 fun r _ _ _=>K r
noncomputable def rcT (a b:Nat) (x:Nat):Rc:=⟨a % 3,Nat.mod (b % 8) 4294967296,Nat.mod (Nat.mul (Nat.mod b 18446744073709551616) 257) 18446744073709551616,dsL x⟩
theorem zIm (a b:Nat) (K:KV→Prop):zIl a b K=alt (eqN (a % 3) 0) (K rcZ) (∃ x:Nat,[kU8 b]=[kU8 x]∧True∧K (rcT a b x).k):=by kernel_rfl
noncomputable def wY (a b:Nat):Rc:=if a % 3=0 then zRc else rcT a b b
noncomputable def zEh:zf:=vp (fun x:Nat×Nat=>[kU8 x.1,kU8 x.2]) (fun x=>True) fun x=>(wY x.1 x.2).k
theorem zIn:KCS Tryz.prog 157 zEh:=jV ⟨Tryz.f157,Tryz.func157,by kernel_rfl,by kernel_rfl⟩ fun l K hs=>by
 obtain⟨⟨a,b⟩,rfl,_,hk⟩:=hs
 refine⟨zqw,zEg,rfl,200,fun r=>Imp r.v (wY a b).k.v,_,hk,wQ _,fun r hr=>hr,Eq.mpr (zIm a b _) (zo.2 ⟨fun h=>?_,fun h=>⟨b,rfl,trivial,?_⟩⟩)⟩
 ·unfold wY
  rw[if_pos (j1.1 h)]; exact Vi
 ·unfold wY
  rw[if_neg ((bf j1).1 h)]; exact Imp.refl _
theorem zeC (a:Nat):(dsL a).length=32:=ym 32
theorem zqx {P:Nat→Prop}{f:Nat→Nat}(h:∀ i,P (f i)) (n:Nat):∀ b∈lsF n f,P b:=by
 have go:∀(n s:Nat),∀ b∈(@Nat.rec (fun _=>Nat→List Nat) (fun _=>[]) (fun _ ih i=>f i::ih (Nat.succ i)) n s),P b:=by
  intro n
  induction n with
  | zero=>intro s b hb; cases hb
  | succ n ih =>
   intro s b hb
   rcases List.mem_cons.1 (show b∈f s::_ from hb) with e | e
   ·rw[e]; exact h s
   ·exact ih _ b e
 exact go n 0
theorem zkn (a:Nat):∀ b∈dsL a,b < 256:=zqx (P:=fun b=>b < 256) (fun i=>Nat.mod_lt _ (by omega)) 32
theorem zqy (a b:Nat):(wY a b).tg.length=32∧(wY a b).wb∧(wY a b).st≤2:=by
 unfold wY
 split
 ·exact⟨rfl,W7,Nat.zero_le _⟩
 ·exact⟨zeC _,⟨by show a % 3 < 256; omega,Nat.mod_lt _ (by omega),Nat.mod_lt _ (by omega),zkn _⟩,by show a % 3≤2; omega⟩
structure Md where
 nb:Nat
 p:Nat
 pp:Nat→Nat→Nat
 q:Nat
 ss:Nat→Nat
noncomputable def shM:Shape:=.cons .sc (.cons .sc (.cons .sc .nl))
noncomputable def Md.k (x:Md):KV:=.cons (kU8 x.nb) (.cons (roK (.arr 2 .sc) x.p fun i=>.fa 2 fun j=>kU8 (x.pp i j)) (.cons (roK .sc x.q fun i=>kU8 (x.ss i)) .nl))
noncomputable def zM (x:Md):KBlk:=bx 25 shM x.k
noncomputable def l85:List Code:=fl (cOf 85)
noncomputable def zfN:Code:=lpB (blB (l85.getD 4 .skip))
noncomputable def zfO:Code:=lpB (blB (l85.getD 7 .skip))
noncomputable def E85:KEnv:=EO0.tab [(156,zEf),(157,zEh),(104,zFJ)]
theorem X2:KOk E85:=zI.tab ⟨zIk,zIn,zJM,trivial⟩
noncomputable def vK (f:Nat→Rc) (k:Nat):KBlk:=⟨.row 96,.arr k xy,.fa k fun i=>(f i).k⟩
noncomputable def zrH (x:Md) (n k:Nat) (f:Nat→Rc):LS:=([(1,pUd),(4,nI n),(5,.row 1 xy (Nat.succ k)),(6,nI (Nat.succ k))],[(0,zM x),(1,vK f (Nat.succ k))],2)
noncomputable def zzK (x:Md) (n:Nat):LS:=([(1,pUd),(4,nI n),(5,.nils),(6,nI 0)],[(0,zM x)],1)
noncomputable def zFP (x:Md) (Q:QT) (R:zl):Prop:=pc E85 85 (l85.take 4) [1,4,5,6] [0] (xd (mOf 85) 0 [x.k],[],0) Q fun v _ _=>R v
theorem zJR (x:Md) (Q:QT) (R:zl):zFP x Q R=(∃ a:Nat,[kU8 x.nb]=[kU8 a]∧a < 256∧Q .normal [pUd,nI (Nat.add 1 (a % 24)),.nils,nI 0] [some (zM x)] 1):=by kernel_rfl
noncomputable def zFQ (x:Md) (n k:Nat) (f:Nat→Rc) (Q:QT) (R:zl):Prop:=pc E85 85 (fl zfN) [1,4,5,6] [0,1,4] (zrH x n k f) Q fun v _ _=>R v
noncomputable def zJS (x:Md) (n k:Nat) (f:Nat→Rc) (Q:QT) (X:KV):Prop:=cnd (apB (Nat.succ k) 1) (cnd (b63 (Nat.add (Nat.succ k) 1)) (Q .normal [pUd,nI n,.row 4 xy (Nat.add (Nat.succ k) 1),nI (Nat.add (Nat.succ k) 1)] [some (zM x),some ⟨.dead,.arr (Nat.succ k) xy,.unk⟩,some ⟨.row 96,.arr (Nat.add (Nat.succ k) 1) xy,.fa (Nat.add (Nat.succ k) 1) fun i=>ifN i (Nat.add (Nat.succ k) 0) X (f i).k⟩] 5))
noncomputable def g85 (x:Md) (n k:Nat) (W:KV→Prop) (e:Prop):Prop:=alt (ltN k n) (alt (ltN k x.p) (cnd (ixB (.ofNat k) x.p) (cnd (ixB (.ofNat k) x.p) (∃ y:Nat×Nat,[kU8 (x.pp (Nat.add 0 k) 0),kU8 (x.pp (Nat.add 0 k) 1)]=[kU8 y.1,kU8 y.2]∧True∧W (wY y.1 y.2).k))) (W rcZ)) e
theorem zJT (x:Md) (n k:Nat) (f:Nat→Rc) (Q:QT) (R:zl):zFQ x n k f Q R=g85 x n (Nat.succ k) (zJS x n k f Q) (Q (.exit 0) [pUd,nI n,.row 1 xy (Nat.succ k),nI (Nat.succ k)] [some (zM x),some (vK f (Nat.succ k)),none] 2):=by kernel_rfl
noncomputable def zFR (x:Md) (n:Nat) (Q:QT) (R:zl):Prop:=pc E85 85 (fl zfN) [1,4,5,6] [0,3] (zzK x n) Q fun v _ _=>R v
noncomputable def zJU (x:Md) (n:Nat) (Q:QT) (X:KV):Prop:=Q .normal [pUd,nI n,.row 3 xy 1,nI 1] [some (zM x),some ⟨.row 96,.arr 1 xy,.ar 1 rcZ (xk X (enc 0) .te)⟩] 4
theorem zJV (x:Md) (n:Nat) (Q:QT) (R:zl):zFR x n Q R=g85 x n 0 (zJU x n Q) (Q (.exit 0) [pUd,nI n,.nils,nI 0] [some (zM x),none] 1):=by kernel_rfl
noncomputable def zrI (x:Md) (n:Nat) (f:Nat→Rc):LS:=([(1,pUd),(4,nI n),(5,.row 1 xy n)],[(0,zM x),(1,vK f n)],2)
noncomputable def zFS (x:Md) (n:Nat) (f:Nat→Rc) (Q:QT) (R:zl):Prop:=pc E85 85 ((l85.drop 5).take 2) [1,4,5,8,9] [0,1] (zrI x n f) Q fun v _ _=>R v
theorem zJW (x:Md) (n:Nat) (f:Nat→Rc) (Q:QT) (R:zl):zFS x n f Q R=Q .normal [pUd,nI n,.row 1 xy n,.nils,nI 0] [some (zM x),some (vK f n)] 2:=by kernel_rfl
noncomputable def Zj (g:Nat→Nat) (k:Nat):KBlk:=⟨.row 3,.arr k .sc,.fa k fun i=>nI (g i)⟩
noncomputable def YI (x:Md) (n k:Nat) (f:Nat→Rc) (g:Nat→Nat):LS:=([(1,pUd),(4,nI n),(5,.row 1 xy n),(8,.row 2 .sc (Nat.succ k)),(9,nI (Nat.succ k))],[(0,zM x),(1,vK f n),(2,Zj g (Nat.succ k))],3)
noncomputable def zzL (x:Md) (n:Nat) (f:Nat→Rc):LS:=([(1,pUd),(4,nI n),(5,.row 1 xy n),(8,.nils),(9,nI 0)],[(0,zM x),(1,vK f n)],2)
noncomputable def h85 (x:Md) (n k:Nat) (W:KV→Prop) (e:Prop):Prop:=zD n=true∧alt (ltN k (zi n)) (alt (ltN k x.q) (cnd (ixB (.ofNat k) x.q) (cnd (b63 (x.ss (Nat.add 0 k) % 2)) (W (nI (x.ss (Nat.add 0 k) % 2))))) (W (nI 0))) e
noncomputable def zJX (x:Md) (n k:Nat) (f:Nat→Rc) (g:Nat→Nat) (Q:QT) (X:KV):Prop:=cnd (apB (Nat.succ k) 1) (cnd (b63 (Nat.add (Nat.succ k) 1)) (Q .normal [pUd,nI n,.row 1 xy n,.row 4 .sc (Nat.add (Nat.succ k) 1),nI (Nat.add (Nat.succ k) 1)] [some (zM x),some (vK f n),some ⟨.dead,.arr (Nat.succ k) .sc,.unk⟩,some ⟨.row 3,.arr (Nat.add (Nat.succ k) 1) .sc,.fa (Nat.add (Nat.succ k) 1) fun i=>ifN i (Nat.add (Nat.succ k) 0) X (nI (g i))⟩] 5))
noncomputable def zFT (x:Md) (n k:Nat) (f:Nat→Rc) (g:Nat→Nat) (Q:QT) (R:zl):Prop:=pc E85 85 (fl zfO) [1,4,5,8,9] [0,1,2,4] (YI x n k f g) Q fun v _ _=>R v
theorem zJY (x:Md) (n k:Nat) (f:Nat→Rc) (g:Nat→Nat) (Q:QT) (R:zl):zFT x n k f g Q R=h85 x n (Nat.succ k) (zJX x n k f g Q) (Q (.exit 2) [pUd,nI n,.row 1 xy n,.row 2 .sc (Nat.succ k),nI (Nat.succ k)] [some (zM x),some (vK f n),some (Zj g (Nat.succ k)),none] 3):=by kernel_rfl
noncomputable def zFU (x:Md) (n:Nat) (f:Nat→Rc) (Q:QT) (R:zl):Prop:=pc E85 85 (fl zfO) [1,4,5,8,9] [0,1,3] (zzL x n f) Q fun v _ _=>R v
noncomputable def zJZ (x:Md) (n:Nat) (f:Nat→Rc) (Q:QT) (X:KV):Prop:=Q .normal [pUd,nI n,.row 1 xy n,.row 3 .sc 1,nI 1] [some (zM x),some (vK f n),some ⟨.row 3,.arr 1 .sc,.ar 1 (nI 0) (xk X (enc 0) .te)⟩] 4
theorem zJ0 (x:Md) (n:Nat) (f:Nat→Rc) (Q:QT) (R:zl):zFU x n f Q R=h85 x n 0 (zJZ x n f Q) (Q (.exit 2) [pUd,nI n,.row 1 xy n,.nils,nI 0] [some (zM x),some (vK f n),none] 2):=by kernel_rfl
noncomputable def zFV (x:Md) (n k:Nat) (f:Nat→Rc) (g:Nat→Nat) (Q:QT) (R:RT):Prop:=pc E85 85 (l85.drop 8) [] [1,2] (YI x n k f g) Q R
theorem zJ1 (x:Md) (n k:Nat) (f:Nat→Rc) (g:Nat→Nat) (Q:QT) (R:RT):zFV x n k f g Q R=R (.tup (.cons (.row 1 xy n) (.cons (.row 2 .sc (Nat.succ k)) .nl))) [some (vK f n),some (Zj g (Nat.succ k))] 3:=by kernel_rfl
end
end Go.K
set_option maxRecDepth 100000
namespace Go.K
open Go.Ab Go.RowKit Go.Y Go.Proofs
noncomputable section
attribute [local instance 10000] gO
section
variable {F:List Nat}{ρ:Nat→Nat}{nx k n:Nat}{zm:KZ}{f:Nat→Rc}{g:Nat→Nat}{x:Md}
theorem Vj {b1 b:KBlk}(h1:b1.k=b.k) (h2:b1.sh=b.sh) (hi:Imp b1.v.v b.v.v) (hw:RnB (am zm) F ρ nx b.v.v b.v.v):RnK F ρ nx zm (some b1) b:=RnK.mk' h1 h2 fun B H C M q1 q2 q3 m hm=>hw B H C M q1 q2 q3 m (hi C m hm)
theorem zuW (y:Rc):xw 0 y.k=true:=by kernel_rfl
theorem rnR:RnB (am zm) F ρ nx (vK f k).v.v (vK f k).v.v:=RnB.arr fun i hi=>nfB (zuW _)
theorem rnG:RnB (am zm) F ρ nx (Zj g k).v.v (Zj g k).v.v:=RnB.arr fun i hi=>nfB (v:=nI (g i)) rfl
theorem zhZ:RnK F ρ nx zm (some (vK f k)) (vK f k):=RnK.mk' rfl rfl rnR
theorem zGM:RnK F ρ nx zm (some (Zj g k)) (Zj g k):=RnK.mk' rfl rfl rnG
theorem zGN {X:KV}(h:Imp X.v (f 0).k.v):RnK F ρ nx zm (some ⟨.row 96,.arr 1 xy,.ar 1 rcZ (xk X (enc 0) .te)⟩) (vK f 1):=Vj rfl rfl (Imp.arr fun i hi=>by
 obtain rfl:i=0:=by omega
 exact Eq.mpr (congrArg (fun a=>Imp a (f 0).k.v) ((vX X rcZ.v 0 0 .te).trans (if_pos rfl))) h) rnR
theorem zGO {X:KV}(h:Imp X.v (f (Nat.succ k)).k.v):RnK F ρ nx zm (some ⟨.row 96,.arr (Nat.add (Nat.succ k) 1) xy,.fa (Nat.add (Nat.succ k) 1) fun i=>ifN i (Nat.add (Nat.succ k) 0) X (f i).k⟩) (vK f (Nat.succ (Nat.succ k))):=Vj rfl rfl (Imp.arr fun i hi=>by
 show Imp (ifN i (Nat.succ k) X (f i).k).v (f i).k.v
 rw[wM]
 by_cases e:i=Nat.succ k
 ·rw[if_pos e,e]; exact h
 ·rw[if_neg e]; exact Imp.refl _) rnR
theorem zGP {X:KV}(h:X=nI (g 0)):RnK F ρ nx zm (some ⟨.row 3,.arr 1 .sc,.ar 1 (nI 0) (xk X (enc 0) .te)⟩) (Zj g 1):=Vj rfl rfl (Imp.arr fun i hi=>by
 obtain rfl:i=0:=by omega
 subst h
 exact Eq.mpr (congrArg (fun a=>Imp a (nI (g 0)).v) ((vX (nI (g 0)) (nI 0).v 0 0 .te).trans (if_pos rfl))) (Imp.refl _)) rnG
theorem zGQ {X:KV}(h:X=nI (g (Nat.succ k))):RnK F ρ nx zm (some ⟨.row 3,.arr (Nat.add (Nat.succ k) 1) .sc,.fa (Nat.add (Nat.succ k) 1) fun i=>ifN i (Nat.add (Nat.succ k) 0) X (nI (g i))⟩) (Zj g (Nat.succ (Nat.succ k))):=Vj rfl rfl (Imp.arr fun i hi=>by
 show Imp (ifN i (Nat.succ k) X (nI (g i))).v (nI (g i)).v
 rw[wM]
 by_cases e:i=Nat.succ k
 ·rw[if_pos e,e,h]; exact Imp.refl _
 ·rw[if_neg e]; exact Imp.refl _) rnG
theorem kbM (x:Md):xw 0 (zM x).v=true:=by kernel_rfl
end
end
end Go.K
set_option maxRecDepth 100000
namespace Go.K
open Go.Ab Go.RowKit Go.Y Go.Proofs
noncomputable section
attribute [local instance 10000] gO
noncomputable def rcM (x:Md) (i:Nat):Rc:=if i < x.p then wY (x.pp (Nat.add 0 i) 0) (x.pp (Nat.add 0 i) 1) else zRc
noncomputable def slM (x:Md) (i:Nat):Nat:=if i < x.q then x.ss (Nat.add 0 i) % 2 else 0
noncomputable def nM (x:Md):Nat:=Nat.add 1 (x.nb % 24)
noncomputable def S1 (x:Md) (n:Nat) (f:Nat→Rc) (k:Nat):LS:=@Nat.rec (fun _=>LS) (zzK x n) (fun k _=>zrH x n k f) k
noncomputable def S2 (x:Md) (n:Nat) (f:Nat→Rc) (g:Nat→Nat) (k:Nat):LS:=@Nat.rec (fun _=>LS) (zzL x n f) (fun k _=>YI x n k f g) k
attribute [local irreducible] kpre cOf mOf rOf JL zp l85 zfN zfO zh hS zi zx xh wY
theorem zIy:Tryz.f85.ntmps=65:=by kernel_rfl
theorem zIz:Tryz.f85.results.toList=rOf 85:=by kernel_rfl
theorem zIA:fl (cOf 85)=l85:=by kernel_rfl
section
variable {x:Md}{n k:Nat}{f:Nat→Rc}{g:Nat→Nat}{tr:KTm}{zm:KZ}
theorem zIB:∀ k,nd (ltL (S1 x n f k).2.2 (S1 x n f k).2.1) (jB (mOf 85) (S1 x n f k).1)=true
 | 0=>by kernel_rfl
 | Nat.succ k=>by kernel_rfl
theorem zEq:∀ k,nd (ltL (S2 x n f g k).2.2 (S2 x n f g k).2.1) (jB (mOf 85) (S2 x n f g k).1)=true
 | 0=>by kernel_rfl
 | Nat.succ k=>by kernel_rfl
noncomputable def Z2 (a b c i:Nat):Nat:=@Nat.rec (fun _=>Nat) a (fun i _=>@Nat.rec (fun _=>Nat) b (fun _ _=>c) i) i
theorem zEr (ht:[1,4,5,6].map (zn tr)=[pUd,nI n,.nils,nI 0]) (hz:[0].map (kb zm)=[some (zM x)]):atS (mOf 85) (S1 x n f 0) tr zm :=
 atS.of (s:=zzK x n) [] id ht hz (by kernel_rfl) ⟨vg (ltk rfl),zC _ rfl,zC _ rfl,zC _ rfl,trivial⟩ ⟨RnK.nf (kbM x),trivial⟩
theorem zyc {X:KV}(hX:Imp X.v (f 0).k.v) (ht:[1,4,5,6].map (zn tr)=[pUd,nI n,.row 3 xy 1,nI 1]) (hz:[0,3].map (kb zm)=[some (zM x),some ⟨.row 96,.arr 1 xy,.ar 1 rcZ (xk X (enc 0) .te)⟩]):atS (mOf 85) (S1 x n f 1) tr zm :=
 atS.of (s:=zrH x n 0 f) [] (Z2 0 3 0) ht hz (by kernel_rfl) ⟨(show RnB (am zm) [] (Z2 0 3 0) 2 (V.ptr 0 [] shM) (V.ptr 0 [] shM) from RnB.ptr rfl (ltk rfl)).v,(nfB rfl).v,(show RnB (am zm) [] (Z2 0 3 0) 2 (V.row 3 xy _) (V.row 1 xy _) from RnB.row rfl (ltk rfl)).v,(nfB rfl).v,trivial⟩ ⟨RnK.nf (kbM x),zGN hX,trivial⟩
theorem zyd {X:KV}(hX:Imp X.v (f (Nat.succ k)).k.v) (ht:[1,4,5,6].map (zn tr)=[pUd,nI n,.row 4 xy (Nat.add (Nat.succ k) 1),nI (Nat.add (Nat.succ k) 1)]) (hz:[0,1,4].map (kb zm)=[some (zM x),some ⟨.dead,.arr (Nat.succ k) xy,.unk⟩,some ⟨.row 96,.arr (Nat.add (Nat.succ k) 1) xy,.fa (Nat.add (Nat.succ k) 1) fun i=>ifN i (Nat.add (Nat.succ k) 0) X (f i).k⟩]):atS (mOf 85) (S1 x n f (k + 2)) tr zm:=by
 have h0:kb zm 0=some (zM x):=congrArg (fun l=>l.getD 0 none) hz
 have h2:=congrArg (fun l=>l.getD 2 none) hz
 exact atS.of (s:=zrH x n (Nat.succ k) f) [] (Z2 0 4 0) (os:=[some (zM x),some ⟨.row 96,.arr (Nat.add (Nat.succ k) 1) xy,.fa (Nat.add (Nat.succ k) 1) fun i=>ifN i (Nat.add (Nat.succ k) 0) X (f i).k⟩]) ht (by
  show [kb zm 0,kb zm 4]=_
  rw[h0,show kb zm 4=_ from h2]; rfl) (by kernel_rfl) ⟨(show RnB (am zm) [] (Z2 0 4 0) 2 (V.ptr 0 [] shM) (V.ptr 0 [] shM) from RnB.ptr rfl (ltk rfl)).v,(nfB rfl).v,(show RnB (am zm) [] (Z2 0 4 0) 2 (V.row 4 xy _) (V.row 1 xy _) from RnB.row rfl (ltk rfl)).v,(nfB rfl).v,trivial⟩ ⟨RnK.nf (kbM x),zGO hX,trivial⟩
theorem zEs (ht:[1,4,5,6].map (zn tr)=[pUd,nI n,.row 1 xy n,nI n]) (hz:[0,1,4].map (kb zm)=[some (zM x),some (vK f n),none]):atS (mOf 85) (zrI x n f) tr zm:=by
 have h0:kb zm 0=some (zM x):=congrArg (fun l=>l.getD 0 none) hz
 have h1:kb zm 1=some (vK f n):=congrArg (fun l=>l.getD 1 none) hz
 have t:[1,4,5].map (zn tr)=[pUd,nI n,.row 1 xy n]:=congrArg (fun l=>l.take 3) ht
 exact atS.of (s:=zrI x n f) [] id (os:=[some (zM x),some (vK f n)]) t (by show [kb zm 0,kb zm 1]=_; rw[h0,h1]) (by kernel_rfl) ⟨vg (ltk rfl),zC _ rfl,(RnB.row rfl (ltk rfl)).v,trivial⟩ ⟨RnK.nf (kbM x),zhZ,trivial⟩
end
end
end Go.K
set_option maxRecDepth 100000
namespace Go.K
open Go.Ab Go.RowKit Go.Y Go.Proofs
noncomputable section
attribute [local instance 10000] gO
attribute [local irreducible] kpre cOf mOf rOf JL zp l85 zfN zfO zh hS zi zx xh wY
section
variable {x:Md}{n k:Nat}{f:Nat→Rc}{g:Nat→Nat}{tr:KTm}{zm:KZ}
theorem zBl (ht:[1,4,5,8,9].map (zn tr)=[pUd,nI n,.row 1 xy n,.nils,nI 0]) (hz:[0,1].map (kb zm)=[some (zM x),some (vK f n)]):atS (mOf 85) (S2 x n f g 0) tr zm :=
 atS.of (s:=zzL x n f) [] id ht hz (by kernel_rfl) ⟨vg (ltk rfl),zC _ rfl,(RnB.row rfl (ltk rfl)).v,zC _ rfl,zC _ rfl,trivial⟩ ⟨RnK.nf (kbM x),zhZ,trivial⟩
theorem zvB {X:KV}(hX:X=nI (g 0)) (ht:[1,4,5,8,9].map (zn tr)=[pUd,nI n,.row 1 xy n,.row 3 .sc 1,nI 1]) (hz:[0,1,3].map (kb zm)=[some (zM x),some (vK f n),some ⟨.row 3,.arr 1 .sc,.ar 1 (nI 0) (xk X (enc 0) .te)⟩]):atS (mOf 85) (S2 x n f g 1) tr zm :=
 atS.of (s:=YI x n 0 f g) [] (Z2 0 1 3) ht hz (by kernel_rfl) ⟨(show RnB (am zm) [] (Z2 0 1 3) 3 (V.ptr 0 [] shM) (V.ptr 0 [] shM) from RnB.ptr rfl (ltk rfl)).v,(nfB rfl).v,(show RnB (am zm) [] (Z2 0 1 3) 3 (V.row 1 xy _) (V.row 1 xy _) from RnB.row rfl (ltk rfl)).v,(show RnB (am zm) [] (Z2 0 1 3) 3 (V.row 3 .sc _) (V.row 2 .sc _) from RnB.row rfl (ltk rfl)).v,(nfB rfl).v,trivial⟩ ⟨RnK.nf (kbM x),zhZ,zGP hX,trivial⟩
theorem zvC {X:KV}(hX:X=nI (g (Nat.succ k))) (ht:[1,4,5,8,9].map (zn tr)=[pUd,nI n,.row 1 xy n,.row 4 .sc (Nat.add (Nat.succ k) 1),nI (Nat.add (Nat.succ k) 1)]) (hz:[0,1,2,4].map (kb zm)=[some (zM x),some (vK f n),some ⟨.dead,.arr (Nat.succ k) .sc,.unk⟩,some ⟨.row 3,.arr (Nat.add (Nat.succ k) 1) .sc,.fa (Nat.add (Nat.succ k) 1) fun i=>ifN i (Nat.add (Nat.succ k) 0) X (nI (g i))⟩]):atS (mOf 85) (S2 x n f g (k + 2)) tr zm:=by
 have h0:kb zm 0=some (zM x):=congrArg (fun l=>l.getD 0 none) hz
 have h1:kb zm 1=some (vK f n):=congrArg (fun l=>l.getD 1 none) hz
 have h3:=congrArg (fun l=>l.getD 3 none) hz
 exact atS.of (s:=YI x n (Nat.succ k) f g) [] (Z2 0 1 4) (os:=[some (zM x),some (vK f n),some ⟨.row 3,.arr (Nat.add (Nat.succ k) 1) .sc,.fa (Nat.add (Nat.succ k) 1) fun i=>ifN i (Nat.add (Nat.succ k) 0) X (nI (g i))⟩]) ht (by
  show [kb zm 0,kb zm 1,kb zm 4]=_
  rw[h0,h1,show kb zm 4=_ from h3]; rfl) (by kernel_rfl) ⟨(show RnB (am zm) [] (Z2 0 1 4) 3 (V.ptr 0 [] shM) (V.ptr 0 [] shM) from RnB.ptr rfl (ltk rfl)).v,(nfB rfl).v,(show RnB (am zm) [] (Z2 0 1 4) 3 (V.row 1 xy _) (V.row 1 xy _) from RnB.row rfl (ltk rfl)).v,(show RnB (am zm) [] (Z2 0 1 4) 3 (V.row 4 .sc _) (V.row 2 .sc _) from RnB.row rfl (ltk rfl)).v,(nfB rfl).v,trivial⟩ ⟨RnK.nf (kbM x),zhZ,zGQ hX,trivial⟩
theorem zBm (ht:[1,4,5,8,9].map (zn tr)=[pUd,nI n,.row 1 xy n,.row 2 .sc (Nat.succ k),nI (Nat.succ k)]) (hz:[0,1,2,4].map (kb zm)=[some (zM x),some (vK f n),some (Zj g (Nat.succ k)),none]):atS (mOf 85) (YI x n k f g) tr zm:=by
 have h0:kb zm 0=some (zM x):=congrArg (fun l=>l.getD 0 none) hz
 have h1:kb zm 1=some (vK f n):=congrArg (fun l=>l.getD 1 none) hz
 have h2:kb zm 2=some (Zj g (Nat.succ k)):=congrArg (fun l=>l.getD 2 none) hz
 exact atS.of (s:=YI x n k f g) [] id (os:=[some (zM x),some (vK f n),some (Zj g (Nat.succ k))]) ht (by show [kb zm 0,kb zm 1,kb zm 2]=_; rw[h0,h1,h2]) (by kernel_rfl) ⟨vg (ltk rfl),zC _ rfl,(RnB.row rfl (ltk rfl)).v,(RnB.row rfl (ltk rfl)).v,zC _ rfl,trivial⟩ ⟨RnK.nf (kbM x),zhZ,zGM,trivial⟩
end
end
end Go.K
set_option maxRecDepth 100000
namespace Go.K
open Go.Ab Go.RowKit Go.Y Go.Proofs
noncomputable section
attribute [local instance 10000] gO
attribute [local irreducible] kpre cOf mOf rOf JL zp l85 zfN zfO zh hS zi zx xh wY
noncomputable def Wi (x:Md):KV:=.tup (.cons (xU (nM x) (rcM x)) (.cons (qz (zi (nM x)) (slM x)) .nl))
section
variable {x:Md}{B N k:Nat}
noncomputable abbrev Q85 (x:Md):K4:=retJ E85 Tryz.f85 false (Wi x)
theorem zyb (h:¬ k < x.p):Imp rcZ.v (rcM x k).k.v:=by
 unfold rcM
 rw[if_neg h]; exact Vi
theorem j85 (hb:x.nb < 256):JFn Tryz.prog 85 false [x.k] (Wi x):=by
 have hn:zD (nM x)=true:=by
  unfold zD
  rw[za]
  exact⟨Nat.ble_eq_true_of_le (by show 1≤1 + x.nb % 24; omega),Nat.ble_eq_true_of_le (by show 1 + x.nb % 24≤24; omega)⟩
 obtain⟨n1,n2⟩:=zH hn
 have h9:=jK hn
 have ht1:1≤zi (nM x):=by unfold zi; exact Nat.succ_le_succ (Nat.zero_le _)
 refine JFn.of (P:=Tryz.prog) X2 rfl (c:=cOf 85) (mOf 85) Tryz.func85 (by kernel_rfl) fun B N hN=>?_
 rw[zIy] at hN
 rw[zIA]
 refine JL.stp (n:=60) (s:=(xd (mOf 85) 0 [x.k],[],0)) X2 rfl 4 (rOf 85) [1,4,5,6] [0] hN (by kernel_rfl) (by kernel_rfl) (fun v=>False) (fun v tr zm nx h1 h2 h3 h4=>h1.elim) ?_
 show zFP x _ _
 rw[zJR]
 refine⟨x.nb,rfl,hb,?_⟩
 intro tr zm ht hz hmb hi
 refine JL.loopT X2 (fun k=>S1 x (nM x) (rcM x) k) (fun k=>nM x - k) (fun k=>k≤nM x) (id:=0) (b:=zfN) (l2:=l85.drop 5) (by kernel_rfl) (fun w=>zIB w) 0 (Nat.zero_le _) (zEr ht hz) hmb hi ?_
 have rest:∀ tr zm nx,atS (mOf 85) (zrI x (nM x) (rcM x)) tr zm→JL E85 B N (mOf 85) (l85.drop 5) tr zm nx (Q85 x):=by
  intro tr zm nx hat
  refine JL.preS X2 hat (xL (by kernel_rfl)) ?_
  refine JL.stp (n:=60) X2 rfl 2 (rOf 85) [1,4,5,8,9] [0,1] hN (by kernel_rfl) (by kernel_rfl) (fun v=>False) (fun v tr zm nx h1 h2 h3 h4=>h1.elim) ?_
  show zFS x (nM x) (rcM x) _ _
  rw[zJW]
  intro tr zm ht hz hmb hi
  show JL E85 B N (mOf 85) ((l85.drop 5).drop 2) tr zm 2 (Q85 x)
  rw[List.drop_drop]
  refine JL.loopT X2 (fun k=>S2 x (nM x) (rcM x) (slM x) k) (fun k=>zi (nM x) - k) (fun k=>k≤zi (nM x)) (id:=2) (b:=zfO) (l2:=l85.drop 8) (by kernel_rfl) (fun w=>zEq w) 0 (Nat.zero_le _) (zBl ht hz) hmb hi ?_
  intro k hk
  have hW:∀(W:KV→Prop) (e:Prop),(k < zi (nM x)→W (nI (slM x k)))→(¬ k < zi (nM x)→e)→h85 x (nM x) k W e:=by
   intro W e h1 h2
   refine⟨hn,zo.2 ⟨fun q=>?_,fun q=>h2 ((bf xr).1 q)⟩⟩
   have h3:=h1 (xr.1 q)
   unfold slM at h3
   refine zo.2 ⟨fun q2=>?_,fun q2=>?_⟩
   ·rw[if_pos (xr.1 q2)] at h3
    exact zd.2 ⟨xM.2 (xr.1 q2),zd.2 ⟨xb.2 (by omega),h3⟩⟩
   ·rw[if_neg ((bf xr).1 q2)] at h3
    exact h3
  cases k with
  | zero =>
   refine JL.all (n:=60) X2 rfl (rOf 85) [1,4,5,8,9] [0,1,3] hN (by kernel_rfl) (by kernel_rfl) (fun v=>False) (fun v tr zm nx h1 h2 h3 h4=>h1.elim) ?_
   show zFU x (nM x) (rcM x) _ _
   rw[zJ0]
   refine hW _ _ (fun _=>?_) fun q=>absurd ht1 (by omega)
   intro tr zm ht hz hmb hi
   exact⟨1,by omega,ht1,zvB rfl ht hz⟩
  | succ k =>
   refine JL.all (n:=60) X2 rfl (rOf 85) [1,4,5,8,9] [0,1,2,4] hN (by kernel_rfl) (by kernel_rfl) (fun v=>False) (fun v tr zm nx h1 h2 h3 h4=>h1.elim) ?_
   show zFT x (nM x) k (rcM x) (slM x) _ _
   rw[zJY]
   refine hW _ _ (fun q=>?_) fun q=>?_
   ·refine zd.2 ⟨Nat.ble_eq_true_of_le (by omega),zd.2 ⟨xb.2 (by show k + 1 + 1 < _; omega),?_⟩⟩
    intro tr zm ht hz hmb hi
    exact⟨k + 2,by omega,by omega,zvC rfl ht hz⟩
   ·intro tr zm ht hz hmb hi
    show (if (2:Nat)=2 then JL E85 B N (mOf 85) (l85.drop 8) tr zm 3 (Q85 x) else _)
    rw[if_pos rfl]
    have hkm:zi (nM x)=Nat.succ k:=by show _=k + 1; omega
    refine JL.preS X2 (zBm ht hz) (xL (by kernel_rfl)) ?_
    have:=JL.goR (B:=B) (N:=N) (mask:=mOf 85) (l1:=l85.drop 8) (l2:=[]) (Q:=Q85 x) (n:=60) X2 rfl (rOf 85) [] [1,2] (lt0:=(YI x (nM x) k (rcM x) (slM x)).1) (lz0:=(YI x (nM x) k (rcM x) (slM x)).2.1) (n0:=3) hN (by kernel_rfl) (by kernel_rfl) ?_
    ·rwa [List.append_nil] at this
    ·show zFV x (nM x) k (rcM x) (slM x) _ _
     rw[zJ1]
     intro tr zm hz hmb hi hr
     have h1:kb zm 1=some (vK (rcM x) (nM x)):=congrArg (fun l=>l.getD 0 none) hz
     have h2:kb zm 2=some (Zj (slM x) (Nat.succ k)):=congrArg (fun l=>l.getD 1 none) hz
     unfold Q85 Wi
     rw[hkm]
     exact retJ.mk rfl zIz (FzP.tup (FzP.cons (FzP.row h1 rfl rfl fun i hi=>ZT rfl (wQ _)) (FzP.cons (FzP.row h2 rfl rfl fun i hi=>ZT rfl rfl) (FzP.noref rfl)))) hr
 intro k hk
 have hW:∀(W:KV→Prop) (e:Prop),(k < nM x→∀ X:KV,Imp X.v (rcM x k).k.v→W X)→(¬ k < nM x→e)→g85 x (nM x) k W e:=by
  intro W e h1 h2
  refine zo.2 ⟨fun q=>?_,fun q=>h2 ((bf xr).1 q)⟩
  have h3:=h1 (xr.1 q)
  refine zo.2 ⟨fun q2=>?_,fun q2=>h3 _ (zyb ((bf xr).1 q2))⟩
  have q3:=xr.1 q2
  refine zd.2 ⟨xM.2 q3,zd.2 ⟨xM.2 q3,(x.pp (Nat.add 0 k) 0,x.pp (Nat.add 0 k) 1),rfl,trivial,h3 _ ?_⟩⟩
  unfold rcM
  rw[if_pos q3]; exact Imp.refl _
 cases k with
 | zero =>
  refine JL.all (n:=60) X2 rfl (rOf 85) [1,4,5,6] [0,3] hN (by kernel_rfl) (by kernel_rfl) (fun v=>False) (fun v tr zm nx h1 h2 h3 h4=>h1.elim) ?_
  show zFR x (nM x) _ _
  rw[zJV]
  refine hW _ _ (fun _ X hX=>?_) fun q=>absurd n1 (by omega)
  intro tr zm ht hz hmb hi
  exact⟨1,by omega,n1,zyc hX ht hz⟩
 | succ k =>
  refine JL.all (n:=60) X2 rfl (rOf 85) [1,4,5,6] [0,1,4] hN (by kernel_rfl) (by kernel_rfl) (fun v=>False) (fun v tr zm nx h1 h2 h3 h4=>h1.elim) ?_
  show zFQ x (nM x) k (rcM x) _ _
  rw[zJT]
  refine hW _ _ (fun q X hX=>?_) fun q=>?_
  ·refine zd.2 ⟨Nat.ble_eq_true_of_le (by omega),zd.2 ⟨xb.2 (by show k + 1 + 1 < _; omega),?_⟩⟩
   intro tr zm ht hz hmb hi
   exact⟨k + 2,by omega,by omega,zyd hX ht hz⟩
  ·intro tr zm ht hz hmb hi
   show (if (0:Nat)=0 then JL E85 B N (mOf 85) (l85.drop 5) tr zm 2 (Q85 x) else _)
   rw[if_pos rfl]
   have hkm:Nat.succ k=nM x:=by show k + 1=_; omega
   rw[hkm] at ht hz
   exact rest tr zm 2 (zEs ht hz)
end
noncomputable def sOf:zf:=vp (fun x:Md=>[x.k]) (fun x=>x.nb < 256) Wi
theorem kOf:KCS Tryz.prog 85 sOf:=vV ⟨Tryz.f85,Tryz.func85,by kernel_rfl,by kernel_rfl⟩ fun x h=>j85 h
end
end Go.K
set_option maxRecDepth 100000
namespace Go.K
open Go.Ab Go.RowKit Go.Y Go.Proofs
noncomputable section
attribute [local instance 10000] gO
noncomputable def zE7 (n:Nat):KBlk:=⟨.box 4,.arr n .sc,.ar n (.bool false) .te⟩
noncomputable def v61 (n m:Nat):KV:=.cons (.row 1 xy n) (.cons (.sl 2 [] .sc 0 n (some n)) (.cons (.row 3 .sc m) .nl))
noncomputable def r61 (n m:Nat) (rc:Nat→Rc) (f:Nat→Nat) (Q:QT) (R:RT):Prop:=pc EO0 61 (fl (cOf 61)) [] [1,2,3] (xd (mOf 61) 0 [xU n rc,qz m f],[],0) Q R
theorem e61 (n m:Nat) (rc:Nat→Rc) (f:Nat→Nat) (Q:QT) (R:RT):r61 n m rc f Q R=cnd (apB 0 n) (cnd (mkB (.ofNat n) (.ofNat n)) (cnd (apB 0 m) (R (v61 n m) [some (vK rc n),some (zE7 n),some (Zj f m)] 4))):=by kernel_rfl
attribute [local irreducible] kpre cOf mOf rOf JL zp zh hS zi zx xh
theorem zJc:Tryz.f61.ntmps=13:=by kernel_rfl
theorem zJd:Tryz.f61.results.toList=rOf 61:=by kernel_rfl
theorem j61 {n m:Nat}{rc:Nat→Rc}{f:Nat→Nat}(hn:n≤24) (hm:m≤9):JFn Tryz.prog 61 false [xU n rc,qz m f] (uK n m ⟨rc,fun _=>false,f⟩):=by
 refine JFn.of (P:=Tryz.prog) zI rfl (c:=cOf 61) (mOf 61) Tryz.func61 (by kernel_rfl) fun B N hN=>?_
 rw[zJc] at hN
 have:=JL.goR (B:=B) (N:=N) (mask:=mOf 61) (l1:=fl (cOf 61)) (l2:=[]) (Q:=retJ EO0 Tryz.f61 false (uK n m ⟨rc,fun _=>false,f⟩)) (n:=60) zI rfl (rOf 61) [] [1,2,3] (lt0:=xd (mOf 61) 0 [xU n rc,qz m f]) (lz0:=[]) (n0:=0) hN (by kernel_rfl) (by kernel_rfl) ?_
 ·rwa [List.append_nil] at this
 ·show r61 n m rc f _ _
  rw[e61]
  have q1:leI 0 (.ofNat n)=true:=wc (a:=0).2 (Nat.zero_le _)
  have q2:leI (.ofNat n) (.ofNat n)=true:=wc.2 (Nat.le_refl _)
  have q3:leI (.ofNat n) 16777216=true:=wc (b:=16777216).2 (by omega)
  refine zd.2 ⟨Nat.ble_eq_true_of_le (by omega),zd.2 ⟨by unfold mkB; rw[q1,q2,q3]; rfl,zd.2 ⟨Nat.ble_eq_true_of_le (by omega),?_⟩⟩⟩
  intro tr zm hz hmb hi hr
  have h1:kb zm 1=some (vK rc n):=congrArg (fun l=>l.getD 0 none) hz
  have h2:kb zm 2=some (zE7 n):=congrArg (fun l=>l.getD 1 none) hz
  have h3:kb zm 3=some (Zj f m):=congrArg (fun l=>l.getD 2 none) hz
  exact retJ.mk rfl zJd (FzP.cons (FzP.row h1 rfl rfl fun i hi=>ZT rfl (wQ _)) (FzP.cons (FzP.sl h2 rfl rfl rfl fun i hi=>FzE.noref (x:=(KV.bool false).v) rfl) (FzP.cons (FzP.row h3 rfl rfl fun i hi=>ZT rfl rfl) (FzP.noref rfl)))) hr
noncomputable def zE8:zf:=vp (fun x:Nat×Nat×(Nat→Rc)×(Nat→Nat)=>[xU x.1 x.2.2.1,qz x.2.1 x.2.2.2]) (fun x=>x.1≤24∧x.2.1≤9) fun x=>uK x.1 x.2.1 ⟨x.2.2.1,fun _=>false,x.2.2.2⟩
theorem zJe:KCS Tryz.prog 61 zE8:=vV ⟨Tryz.f61,Tryz.func61,by kernel_rfl,by kernel_rfl⟩ fun x h=>j61 h.1 h.2
end
end Go.K
set_option maxRecDepth 100000
namespace Go.K
open Go.Ab Go.RowKit Go.Y Go.Proofs
noncomputable section
attribute [local instance 10000] gO
structure Sd where
 t:Md
 c:Nat
 sp:Nat→Nat→Nat
noncomputable def shS:Shape:=.cons shM (.cons .sc .nl)
noncomputable def Sd.k (x:Sd):KV:=.cons x.t.k (.cons (roK (.arr 2 .sc) x.c fun i=>.fa 2 fun j=>kU8 (x.sp i j)) .nl)
noncomputable def zS (x:Sd):KBlk:=bx 27 shS x.k
noncomputable def E15:KEnv:=EO0.tab [(85,sOf),(61,zE8),(86,zDa),(38,zBX),(87,zEe),(17,zxS)]
theorem zfB:KOk E15:=zI.tab ⟨kOf,zJe,zHV,zHf,zIj,zqv,trivial⟩
noncomputable def l15:List Code:=fl (cOf 15)
noncomputable def b15:Code:=lpB (blB (l15.getD 4 .skip))
noncomputable def pS:KV:=.ptr 0 [] shS
noncomputable def zR:KBlk:=bx 33 shU (.cons .nils (.cons .nils (.cons .nils .nl)))
noncomputable def s15 (x:Sd) (n k:Nat) (rc:Nat→Rc) (u:Ud) (i:Nat):LS:=([(1,pS),(2,.ptr 1 [] shU),(3,xU n rc),(5,.ptr 2 [] shU),(6,nI i)],[(0,zS x),(1,zR),(2,zU n (Nat.succ k) u)],3)
noncomputable def zCJ (x:Sd) (Q:QT) (R:zl):Prop:=pc E15 15 (l15.take 4) [1,2,3,5,6] [0,1,2] (xd (mOf 15) 0 [x.k],[],0) Q fun v _ _=>R v
theorem zHK (x:Sd) (Q:QT) (R:zl):zCJ x Q R=(∃ a:Md,[x.t.k]=[a.k]∧a.nb < 256∧∃ y:Nat×Nat×(Nat→Rc)×(Nat→Nat),[xU (nM a) (rcM a),qz (zi (nM a)) (slM a)]=[xU y.1 y.2.2.1,qz y.2.1 y.2.2.2]∧(y.1≤24∧y.2.1≤9)∧Q .normal [pS,.ptr 1 [] shU,xU (nM a) (rcM a),.ptr 2 [] shU,nI 0] [some (zS x),some zR,some (bx 33 shU (uK y.1 y.2.1 ⟨y.2.2.1,fun _=>false,y.2.2.2⟩))] 3):=by kernel_rfl
noncomputable def sp0 (x:Sd) (i j:Nat):Nat:=x.sp (Nat.add 0 i) j
noncomputable def v15 (n:Nat) (rc:Nat→Rc) (i:Nat):List KV:=[pS,.ptr 1 [] shU,xU n rc,.ptr 2 [] shU,nI i]
noncomputable def n15 (x:Sd) (n:Nat) (rc:Nat→Rc) (i:Nat) (Q:QT) (w:KV):Prop:=cnd (b63 (Nat.add i 1)) (Q .normal (v15 n rc (Nat.add i 1)) [some (zS x),some zR,some (bx 33 shU w)] 3)
noncomputable def zCK (x:Sd) (n k:Nat) (rc:Nat→Rc) (u:Ud) (i:Nat) (Q:QT) (R:zl):Prop:=pc E15 15 (fl b15) [1,2,3,5,6] [0,1,2] (s15 x n k rc u i) Q fun v _ _=>R v
abbrev P7:=Nat×Nat×Ud×Nat×Nat×Nat×List Nat
noncomputable def f15 (x:Sd) (n k:Nat) (rc:Nat→Rc) (u:Ud) (i:Nat) (Q:QT) (W:KV→Prop) (e:Prop):Prop :=
 alt (ltN i x.c) (alt (ltN i 20) (cnd (ixB (.ofNat i) x.c) (alt (leN 250 (sp0 x i 0)) (∃ y:Nat×Nat×Ud,[uK n (Nat.succ k) u]=[uK y.1 (Nat.succ y.2.1) y.2.2]∧UOk y.1 (Nat.succ y.2.1) y.2.2∧W (uK y.1 (Nat.succ y.2.1) (Jw y.1 y.2.1 y.2.2)))
  (cnd (ixB (.ofNat i) x.c) (cnd (b63 (sp0 x i 0)) (cnd (neB (.ofNat n)) (cnd (ixB (.ofNat i) x.c) (∃ a:Nat,[kU8 (sp0 x i 1)]=[kU8 a]∧True∧cnd (ixB (.ofNat i) x.c) (∃ d:Nat,[kU8 (sp0 x i 1)]=[kU8 d]∧True ∧
   ∃ y:P7,[uK n (Nat.succ k) u,nI (sp0 x i 0 % n),.cons (ZR (noA a)) (.cons (Jt (noC a)) .nl),kBy 32 (nN (dsL d))]=zlJ y.1 y.2.1 y.2.2.1 y.2.2.2.1 y.2.2.2.2.1 y.2.2.2.2.2.1 y.2.2.2.2.2.2∧(y.1≤24∧y.2.1≤9∧y.2.2.2.1 < y.1∧(y.2.2.1.rc y.2.2.2.1).st≤2)∧W (uK y.1 y.2.1 (Qh y.2.2.1 y.2.2.2.1 (wk y.2.2.1 y.2.2.2.1 y.2.2.2.2.1 y.2.2.2.2.2.1 y.2.2.2.2.2.2))))))))))) e) e
theorem zHL (x:Sd) (n k:Nat) (rc:Nat→Rc) (u:Ud) (i:Nat) (Q:QT) (R:zl):zCK x n k rc u i Q R=f15 x n k rc u i Q (n15 x n rc i Q) (Q (.exit 0) (v15 n rc i) [some (zS x),some zR,some (zU n (Nat.succ k) u)] 3):=by kernel_rfl
noncomputable def zBs (x:Sd) (n k:Nat) (rc:Nat→Rc) (u:Ud) (i:Nat) (Q:QT) (R:RT):Prop:=pc E15 15 (l15.drop 5) [] [] (s15 x n k rc u i) Q R
theorem zG3 (x:Sd) (n k:Nat) (rc:Nat→Rc) (u:Ud) (i:Nat) (Q:QT) (R:RT):zBs x n k rc u i Q R=R (uK n (Nat.succ k) u) [] 3:=by kernel_rfl
noncomputable def uAt (x:Sd) (n k:Nat):Nat→Ud
 | 0=>⟨rcM x.t,fun _=>false,slM x.t⟩
 | i + 1=>if 250≤x.sp i 0 then Jw n k (uAt x n k i) else Qh (uAt x n k i) (x.sp i 0 % n) (wk (uAt x n k i) (x.sp i 0 % n) (noA (x.sp i 1)) (noC (x.sp i 1)) (dsL (x.sp i 1)))
theorem W8 {x:Sd}{n k:Nat}(h:UOk n (Nat.succ k) ⟨rcM x.t,fun _=>false,slM x.t⟩):∀ i,UOk n (Nat.succ k) (uAt x n k i)
 | 0=>h
 | i + 1=>by
  have ih:=W8 h i
  obtain⟨n1,n2⟩:=zH ih.n24
  show UOk n (Nat.succ k) (if 250≤x.sp i 0 then Jw n k (uAt x n k i) else Qh (uAt x n k i) (x.sp i 0 % n) (wk (uAt x n k i) (x.sp i 0 % n) (noA (x.sp i 1)) (noC (x.sp i 1)) (dsL (x.sp i 1))))
  split
  ·exact zw6 ih
  ·exact zw7 ih (Nat.mod_lt _ (by omega)) (Nat.mod_lt _ (by omega)) (Nat.mod_lt _ (by omega)) (zeC _) (zkn _)
attribute [local irreducible] kpre cOf mOf rOf JL zp l15 b15 zh hS zi zx xh wY
theorem zJN:Tryz.f15.ntmps=63:=by kernel_rfl
theorem zJO:Tryz.f15.results.toList=rOf 15:=by kernel_rfl
theorem zJP:fl (cOf 15)=l15:=by kernel_rfl
theorem kbS (x:Sd):xw 0 (zS x).v=true:=by kernel_rfl
theorem kbR:xw 0 zR.v=true:=by kernel_rfl
theorem zzG {x:Sd}{n k i:Nat}{rc:Nat→Rc}{u:Ud}{tr:KTm}{zm:KZ}(ht:[1,2,3,5,6].map (zn tr)=v15 n rc i) (hz:[0,1,2].map (kb zm)=[some (zS x),some zR,some (zU n (Nat.succ k) u)]):atS (mOf 15) (s15 x n k rc u i) tr zm :=
 atS.of (s:=s15 x n k rc u i) [] id ht hz (by kernel_rfl) ⟨vg (ltk rfl),vg (ltk rfl),zC _ rfl,vg (ltk rfl),zC _ rfl,trivial⟩ ⟨RnK.nf (kbS x),RnK.nf kbR,RnK.nf (kbU _ _ _),trivial⟩
theorem JH {x:Md}(hb:x.nb < 256):UOk (nM x) (zi (nM x)) ⟨rcM x,fun _=>false,slM x⟩:=by
 have hn:zD (nM x)=true:=by
  unfold zD
  rw[za]
  exact⟨Nat.ble_eq_true_of_le (by show 1≤1 + x.nb % 24; omega),Nat.ble_eq_true_of_le (by show 1 + x.nb % 24≤24; omega)⟩
 have hr:∀ i,(rcM x i).tg.length=32∧(rcM x i).wb∧(rcM x i).st≤2:=fun i=>by
  unfold rcM
  split
  ·exact zqy _ _
  ·exact⟨rfl,W7,Nat.zero_le _⟩
 exact⟨hn,rfl,fun i _=>(hr i).1,fun i _=>(hr i).2.1,fun i _=>by
  show slM x i≤1
  unfold slM
  split<;>omega,fun i _=>(hr i).2.2⟩
theorem FzP.ub {zm:KZ}{v:KV}(h:ubK v=true):FzP true zm v v:=fun B C M _ _=>R.allT_fr h
theorem zzH (x:Sd) (i j:Nat):sp0 x i j=x.sp i j:=congrArg (fun q=>x.sp q j) (vb i)
theorem znd {n:Nat}{f:Nat→KV}(h:∀ i,ubK (f i)=true):ubK (.fa n f)=true:=Xv.2 h
theorem zzI (x:Rc):ubK x.k=true:=by kernel_rfl
theorem zdc {s:Shape}{n:Nat}{f:Nat→KV}(h:∀ i,ubK (f i)=true):ubK (roK s n f)=true:=by
 show nd true (ubK (.fa n f))=true
 rw[znd h]; rfl
theorem zFM (n m:Nat) (u:Ud):ubK (uK n m u)=true:=by
 show nd (ubK (roK xy n fun i=>(u.rc i).k)) (nd (ubK (roK .sc n fun i=>.bool (u.ch i))) (nd (ubK (roK .sc m fun i=>nI (u.sl i))) true))=true
 rw[zdc fun i=>zzI _,zdc fun i=>rfl,zdc fun i=>rfl]; rfl
theorem zFN (x:Sd) (n k:Nat) (rc:Nat→Rc) (u:Ud) (i:Nat):nd (ltL (s15 x n k rc u i).2.2 (s15 x n k rc u i).2.1) (jB (mOf 15) (s15 x n k rc u i).1)=true:=by kernel_rfl
section
variable {x:Sd}{B N:Nat}
noncomputable abbrev Q15 (n m:Nat) (u:Ud):K4:=retJ E15 Tryz.f15 true (uK n m u)
theorem j15 (hb:x.t.nb < 256) (hp:∀ i j,x.sp i j < 256):JFn Tryz.prog 15 true [x.k] (uK (nM x.t) (zi (nM x.t)) (uAt x (nM x.t) (zi (nM x.t) - 1) (min x.c 20))):=by
 have H0:=JH hb
 obtain⟨k,hk⟩:∃ k,zi (nM x.t)=Nat.succ k:=⟨zh (nM x.t) (hS (nM x.t)) 0,by unfold zi; rfl⟩
 have h9:=jK H0.n24
 obtain⟨n1,n2⟩:=zH H0.n24
 rw[hk] at H0
 have hkk:zi (nM x.t) - 1=k:=by omega
 rw[hkk,hk]
 rw[hk] at h9
 have hOk:=fun i=>W8 H0 i
 refine JFn.of (P:=Tryz.prog) zfB rfl (c:=cOf 15) (mOf 15) Tryz.func15 (by kernel_rfl) fun B N hN=>?_
 rw[zJN] at hN
 rw[zJP]
 refine JL.stp (n:=60) (s:=(xd (mOf 15) 0 [x.k],[],0)) zfB rfl 4 (rOf 15) [1,2,3,5,6] [0,1,2] hN (by kernel_rfl) (by kernel_rfl) (fun v=>False) (fun v tr zm nx h1 h2 h3 h4=>h1.elim) ?_
 show zCJ x _ _
 rw[zHK]
 refine⟨x.t,rfl,hb,(nM x.t,zi (nM x.t),rcM x.t,slM x.t),rfl,⟨n2,by show zi (nM x.t)≤9; omega⟩,?_⟩
 intro tr zm ht hz hmb hi
 have hz':[0,1,2].map (kb zm)=[some (zS x),some zR,some (zU (nM x.t) (Nat.succ k) (uAt x (nM x.t) k 0))]:=by rw[←hk]; exact hz
 refine JL.loopT zfB (fun i=>s15 x (nM x.t) k (rcM x.t) (uAt x (nM x.t) k i) i) (fun i=>20 - i) (fun i=>i≤min x.c 20) (id:=0) (b:=b15) (l2:=l15.drop 5) (by kernel_rfl) (fun i=>zFN _ _ _ _ _ _) 0 (Nat.zero_le _) (zzG ht hz') hmb hi ?_
 intro i hi
 refine JL.all (n:=60) zfB rfl (rOf 15) [1,2,3,5,6] [0,1,2] hN (by kernel_rfl) (zFN _ _ _ _ _ _) (fun v=>False) (fun v tr zm nx h1 h2 h3 h4=>h1.elim) ?_
 show zCK x (nM x.t) k (rcM x.t) (uAt x (nM x.t) k i) i _ _
 rw[zHL]
 have hO:=hOk i
 have hsp:=zzH x i
 have hp0:=hp i 0
 have hp1:=hp i 1
 have leN_t:∀ {a b:Nat},leN a b=true↔a≤b:=wc
 have next:∀ w,i < x.c→i < 20→w=uK (nM x.t) (Nat.succ k) (uAt x (nM x.t) k (i + 1))→n15 x (nM x.t) (rcM x.t) i (goQ (mOf 15) [1,2,3,5,6] [0,1,2] fun e tr zm nx=>match e with
   | .normal=>∃ s',20 - s' < 20 - i∧s'≤min x.c 20∧atS (mOf 15) (s15 x (nM x.t) k (rcM x.t) (uAt x (nM x.t) k s') s') tr zm
   | .exit i=>if i=0 then JL E15 B N (mOf 15) (l15.drop 5) tr zm nx (Q15 (nM x.t) (Nat.succ k) (uAt x (nM x.t) k (min x.c 20))) else Q15 (nM x.t) (Nat.succ k) (uAt x (nM x.t) k (min x.c 20)) (.exit i) tr zm nx
   | e=>Q15 (nM x.t) (Nat.succ k) (uAt x (nM x.t) k (min x.c 20)) e tr zm nx) w:=by
  rintro w h1 h2 rfl
  refine zd.2 ⟨xb.2 (by show i + 1 < _; omega),?_⟩
  intro tr zm ht hz hmb hi
  exact⟨i + 1,by omega,by omega,zzG ht hz⟩
 have out:min x.c 20=i→(goQ (mOf 15) [1,2,3,5,6] [0,1,2] fun e tr zm nx=>match e with
   | .normal=>∃ s',20 - s' < 20 - i∧s'≤min x.c 20∧atS (mOf 15) (s15 x (nM x.t) k (rcM x.t) (uAt x (nM x.t) k s') s') tr zm
   | .exit i=>if i=0 then JL E15 B N (mOf 15) (l15.drop 5) tr zm nx (Q15 (nM x.t) (Nat.succ k) (uAt x (nM x.t) k (min x.c 20))) else Q15 (nM x.t) (Nat.succ k) (uAt x (nM x.t) k (min x.c 20)) (.exit i) tr zm nx
   | e=>Q15 (nM x.t) (Nat.succ k) (uAt x (nM x.t) k (min x.c 20)) e tr zm nx) (.exit 0) (v15 (nM x.t) (rcM x.t) i) [some (zS x),some zR,some (zU (nM x.t) (Nat.succ k) (uAt x (nM x.t) k i))] 3:=by
  intro h1
  intro tr zm ht hz hmb hi
  show (if (0:Nat)=0 then JL E15 B N (mOf 15) (l15.drop 5) tr zm 3 _ else _)
  rw[if_pos rfl,h1]
  refine JL.preS zfB (zzG ht hz) (xL (by kernel_rfl)) ?_
  have:=JL.goR (B:=B) (N:=N) (mask:=mOf 15) (l1:=l15.drop 5) (l2:=[]) (Q:=Q15 (nM x.t) (Nat.succ k) (uAt x (nM x.t) k i)) (n:=60) zfB rfl (rOf 15) [] [] (lt0:=(s15 x (nM x.t) k (rcM x.t) (uAt x (nM x.t) k i) i).1) (lz0:=(s15 x (nM x.t) k (rcM x.t) (uAt x (nM x.t) k i) i).2.1) (n0:=3) hN (by kernel_rfl) (by kernel_rfl) ?_
  ·rwa [List.append_nil] at this
  ·show zBs x (nM x.t) k (rcM x.t) (uAt x (nM x.t) k i) i _ _
   rw[zG3]
   intro tr zm hz hmb hi hr
   exact retJ.mk rfl zJO (FzP.ub (zFM _ _ _)) hr
 unfold f15
 simp only[hsp]
 refine zo.2 ⟨fun q=>?_,fun q=>out (by have:=(bf xr).1 q; omega)⟩
 have q1:=xr.1 q
 refine zo.2 ⟨fun q2=>?_,fun q2=>out (by have:=(bf xr).1 q2; omega)⟩
 have q3:=xr.1 q2
 refine zd.2 ⟨xM.2 q1,zo.2 ⟨fun q4=>?_,fun q4=>?_⟩⟩
 ·refine⟨(nM x.t,k,uAt x (nM x.t) k i),rfl,hO,next _ q1 q3 ?_⟩
  show uK _ _ (Jw (nM x.t) k (uAt x (nM x.t) k i))=uK _ _ (if 250≤x.sp i 0 then Jw (nM x.t) k (uAt x (nM x.t) k i) else _)
  rw[if_pos (leN_t.1 q4)]
 ·have hlt:x.sp i 0 % nM x.t < nM x.t:=Nat.mod_lt _ (by omega)
  refine zd.2 ⟨xM.2 q1,zd.2 ⟨xb.2 (by omega),zd.2 ⟨?_,zd.2 ⟨xM.2 q1,x.sp i 1,rfl,trivial,zd.2 ⟨xM.2 q1,x.sp i 1,rfl,trivial,(nM x.t,Nat.succ k,uAt x (nM x.t) k i,x.sp i 0 % nM x.t,noA (x.sp i 1),noC (x.sp i 1),dsL (x.sp i 1)),rfl,⟨n2,by show Nat.succ k≤9; omega,hlt,hO.st _ hlt⟩,next _ q1 q3 ?_⟩⟩⟩⟩⟩
  ·unfold neB
   rw[qI]
   have:¬ (Int.ofNat (nM x.t)=0):=fun h=>by have:nM x.t=0:=Int.ofNat.inj h; omega
   simp
   omega
  ·show uK _ _ (Qh _ _ _)=uK _ _ (if 250≤x.sp i 0 then _ else _)
   rw[if_neg ((bf leN_t).1 q4)]
end
noncomputable def preS (x:Sd):Prop:=x.t.nb < 256∧∀ i j,x.sp i j < 256
noncomputable def zdd (x:Sd):Ud:=uAt x (nM x.t) (zi (nM x.t) - 1) (min x.c 20)
noncomputable def zJQ:zf:=vp (fun x:Sd=>[x.k]) preS fun x=>uK (nM x.t) (zi (nM x.t)) (zdd x)
theorem zFO:ZK Tryz.prog 15 zJQ:=zn3 ⟨Tryz.f15,Tryz.func15,by kernel_rfl,by kernel_rfl⟩ fun x h=>j15 h.1 h.2
theorem zrG {x:Sd}(h:preS x):UOk (nM x.t) (zi (nM x.t)) (zdd x):=by
 obtain⟨k,hk⟩:∃ k,zi (nM x.t)=Nat.succ k:=⟨zh (nM x.t) (hS (nM x.t)) 0,by unfold zi; rfl⟩
 have H0:=JH h.1
 unfold zdd
 rw[hk] at H0 ⊢
 exact W8 H0 _
end
end Go.K
set_option maxRecDepth 100000
namespace Go.K
open Go.Ab Go.RowKit Go.Y Go.Proofs
noncomputable section
attribute [local instance 10000] gO
noncomputable def la4 (l:List KV) (f:KV→KV→KV→KV→Prop):Prop:=match l with
 | [a,b,c,d]=>f a b c d
 | _=>False
theorem QU {l:List KV}{f:KV→KV→KV→KV→Prop}(h:la4 l f):∃ a b c d,l=[a,b,c,d]∧f a b c d:=by
 unfold la4 at h
 split at h
 ·exact⟨_,_,_,_,rfl,h⟩
 ·exact h.elim
noncomputable def ziO (n:Nat) (u:Ud):zf:=fun l K=>l=[uK n (zi n) u]∧K (jc n (zi n) u)
noncomputable def ziP (n:Nat) (u:Ud):zf:=fun l K=>la3 l fun a b c=>z9 b fun i=>z9 c fun j=>a=uK n (zi n) u∧cnd (isS n i j) (K (.bool (z8 n u i j)))
noncomputable def ziQ (n:Nat) (u:Ud) (F:Nat→Nat→Nd):zf:=fun l K=>la4 l fun a b c d=>z9 c fun i=>z9 d fun j=>[a,b]=[xU n u.rc,jc n (zi n) u]∧cnd (isS n i j) (K (F i j).k)
noncomputable def ziR:zf:=fun l K=>la1 l fun a=>z9 a fun n=>cnd (zD n) (K (nI (hS n)))
noncomputable def za2:zf:=fun l K=>la2 l fun a b=>z9 a fun n=>z9 b fun l=>cnd (nd (zD n) (Nat.ble l 2)) (K (nI (zx n l)))
noncomputable def xD (n:Nat) (u:Ud):Nat→Nat→Nd:=jH n u.rc (xf n u)
theorem zCM:KCS Tryz.prog 28 ziR:=⟨kHt.1,fun l K h=>kHt.2 l K (by
 obtain⟨a,rfl,h1⟩:=wz h
 obtain⟨n,rfl,h2⟩:=zu h1
 obtain⟨h3,h4⟩:=zd.1 h2
 exact⟨h3,h4⟩)⟩
theorem zsV:KCS Tryz.prog 81 za2:=⟨znc.1,fun l K h=>znc.2 l K (by
 obtain⟨a,b,rfl,h1⟩:=qt h
 obtain⟨n,rfl,h2⟩:=zu h1
 obtain⟨i,rfl,h2⟩:=zu h2
 obtain⟨h3,h4⟩:=zd.1 h2
 obtain⟨h5,h6⟩:=za.1 h3
 exact⟨⟨h5,Nat.le_of_ble_eq_true h6⟩,h4⟩)⟩
section
variable {x:Sd}{n:Nat}{u:Ud}
theorem zCN (H:UOk n (zi n) u):KCS Tryz.prog 26 (ziO n u):=⟨zfz.1,fun l K hk=>zfz.2 l K (by
 obtain⟨rfl,hk⟩:=hk
 exact⟨(n,zi n,u),rfl,H,hk⟩)⟩
theorem zCO (H:UOk n (zi n) u):KCS Tryz.prog 88 (ziP n u):=⟨znk.1,fun l K hk=>znk.2 l K (by
 obtain⟨a,b,c,rfl,h1⟩:=ZW hk
 obtain⟨i,rfl,h2⟩:=zu h1
 obtain⟨j,rfl,h0,h5⟩:=zu h2
 subst h0
 obtain⟨h3,h4⟩:=zd.1 h5
 exact⟨(n,zi n,u,i,j),rfl,⟨(zH H.n24).2,(xg H.n24 h3).1⟩,h4⟩)⟩
theorem ziS (H:UOk n (zi n) u):KCS Tryz.prog 44 (ziQ n u (xD n u)):=⟨zq7.1,fun l K hk=>zq7.2 l K (by
 obtain⟨a,b,c,d,rfl,h1⟩:=QU hk
 obtain⟨i,rfl,h2⟩:=zu h1
 obtain⟨j,rfl,h0,h2⟩:=zu h2
 obtain⟨h3,h4⟩:=zd.1 h2
 cases h0
 exact⟨(n,zi n,u.rc,xf n u,i,j),rfl,⟨H.n24,rfl,fun i hi=>⟨H.wl i hi,H.wb i hi⟩,fun i hi=>zdg (H.sl i hi),Nat.lt_succ_of_le (xg H.n24 h3).1,h3⟩,h4⟩)⟩
end
noncomputable def zK (y:Un) (b o c:Int):KV:=.cons y.k (.cons (.int .i64 b) (.cons (.int .u8 o) (.cons (.int .i64 c) .nl)))
noncomputable def a5 (x:Sd) (a:Nat) (y:Un) (b o c:Int):List KV:=[x.k,kU8 a,zK y b o c]
noncomputable def va (l:List KV) (w:KV):zf:=fun l' K=>l'=l∧K w
noncomputable def lvI (n k:Nat):Nat:=@Bool.rec (fun _=>Nat) (@Bool.rec (fun _=>Nat) 2 1 (Nat.blt k (zh n 2 0))) 0 (Nat.blt k (zh n 1 0))
noncomputable def ixI (n k:Nat):Nat:=Nat.sub k (zh n (lvI n k) 0)
noncomputable def chT (n:Nat) (u:Ud) (l j:Nat):KV:=@Nat.rec (fun _=>KV) .te (fun w t=>@Bool.rec (fun _=>KV) t (xk (.bool (u.ch (Nat.add 0 (Nat.add (Nat.mul 4 j) w)))) (enc w) t) (nd (Nat.beq l 0) (Nat.blt (Nat.add (Nat.mul 4 j) w) n))) 4
noncomputable def Q0 (n:Nat) (u:Ud) (F:Nat→Nat→Nd) (l j k:Nat):KV:=.cons (F l j).k (.cons (nI (u.sl (Nat.add 0 k))) (.cons (.bool (z8 n u l j)) (.cons (.ar 4 (.bool false) (chT n u l j)) .nl)))
noncomputable def zH5:KV:=.cons (kU8 0) (.cons (ZR 0) (.cons (.ar 4 rcZ .te) (.cons (.ar 4 enZ .te) .nl)))
noncomputable def zp3:KV:=.cons zH5 (.cons (nI 0) (.cons (.bool false) (.cons (.ar 4 (.bool false) .te) .nl)))
noncomputable def zs5 (n:Nat) (u:Ud) (F:Nat→Nat→Nd):KBlk:=⟨.row 105,.arr (zi n) zfA,kAr (zi n) zp3 fun k=>Q0 n u F (lvI n k) (ixI n k) k⟩
noncomputable def chn (n:Nat) (u:Ud) (p:Prop) (k:Nat):Prop:=@Nat.rec (fun _=>Prop) p (fun _ q=>[xU n u.rc,jc n (zi n) u]=[xU n u.rc,jc n (zi n) u]∧uK n (zi n) u=uK n (zi n) u∧q) k
theorem QS {n k:Nat}(hn:zD n=true) (hk:k < zi n):isS n (lvI n k) (ixI n k)=true:=by
 obtain⟨n1,n2⟩:=zH hn
 have h9:=jK hn
 obtain⟨m,rfl⟩:∃ m,n=Nat.succ m:=⟨n - 1,by omega⟩
 have hd:∀ m:Fin 24,∀ k:Fin 9,k.1 < zi (Nat.succ m.1)→isS (Nat.succ m.1) (lvI (Nat.succ m.1) k.1) (ixI (Nat.succ m.1) k.1)=true:=by decide
 exact hd ⟨m,by omega⟩ ⟨k,by omega⟩ hk
noncomputable def cU (n:Nat) (u:Ud) (k:Nat):Un:=⟨xD n u (lvI n k) (ixI n k),.ofNat (u.sl k),z8 n u (lvI n k) (ixI n k),fun w=>nd (nd (Nat.beq (lvI n k) 0) (Nat.blt (Nat.add (Nat.mul 4 (ixI n k)) w) n)) (u.ch (Nat.add 0 (Nat.add (Nat.mul 4 (ixI n k)) w)))⟩
noncomputable def hs0 (n:Nat) (u:Ud) (l j:Nat) (w:Nat):Bool:=nd (Nat.beq l 0) (Nat.blt (Nat.add (Nat.mul 4 j) w) n)
theorem zio (n:Nat) (u:Ud) (l j:Nat):∀(k i:Nat),(@Nat.rec (fun _=>KV) .te (fun w t=>@Bool.rec (fun _=>KV) t (xk (.bool (u.ch (Nat.add 0 (Nat.add (Nat.mul 4 j) w)))) (enc w) t) (nd (Nat.beq l 0) (Nat.blt (Nat.add (Nat.mul 4 j) w) n))) k:KV).atv (enc i) (KV.bool false).v=if i < k then (KV.bool (nd (hs0 n u l j i) (u.ch (Nat.add 0 (Nat.add (Nat.mul 4 j) i))))).v else (KV.bool false).v
 | 0,i=>rfl
 | k + 1,i=>by
  have ih:=zio n u l j k i
  show KV.atv (@Bool.rec (fun _=>KV) _ (xk _ (enc k) _) (nd (Nat.beq l 0) (Nat.blt (Nat.add (Nat.mul 4 j) k) n))) (enc i) _=_
  cases hb:nd (Nat.beq l 0) (Nat.blt (Nat.add (Nat.mul 4 j) k) n) with
  | false =>
   show KV.atv _ (enc i) _=_
   refine ih.trans ?_
   by_cases h:i < k
   ·rw[if_pos h,if_pos (by omega)]
   ·rw[if_neg h]
    by_cases h2:i < k + 1
    ·rw[if_pos h2]
     obtain rfl:i=k:=by omega
     unfold hs0
     rw[hb]; rfl
    ·rw[if_neg h2]
  | true =>
   show KV.atv (xk _ (enc k) _) (enc i) _=_
   rw[vX]
   by_cases h:i=k
   ·subst h
    rw[if_pos rfl,if_pos (by omega)]
    unfold hs0
    rw[hb]; rfl
   ·rw[if_neg h]
    refine ih.trans ?_
    by_cases h3:i < k
    ·rw[if_pos h3,if_pos (by omega)]
    ·rw[if_neg h3,if_neg (by omega)]
theorem ziq (n:Nat) (u:Ud) (k:Nat):Imp (Q0 n u (xD n u) (lvI n k) (ixI n k) k).v (cU n u k).k.v:=by
 refine Imp.cons (Imp.refl _) (Imp.cons ?_ (Imp.cons (Imp.refl _) (Imp.cons ?_ (Imp.refl _))))
 ·show Imp (nI (u.sl (Nat.add 0 k))).v (nI (u.sl k)).v
  rw[vb]; exact Imp.refl _
 ·exact yn fun i hi=>(zio n u (lvI n k) (ixI n k) 4 i).trans (if_pos hi)
attribute [local irreducible] kpre cOf mOf rOf JL zp zh hS zi zx xh
end
end Go.K
set_option maxRecDepth 100000
namespace Go.K
open Go.Ab Go.RowKit Go.Y Go.Proofs
noncomputable section
attribute [local instance 10000] gO
structure UV (n:Nat) (u:Ud):Prop where
 ok:∀ i,i < n→(u.rc i).ok
 ch:∀ i,i < n→u.ch i=true→(u.rc i).st≠0
theorem ZY:zRc.zero:=⟨rfl,rfl,rfl,zuV⟩
theorem wW:zEn.zero:=⟨rfl,zuV⟩
theorem zcu:zRc.ok:=⟨Nat.zero_le _,fun _=>ZY⟩
theorem zxp:zEn.ok:=⟨Nat.zero_le _,fun _=>wW⟩
theorem zcv {n l j:Nat}(hn:zD n=true) (h:isS n l j=true):lvI n (zh n l j)=l∧ixI n (zh n l j)=j:=by
 obtain⟨n1,n2⟩:=zH hn
 obtain⟨h1,h2⟩:=xg hn h
 obtain⟨m,rfl⟩:∃ m,n=Nat.succ m:=⟨n - 1,by omega⟩
 have hd:∀ m:Fin 24,∀ l:Fin 3,∀ j:Fin 6,isS (Nat.succ m.1) l.1 j.1=true→lvI (Nat.succ m.1) (zh (Nat.succ m.1) l.1 j.1)=l.1∧ixI (Nat.succ m.1) (zh (Nat.succ m.1) l.1 j.1)=j.1:=by decide
 exact hd ⟨m,by omega⟩ ⟨l,by omega⟩ ⟨j,h2⟩ h
theorem zev {n j w:Nat}(hn:zD n=true) (h:isS n 0 j=true) (hw:w < 4):w < zq n 0 j↔4 * j + w < n:=by
 obtain⟨n1,n2⟩:=zH hn
 obtain⟨h1,h2⟩:=xg hn h
 obtain⟨m,rfl⟩:∃ m,n=Nat.succ m:=⟨n - 1,by omega⟩
 have hd:∀ m:Fin 24,∀ j:Fin 6,∀ w:Fin 4,isS (Nat.succ m.1) 0 j.1=true→(w.1 < zq (Nat.succ m.1) 0 j.1↔4 * j.1 + w.1 < Nat.succ m.1):=by decide
 exact hd ⟨m,by omega⟩ ⟨j,h2⟩ ⟨w,hw⟩ h
theorem zs7 {n k j w:Nat}(hn:zD n=true) (h:isS n (k + 1) j=true) (hw:w < 4) (hk:isS n k (4 * j + w)=true):w < zq n (k + 1) j:=by
 obtain⟨n1,n2⟩:=zH hn
 obtain⟨h1,h2⟩:=xg hn h
 obtain⟨m,rfl⟩:∃ m,n=Nat.succ m:=⟨n - 1,by omega⟩
 have hd:∀ m:Fin 24,∀ k:Fin 2,∀ j:Fin 6,∀ w:Fin 4,isS (Nat.succ m.1) (k.1 + 1) j.1=true→isS (Nat.succ m.1) k.1 (4 * j.1 + w.1)=true→w.1 < zq (Nat.succ m.1) (k.1 + 1) j.1:=by decide
 exact hd ⟨m,by omega⟩ ⟨k,by omega⟩ ⟨j,h2⟩ ⟨w,hw⟩ h hk
theorem Yo {n i l:Nat}(hn:zD n=true) (hi:i < n) (hl:l≤hS n):isS n l (xh i l)=true:=by
 obtain⟨n1,n2⟩:=zH hn
 obtain⟨m,rfl⟩:∃ m,n=Nat.succ m:=⟨n - 1,by omega⟩
 have h2:hS (Nat.succ m)≤2:=by
  have hd:∀ m:Fin 24,hS (Nat.succ m.1)≤2:=by decide
  exact hd ⟨m,by omega⟩
 have hd:∀ m:Fin 24,∀ i:Fin 24,∀ l:Fin 3,i.1 < Nat.succ m.1→l.1≤hS (Nat.succ m.1)→isS (Nat.succ m.1) l.1 (xh i.1 l.1)=true:=by decide
 exact hd ⟨m,by omega⟩ ⟨i,by omega⟩ ⟨l,by omega⟩ hi hl
theorem zs8 {n l j:Nat}(hn:zD n=true) (h:isS n l j=true):l≤hS n:=by
 obtain⟨n1,n2⟩:=zH hn
 obtain⟨h1,h2⟩:=xg hn h
 obtain⟨m,rfl⟩:∃ m,n=Nat.succ m:=⟨n - 1,by omega⟩
 have hd:∀ m:Fin 24,∀ l:Fin 3,∀ j:Fin 6,isS (Nat.succ m.1) l.1 j.1=true→l.1≤hS (Nat.succ m.1):=by decide
 exact hd ⟨m,by omega⟩ ⟨l,by omega⟩ ⟨j,h2⟩ h
theorem za9 (i l:Nat):xh i (l + 1)=xh i l / 4:=rfl
theorem Jz (i:Nat):xh i 0=i / 4:=rfl
theorem wh (j w:Nat):j4 j w=4 * j + w:=rfl
theorem zba {n l j:Nat}{u:Ud}:z8 n u l j=true↔∃ i,i < n∧u.ch i=true∧xh i l=j:=@decide_eq_true_iff _ (Classical.propDecidable _)
theorem zxq {n l j:Nat}{rc:Nat→Rc}:emS n rc l j=false↔∃ i,i < n∧xh i l=j∧(rc i).st≠0:=by
 have h:emS n rc l j=true↔¬ ∃ i,i < n∧xh i l=j∧(rc i).st≠0:=@decide_eq_true_iff _ (Classical.propDecidable _)
 rw[←Bool.not_eq_true,h]
 exact Classical.not_not
section
variable {n m:Nat}{u:Ud}
theorem Yp (hn:zD n=true) {l j:Nat}(h:isS n l j=true):cU n u (zh n l j)=⟨xD n u l j,.ofNat (u.sl (zh n l j)),z8 n u l j,fun w=>nd (nd (Nat.beq l 0) (Nat.blt (Nat.add (Nat.mul 4 j) w) n)) (u.ch (Nat.add 0 (Nat.add (Nat.mul 4 j) w)))⟩:=by
 obtain⟨h1,h2⟩:=zcv hn h
 unfold cU
 rw[h1,h2]
theorem zcw (hn:zD n=true) {k j w:Nat}(h:isS n k (j4 j w)=true):vQ n (cU n u) k j w=⟨xD n u k (j4 j w),.ofNat (u.sl (zh n k (j4 j w))),z8 n u k (j4 j w),fun x=>nd (nd (Nat.beq k 0) (Nat.blt (Nat.add (Nat.mul 4 (j4 j w)) x) n)) (u.ch (Nat.add 0 (Nat.add (Nat.mul 4 (j4 j w)) x)))⟩:=Yp hn h
theorem zcx (H:UOk n m u) {k:Nat}(hk:k < m):xf n u k=0∨xf n u k=1:=by
 have:=zdg (n:=n) (H.sl k hk)
 omega
theorem zew (H:UOk n m u) {k c:Nat}(h:isS n k c=true) (z:Un) (hz:z.nd=xD n u k c):wT z↔emS n u.rc k c=false:=by
 have hn:=H.n24
 rw[zxq]
 unfold wT
 rw[hz]
 cases k with
 | zero =>
  constructor
  ·rintro⟨i,hi,h1 | h1⟩
   ·have h2:0 < (if i < zq n 0 c then u.rc (Nat.add 0 (j4 c i)) else zRc).st:=h1
    split at h2
    ·rename_i q
     rw[vb] at h2
     have h3:=(zev hn h hi).1 q
     refine⟨j4 c i,by rw[wh]; exact h3,?_,by omega⟩
     rw[Jz,wh]; omega
    ·exact absurd h2 (Nat.lt_irrefl 0)
   ·exact absurd (show 0 < zEn.st from h1) (Nat.lt_irrefl 0)
  ·rintro⟨i,hi,h1,h2⟩
   rw[Jz] at h1
   refine⟨i % 4,by omega,.inl ?_⟩
   show 0 < (if i % 4 < zq n 0 c then u.rc (Nat.add 0 (j4 c (i % 4))) else zRc).st
   have h3:j4 c (i % 4)=i:=by rw[wh]; omega
   rw[if_pos ((zev hn h (by omega)).2 (by omega)),vb,h3]
   omega
 | succ k =>
  constructor
  ·rintro⟨i,hi,h1 | h1⟩
   ·exact absurd (show 0 < zRc.st from h1) (Nat.lt_irrefl 0)
   ·have h2:0 < (if i < zq n (k + 1) c∧emS n u.rc k (j4 c i)=false then (⟨Nat.mod (Nat.add (xf n u (Nat.add 0 (zh n k (j4 c i)))) 1) 256,(jH n u.rc (xf n u) k (j4 c i)).dg⟩:En) else zEn).st:=h1
    split at h2
    ·rename_i q
     obtain⟨x,h3,h4,h5⟩:=zxq.1 q.2
     refine⟨x,h3,?_,h5⟩
     rw[za9,h4,wh]; omega
    ·exact absurd h2 (Nat.lt_irrefl 0)
  ·rintro⟨x,h3,h4,h5⟩
   rw[za9] at h4
   have hle:=zs8 hn h
   have hp:isS n k (xh x k)=true:=Yo hn h3 (by omega)
   have hc:xh x k=j4 c (xh x k % 4):=by rw[wh]; omega
   refine⟨xh x k % 4,by omega,.inr ?_⟩
   have hq:xh x k % 4 < zq n (k + 1) c:=zs7 hn h (by omega) (by rw[←wh,←hc]; exact hp)
   show 0 < (if xh x k % 4 < zq n (k + 1) c∧emS n u.rc k (j4 c (xh x k % 4))=false then (⟨Nat.mod (Nat.add (xf n u (Nat.add 0 (zh n k (j4 c (xh x k % 4))))) 1) 256,_⟩:En) else zEn).st
   rw[if_pos ⟨hq,zxq.2 ⟨x,h3,hc,h5⟩⟩,vb,←hc]
   show 0 < (xf n u (zh n k (xh x k)) + 1) % 256
   have hnum:=qY hn hp
   rcases zcx H (k:=zh n k (xh x k)) (by rw[H.tot]; exact hnum) with e | e<;>rw[e]<;>decide
theorem zbb (f:Nat→Nat):eqB 32 f f=true:=by
 have:∀ n,eqB n f f=true:=fun n=>by
  induction n with
  | zero=>rfl
  | succ n ih =>
   show nd (eqB n f f) (eqN (f n) (f n))=true
   rw[za]; exact⟨ih,yE.2 rfl⟩
 exact this 32
theorem Q1 (H:UOk n m u) (V:UV n u) {l j:Nat}(h:isS n l j=true):j0 n (cU n u) l j=0:=by
 have hn:=H.n24
 have hr:∀ i,i < n→(u.rc i).tg.length=32∧(u.rc i).wb:=fun i hi=>⟨H.wl i hi,H.wb i hi⟩
 obtain⟨wl,wb,lv,ix⟩:=qd hn hr (now:=xf n u) l j h
 unfold j0
 rw[Yp hn h]
 have hp:y9 n l j ⟨xD n u l j,.ofNat (u.sl (zh n l j)),z8 n u l j,fun w=>nd (nd (Nat.beq l 0) (Nat.blt (Nat.add (Nat.mul 4 j) w) n)) (u.ch (Nat.add 0 (Nat.add (Nat.mul 4 j) w)))⟩:=by
  refine⟨lv,ix,zCt ⟨⟨?_,?_,?_⟩,?_,?_⟩⟩
  ·show (xD n u l j).lv≤5
   have:(xD n u l j).lv=l:=lv
   have:=(xg hn h).1
   omega
  ·intro h0
   obtain rfl:l=0:=by rw[←lv]; exact h0
   refine⟨fun i hi=>wW,fun i hi=>?_⟩
   show (if i < zq n 0 j then u.rc (Nat.add 0 (j4 j i)) else zRc).ok
   split
   ·rename_i q
    rw[vb]; exact V.ok _ (W6 hn h q)
   ·exact zcu
  ·intro h0
   cases l with
   | zero=>exact absurd lv h0
   | succ k =>
    refine⟨fun i hi=>ZY,fun i hi=>?_⟩
    show (if i < zq n (k + 1) j∧emS n u.rc k (j4 j i)=false then (⟨Nat.mod (Nat.add (xf n u (Nat.add 0 (zh n k (j4 j i)))) 1) 256,(jH n u.rc (xf n u) k (j4 j i)).dg⟩:En) else zEn).ok
    split
    ·rename_i q
     have hnum:=qY hn (Za hn h q.1)
     rw[vb]
     have e:Nat.mod (Nat.add (xf n u (zh n k (j4 j i))) 1) 256=xf n u (zh n k (j4 j i)) + 1:=by
      show (xf n u (zh n k (j4 j i)) + 1) % 256=_
      rcases zcx H (k:=zh n k (j4 j i)) (by rw[H.tot]; exact hnum) with e | e<;>rw[e]
     refine⟨?_,fun h0=>?_⟩
     ·show Nat.mod (Nat.add (xf n u (zh n k (j4 j i))) 1) 256≤2
      rw[e]
      rcases zcx H (k:=zh n k (j4 j i)) (by rw[H.tot]; exact hnum) with e | e<;>rw[e]<;>decide
     ·have h1:Nat.mod (Nat.add (xf n u (zh n k (j4 j i))) 1) 256=0:=h0
      rw[e] at h1; cases h1
    ·exact zxp
  ·show isS n (xD n u l j).lv (xD n u l j).ix=true
   rw[show (xD n u l j).lv=l from lv,show (xD n u l j).ix=j from ix]; exact h
  ·intro i hi hq
   rw[show (xD n u l j).lv=l from lv,show (xD n u l j).ix=j from ix] at hq
   cases l with
   | zero =>
    refine⟨?_,wW⟩
    show (if i < zq n 0 j then u.rc (Nat.add 0 (j4 j i)) else zRc).zero
    rw[if_neg (by omega)]; exact ZY
   | succ k =>
    refine⟨ZY,?_⟩
    show (if i < zq n (k + 1) j∧emS n u.rc k (j4 j i)=false then (⟨_,_⟩:En) else zEn).zero
    rw[if_neg fun q=>by omega]; exact wW
 rw[if_pos hp]
 have hchw:∀ w,nd (nd (Nat.beq l 0) (Nat.blt (Nat.add (Nat.mul 4 j) w) n)) (u.ch (Nat.add 0 (Nat.add (Nat.mul 4 j) w)))=true↔l=0∧j4 j w < n∧u.ch (j4 j w)=true:=fun w=>by
  rw[za,za,vb,vq]
  constructor
  ·rintro⟨⟨q1,q2⟩,q3⟩; exact⟨Nat.eq_of_beq_eq_true q1,q2,q3⟩
  ·rintro⟨rfl,q2,q3⟩; exact⟨⟨rfl,q2⟩,q3⟩
 refine if_pos ⟨?_,?_,?_⟩
 ·intro w hw hc
  obtain⟨rfl,q1,q2⟩:=(hchw w).1 hc
  refine⟨rfl,?_⟩
  show (if w < zq n 0 j then u.rc (Nat.add 0 (j4 j w)) else zRc).st≠0
  rw[if_pos ((zev hn h hw).2 q1),vb]
  exact V.ch _ q1 q2
 ·show z8 n u l j=true↔_
  rw[zba]
  unfold vf
  constructor
  ·rintro⟨i,hi,h1,h2⟩
   cases l with
   | zero =>
    rw[Jz] at h2
    have h3:j4 j (i % 4)=i:=by rw[wh]; omega
    exact .inl ⟨i % 4,by omega,(hchw (i % 4)).2 ⟨rfl,by rw[h3]; exact hi,by rw[h3]; exact h1⟩⟩
   | succ k =>
    rw[za9] at h2
    have hle:=zs8 hn h
    have hpl:isS n k (xh i k)=true:=Yo hn hi (by omega)
    have hc:xh i k=j4 j (xh i k % 4):=by rw[wh]; omega
    have hq:xh i k % 4 < zq n (k + 1) j:=zs7 hn h (by omega) (by rw[←wh,←hc]; exact hpl)
    refine .inr ⟨k,rfl,xh i k % 4,hq,?_⟩
    rw[zcw hn (by rw[←hc]; exact hpl)]
    exact zba.2 ⟨i,hi,h1,hc⟩
  ·rintro (⟨w,hw,hc⟩ | ⟨k,rfl,w,hw,hc⟩)
   ·obtain⟨rfl,q1,q2⟩:=(hchw w).1 hc
    refine⟨j4 j w,q1,q2,?_⟩
    rw[Jz,wh]; omega
   ·rw[zcw hn (Za hn h hw)] at hc
    obtain⟨i,h1,h2,h3⟩:=zba.1 hc
    refine⟨i,h1,h2,?_⟩
    have h4:=(qW hn h).2
    rw[za9,h3,wh]; omega
 ·rintro k rfl w hw
  have hkid:=Za hn h hw
  rw[zcw hn hkid]
  have hen:(xD n u (Nat.succ k) j).en w=if w < zq n (k + 1) j∧emS n u.rc k (j4 j w)=false then ⟨Nat.mod (Nat.add (xf n u (Nat.add 0 (zh n k (j4 j w)))) 1) 256,(xD n u k (j4 j w)).dg⟩ else zEn:=rfl
  refine⟨fun hu=>?_,fun hu=>?_⟩
  ·have he:=(zew H hkid _ rfl).1 hu
   show ((xD n u (Nat.succ k) j).en w).eqb _=true
   rw[hen,if_pos ⟨hw,he⟩,vb]
   have hnum:=qY hn hkid
   have hsl:u.sl (zh n k (j4 j w))≤1:=H.sl _ (by rw[H.tot]; exact hnum)
   have hst:Nat.mod (Nat.add (xf n u (zh n k (j4 j w))) 1) 256=Un.stS ⟨xD n u k (j4 j w),.ofNat (u.sl (zh n k (j4 j w))),z8 n u k (j4 j w),fun x=>nd (nd (Nat.beq k 0) (Nat.blt (Nat.add (Nat.mul 4 (j4 j w)) x) n)) (u.ch (Nat.add 0 (Nat.add (Nat.mul 4 (j4 j w)) x)))⟩:=by
    unfold Un.stS
    cases hd:z8 n u k (j4 j w) with
    | false =>
     rw[ztO hkid hd]
     rcases (show u.sl (zh n k (j4 j w))=0∨u.sl (zh n k (j4 j w))=1 by omega) with e | e<;>rw[e]<;>rfl
    | true =>
     rw[ztN hkid hd]
     rcases (show u.sl (zh n k (j4 j w))=0∨u.sl (zh n k (j4 j w))=1 by omega) with e | e<;>rw[e]<;>rfl
   unfold En.eqb
   rw[za,za]
   exact⟨yE.2 hst,zbb _,rfl⟩
  ·have he:emS n u.rc k (j4 j w)≠false:=fun he=>hu ((zew H hkid _ rfl).2 he)
   show ((xD n u (Nat.succ k) j).en w).zb=true
   rw[hen,if_neg fun q=>he q.2]
   exact En.zb_t.2 wW
theorem zfD (H:UOk n m u) (V:UV n u):IsChk n m (cU n u) 0:=by
 have hs:qX m (cU n u):=fun i hi=>by
  show Int.ofNat (u.sl i)=0∨Int.ofNat (u.sl i)=1
  have:=H.sl i hi
  rcases (show u.sl i=0∨u.sl i=1 by omega) with e | e<;>rw[e]
  ·exact .inl rfl
  ·exact .inr rfl
 exact⟨fun h=>absurd hs h,fun _ _=>rfl,fun _ l j h _ hne=>absurd (Q1 H V h) hne⟩
end
end
end Go.K
set_option maxRecDepth 100000
namespace Go.K
open Go.Ab Go.RowKit Go.Y Go.Proofs
noncomputable section
attribute [local instance 10000] gO
theorem zlH (a b:Nat):(wY a b).ok:=by
 unfold wY
 split
 ·exact zcu
 ·rename_i h
  refine⟨?_,fun h0=>?_⟩
  ·show a % 3≤2; omega
  ·exact absurd (show a % 3=0 from h0) h
theorem zlI (x:Md) (n:Nat):UV n ⟨rcM x,fun _=>false,slM x⟩:=⟨fun i hi=>by
 show (if i < x.p then wY _ _ else zRc).ok
 split
 ·exact zlH _ _
 ·exact zcu,fun i hi h=>(by cases h)⟩
theorem zeQ {u:Ud}{b a c:Nat}{tg:List Nat}(h:(u.rc b).st≤2):(wk u b a c tg).st=1∨(wk u b a c tg).st=2:=by
 show Nat.mod (Nat.add (tgS u b) 1) 256=1∨Nat.mod (Nat.add (tgS u b) 1) 256=2
 have ht:tgS u b=0∨tgS u b=1:=by
  unfold tgS
  split
  ·exact .inl rfl
  ·split<;>omega
 rcases ht with e | e<;>rw[e]
 ·exact .inl rfl
 ·exact .inr rfl
theorem zyX {n b a c:Nat}{u:Ud}{tg:List Nat}(V:UV n u) (h:(u.rc b).st≤2):UV n (Qh u b (wk u b a c tg)):=⟨fun i hi=>by
 show (if i=b then wk u b a c tg else u.rc i).ok
 split
 ·rcases zeQ (a:=a) (c:=c) (tg:=tg) h with e | e
  ·exact⟨by rw[e]; omega,fun h0=>by rw[e] at h0; cases h0⟩
  ·exact⟨by rw[e]; omega,fun h0=>by rw[e] at h0; cases h0⟩
 ·exact V.ok i hi,fun i hi hc=>by
 show (if i=b then wk u b a c tg else u.rc i).st≠0
 by_cases e:i=b
 ·rw[if_pos e]
  rcases zeQ (a:=a) (c:=c) (tg:=tg) h with q | q<;>rw[q]<;>decide
 ·rw[if_neg e]
  refine V.ch i hi ?_
  have:(if i=b then true else u.ch i)=true:=hc
  rwa [if_neg e] at this⟩
theorem zyY {n k:Nat}{u:Ud}(V:UV n u):UV n (Jw n k u):=⟨V.ok,fun i hi h=>(by cases h)⟩
theorem ztB {x:Sd}{n k:Nat}(hn:0 < n) (h:UOk n (Nat.succ k) ⟨rcM x.t,fun _=>false,slM x.t⟩):∀ i,UV n (uAt x n k i)
 | 0=>zlI x.t n
 | i + 1=>by
  have ih:=ztB hn h i
  have H:=W8 h i
  show UV n (if 250≤x.sp i 0 then Jw n k (uAt x n k i) else Qh (uAt x n k i) (x.sp i 0 % n) (wk (uAt x n k i) (x.sp i 0 % n) (noA (x.sp i 1)) (noC (x.sp i 1)) (dsL (x.sp i 1))))
  split
  ·exact zyY ih
  ·exact zyX ih (H.st _ (Nat.mod_lt _ hn))
theorem zq8 {x:Sd}(h:preS x):UV (nM x.t) (zdd x):=by
 obtain⟨k,hk⟩:∃ k,zi (nM x.t)=Nat.succ k:=⟨zh (nM x.t) (hS (nM x.t)) 0,by unfold zi; rfl⟩
 have H0:=JH h.1
 have hn:=(zH H0.n24).1
 unfold zdd
 rw[hk] at H0 ⊢
 exact ztB (by omega) H0 _
noncomputable def E16 (n:Nat) (u:Ud) (F:Nat→Nat→Nd):KEnv:=EO0.tab [(26,ziO n u),(88,ziP n u),(44,ziQ n u F),(28,ziR),(81,za2)]
theorem zJv {n:Nat}{u:Ud}(H:UOk n (zi n) u):KOk (E16 n u (xD n u)):=zI.tab (l:=[(26,ziO n u),(88,ziP n u),(44,ziQ n u (xD n u)),(28,ziR),(81,za2)]) ⟨zCN H,zCO H,ziS H,zCM,zsV,trivial⟩
noncomputable def l16:List Code:=fl (cOf 16)
noncomputable def zeU (n:Nat):Nat:=Nat.add 2 (Nat.mul 3 (zi n))
noncomputable def d16 (n:Nat) (u:Ud) (F:Nat→Nat→Nd) (Q:QT) (R:RT):Prop:=pc (E16 n u F) 16 l16 [] [zeU n] (xd (mOf 16) 0 [uK n (zi n) u],[],0) Q R
noncomputable def r16 (n:Nat) (u:Ud) (F:Nat→Nat→Nd) (R:RT):Prop:=[uK n (zi n) u]=[uK n (zi n) u]∧chn n u (R (.cons (nI n) (.cons (.row (zeU n) zfA (zi n)) .nl)) [some (zs5 n u F)] (Nat.add 3 (Nat.mul 3 (zi n)))) (zi n)
def P16 (n:Nat):Prop:=∀(u:Ud) (F:Nat→Nat→Nd) (Q:QT) (R:RT),d16 n u F Q R=r16 n u F R
end
end Go.K
