/- Volumes: blocks and secrets of a number; what a sector has. No condition. -/
import Derived.Test.YtkllahedaiddgaaGreatDoorNF
set_option linter.unusedSimpArgs false
set_option linter.unusedVariables false
set_option maxRecDepth 100000
namespace Go.K
open Go.Ab Go.RowKit Go.Y Go.Proofs
noncomputable section
attribute [local instance 10000] gO
def zer (z:Un):Prop:=∃ i,i < 4∧(0 < (z.nd.rc i).st∨0 < (z.nd.en i).st)
def zCB (e:En) (z:Un):Prop:=(zer z→e.eqb ⟨z.stS,z.nd.dg⟩=true)∧(¬ zer z→e.zb=true)
noncomputable def zsD (n:Nat) (c:Nat→Un) (l j w:Nat):Un:=c (zo n l (j4 j w))
def zcr (n l j:Nat) (y:Un):Prop:=y.nd.lv=l∧y.nd.ix=j∧y.nd.fe n=0
def ziZ (n:Nat) (c:Nat→Un) (l j:Nat) (y:Un) (p:Nat):Prop:=(∃ w,w < 4∧y.ch w=true)∨∃ k,l=Nat.succ k∧∃ w,w < p∧(zsD n c k j w).di=true
def chP (l:Nat) (y:Un) (k:Nat):Prop:=∀ w,w < k→y.ch w=true→l=0∧(y.nd.rc w).st≠0
def zxu (n:Nat) (c:Nat→Un) (l j:Nat) (y:Un) (p:Nat):Prop:=∀ k,l=Nat.succ k→∀ w,w < p→zCB (y.nd.en w) (zsD n c k j w)
def zxv (n:Nat) (c:Nat→Un) (l j:Nat) (y:Un):Prop:=chP l y 4∧(y.di=true↔ziZ n c l j y (zx n l j))∧zxu n c l j y (zx n l j)
open Classical in
noncomputable def zes (n:Nat) (c:Nat→Un) (l j:Nat):Nat:=if zcr n l j (c (zo n l j)) then (if zxv n c l j (c (zo n l j)) then 0 else 9) else 17
theorem xc {n l j:Nat}(hn:zC n=true) (h:isS n l j=true):l≤2∧j < 6:=by
 obtain⟨n1,n2⟩:=zR hn
 obtain⟨m,rfl⟩:∃ m,n=Nat.succ m:=⟨n - 1,by omega⟩
 have hm:m < 24:=by omega
 have hl:l < 3:=by
  refine Classical.byContradiction fun hl=>?_
  obtain⟨k,rfl⟩:∃ k,l=Nat.add k 3:=⟨l - 3,by show l=l - 3 + 3; omega⟩
  rw[ZS,Vm m k hm] at h
  omega
 have hc:=ZT m l hm hl
 have hi:=ZS.1 h
 exact⟨by omega,by omega⟩
theorem Yn {n l j w:Nat}(hn:zC n=true) (h:isS n (Nat.succ l) j=true) (hw:w < zx n (Nat.succ l) j):isS n l (j4 j w)=true:=by
 obtain⟨h1,h2⟩:=xc hn h
 obtain⟨h3,h4⟩:=y7 hn h
 obtain⟨n1,n2⟩:=zR hn
 obtain⟨m,rfl⟩:∃ m,n=Nat.succ m:=⟨n - 1,by omega⟩
 have hm:m < 24:=by omega
 have hd:∀ m:Fin 24,∀ l:Fin 2,∀ j:Fin 6,∀ w:Fin 4,isS (Nat.succ m.1) (Nat.succ l.1) j.1=true→w.1 < zx (Nat.succ m.1) (Nat.succ l.1) j.1→isS (Nat.succ m.1) l.1 (j4 j.1 w.1)=true:=by decide
 exact hd ⟨m,hm⟩ ⟨l,by omega⟩ ⟨j,h2⟩ ⟨w,by omega⟩ h hw
theorem zxw {x:Nd}(h:x.wl):x.nf.dg=x.dg:=by
 have a0:=Nd.nf_rc' h 0 (by omega); have a1:=Nd.nf_rc' h 1 (by omega); have a2:=Nd.nf_rc' h 2 (by omega); have a3:=Nd.nf_rc' h 3 (by omega)
 have b0:=Nd.nf_en' h 0 (by omega); have b1:=Nd.nf_en' h 1 (by omega); have b2:=Nd.nf_en' h 2 (by omega); have b3:=Nd.nf_en' h 3 (by omega)
 have e0:qS P32 P32 P64 x.nf=qS P32 P32 P64 x:=by unfold qS; rw[a0,a1,a2,a3]; rfl
 have e1:jX P32 x.nf=jX P32 x:=by unfold jX; rw[b0,b1,b2,b3]; rfl
 unfold Nd.dg
 rw[e0,e1]; rfl
theorem zi0 {x:Nd}(h:x.wl) (hb:x.wb):x.nf.wb:=⟨hb.1,hb.2.1,fun i hi=>by rw[Nd.nf_rc' h i hi]; exact hb.2.2.1 i hi,fun i hi=>by rw[Nd.nf_en' h i hi]; exact hb.2.2.2 i hi⟩
theorem z9 {a b:Nat}:eqN a b=true↔a=b:=wB
theorem xw {a b:Nat}:ltN a b=true↔a < b:=jS
theorem xq {k m:Nat}:ixB (.ofNat k) m=true↔k < m:=zvn
theorem jh {μ:Mem}{n2:Nat}(v:KV) (h:zS 0 v=true):RnV μ [] id n2 v.v v.v:=(RnF.nf (jm 0 v h).1).b.v
theorem xG {μ:Mem}{n2 b:Nat}{s:Shape}(h:b < n2):RnV μ [] id n2 (KV.ptr b [] s).v (KV.ptr b [] s).v:=(RnB.ptr rfl h).v
theorem zxx:KCS Tryz.prog 117 zwO:=zi7.imp fun l K h=>by
 obtain⟨n,l,i,rfl,⟨h1,h2⟩,h4⟩:=Js h
 show chk (nd (zC n) (isS n l i)) 922 (K _)
 rw[h1,h2]; exact h4
attribute [local irreducible] kpre cOf mOf rOf JL zj zo
section
variable {n m:Nat}{c:Nat→Un}{l j:Nat}{B N:Nat}{a:Nat}
theorem va (x:Nat):Nat.add 0 x=x:=Nat.zero_add x
end
end
end Go.K
set_option maxRecDepth 100000
namespace Go.K
open Go.Ab Go.RowKit Go.Y Go.Proofs
noncomputable section
attribute [local instance 10000] gO
noncomputable def hS (n:Nat):Nat:=@Bool.rec (fun _=>Nat) (@Bool.rec (fun _=>Nat) 2 1 (Nat.beq (zE n 1) 1)) 0 (Nat.beq (zE n 0) 1)
noncomputable def zY (n:Nat):Nat:=Nat.succ (zo n (hS n) 0)
noncomputable def sHt:zh:=fun l K=>la1 l fun a=>z6 a fun n=>zC n=true∧K (nI (hS n))
noncomputable def zFg:zh:=fun l K=>la1 l fun a=>z6 a fun n=>zC n=true∧K (nI (zY n))
noncomputable def zFh:zh:=fun l K=>la2 l fun a b=>z6 a fun n=>z6 b fun l=>(zC n=true∧l≤2)∧K (nI (zE n l))
def zFi (f n:Nat) (w:KV):Prop:=zi EO0 (zj EO0 200) 0 f [nI n] .e 0 0 fun r _ _ _=>tK (kvb r w)
def zFj (f n l:Nat) (w:KV):Prop:=zi EO0 (zj EO0 200) 0 f [nI n,nI l] .e 0 0 fun r _ _ _=>tK (kvb r w)
def zbx (f:Nat) (w:Nat→KV) (q:Bool):Prop:=xr (fun n=>@Bool.rec (fun _=>Prop) True (zFi f (Nat.succ n) (w (Nat.succ n))) q) 24
def zfb (f:Nat) (w:Nat→Nat→KV) (q:Bool):Prop:=xr (fun n=>xr (fun l=>@Bool.rec (fun _=>Prop) True (zFj f (Nat.succ n) l (w (Nat.succ n) l)) q) 3) 24
theorem zuU (f:Nat) (w:Nat→KV):zbx f w false:=zF (fun n=>trivial) 24
theorem znR (f:Nat) (w:Nat→Nat→KV):zfb f w false:=zF (fun n=>zF (fun l=>trivial) 3) 24
theorem zFk:zbx 28 (fun n=>nI (hS n)) true=zbx 28 (fun n=>nI (hS n)) false:=by kernel_rfl
theorem zAP:zbx 104 (fun n=>nI (zY n)) true=zbx 104 (fun n=>nI (zY n)) false:=by kernel_rfl
theorem zFl:zfb 81 (fun n l=>nI (zE n l)) true=zfb 81 (fun n l=>nI (zE n l)) false:=by kernel_rfl
theorem zp6 {f:Nat}(hf:Q4 f) {w:Nat→KV}(hr:∀ n,zA (w n).v=true) (h:zbx f w true=zbx f w false):KCS Tryz.prog f fun l K=>la1 l fun a=>z6 a fun n=>zC n=true∧K (w n) :=
 xm hf fun l K hs=>by
  obtain⟨a,rfl,h1⟩:=j3 hs
  obtain⟨n,rfl,h2,hk⟩:=zu h1
  obtain⟨n1,n2⟩:=zR h2
  obtain⟨m,rfl⟩:∃ m,n=Nat.succ m:=⟨n - 1,by omega⟩
  exact⟨EO0,zr,rfl,200,_,_,hk,hr _,fun r hr=>by rw[vC (yg hr)]; exact Imp.refl _,zw (Eq.mpr h (zuU _ _):zbx f w true) m (by omega)⟩
theorem kHt:KCS Tryz.prog 28 sHt:=zp6 ⟨Tryz.f28,Tryz.func28,by kernel_rfl,by kernel_rfl⟩ (fun n=>rfl) zFk
theorem zAQ:KCS Tryz.prog 104 zFg:=zp6 ⟨Tryz.f104,Tryz.func104,by kernel_rfl,by kernel_rfl⟩ (fun n=>rfl) zAP
theorem zAR:KCS Tryz.prog 81 zFh:=xm ⟨Tryz.f81,Tryz.func81,by kernel_rfl,by kernel_rfl⟩ fun l K hs=>by
  obtain⟨a,b,rfl,h1⟩:=ju hs
  obtain⟨n,rfl,h2⟩:=zu h1
  obtain⟨l,rfl,⟨h3,h4⟩,hk⟩:=zu h2
  obtain⟨n1,n2⟩:=zR h3
  obtain⟨m,rfl⟩:∃ m,n=Nat.succ m:=⟨n - 1,by omega⟩
  exact⟨EO0,zr,rfl,200,_,_,hk,rfl,fun r hr=>by rw[vC (yg hr)]; exact Imp.refl _,zw (zw (Eq.mpr zFl (znR _ _):zfb 81 _ true) m (by omega)) l (by omega)⟩
noncomputable def leN (a b:Nat):Bool:=leI (.ofNat a) (.ofNat b)
end
end Go.K
set_option maxRecDepth 100000
namespace Go.K
open Go.Ab Go.RowKit Go.Y Go.Proofs
noncomputable section
attribute [local instance 10000] gO
theorem XC {n l j:Nat}(hn:zC n=true) (h:isS n l j=true):zo n l j < zY n:=by
 obtain⟨h1,h2⟩:=xc hn h
 obtain⟨n1,n2⟩:=zR hn
 obtain⟨m,rfl⟩:∃ m,n=Nat.succ m:=⟨n - 1,by omega⟩
 have hd:∀ m:Fin 24,∀ l:Fin 3,∀ j:Fin 6,isS (Nat.succ m.1) l.1 j.1=true→zo (Nat.succ m.1) l.1 j.1 < zY (Nat.succ m.1):=by decide
 exact hd ⟨m,by omega⟩ ⟨l,by omega⟩ ⟨j,h2⟩ h
theorem zxQ {n:Nat}(hn:zC n=true):hS n≤2∧zE n (hS n)=1∧∀ l j,isS n l j=true→l≤hS n:=by
 obtain⟨n1,n2⟩:=zR hn
 obtain⟨m,rfl⟩:∃ m,n=Nat.succ m:=⟨n - 1,by omega⟩
 have hd:∀ m:Fin 24,hS (Nat.succ m.1)≤2∧zE (Nat.succ m.1) (hS (Nat.succ m.1))=1∧∀ l:Fin 3,∀ j:Fin 6,isS (Nat.succ m.1) l.1 j.1=true→l.1≤hS (Nat.succ m.1):=by decide
 obtain⟨a,b,d⟩:=hd ⟨m,by omega⟩
 refine⟨a,b,fun l j h=>?_⟩
 obtain⟨h1,h2⟩:=xc hn h
 exact d ⟨l,by omega⟩ ⟨j,h2⟩ h
theorem zsN {E:KEnv}{B N mask:Nat}{Q:K4}{tr:KTm}{zm:KZ}{nx:Nat}{l:List Code}(hl:l=[]) (h:Q .normal tr zm nx):JL E B N mask l tr zm nx Q:=by subst hl; exact h
attribute [local irreducible] kpre cOf mOf rOf JL zj zo hS zY zE
section
variable {n m:Nat}{c:Nat→Un}{B N a:Nat}
theorem zbc {l j:Nat}(h:zes n c l j=0):zcr n l j (c (zo n l j)):=by
 refine Classical.byContradiction fun hp=>?_
 unfold zes at h
 rw[if_neg hp] at h
 cases h
theorem zeu {p q:Prop}(i:Nat) [Decidable (i=i)] (h:p):if i=i then p else q:=by rw[if_pos rfl]; exact h
end
end
end Go.K
set_option maxRecDepth 100000
namespace Go.K
open Go.Ab Go.RowKit Go.Y Go.Proofs
noncomputable section
attribute [local instance 10000] gO
def zzo (v:KV) (f:Bool→Prop):Prop:=jo f (BadN 942) v
theorem ztS {v:KV}{f:Bool→Prop}(h:zzo v f):∃ b,v=.bool b∧f b:=by
 rcases xI h with ⟨b,rfl,h1⟩ | ⟨_,h1⟩
 ·exact⟨b,rfl,h1⟩
 ·exact h1.elim
attribute [local irreducible] zi zj
end
end Go.K
set_option maxRecDepth 100000
namespace Go.K
open Go.Ab Go.RowKit Go.Y Go.Proofs
noncomputable section
attribute [local instance 10000] gO
theorem zrO {n:Nat}{x:Nd}(h:x.fe n=0):x.ok:=by
 refine Classical.byContradiction fun hk=>?_
 unfold Nd.fe at h
 rw[if_neg hk] at h
 cases h
section
variable {n m a:Nat}{c:Nat→Un}
end
end
end Go.K
set_option maxRecDepth 100000
namespace Go.K
open Go.Ab Go.RowKit Go.Y Go.Proofs
noncomputable section
attribute [local instance 10000] gO
noncomputable def xj (i l:Nat):Nat:=@Nat.rec (fun _=>Nat) (Nat.div i 4) (fun _ x=>Nat.div x 4) l
noncomputable def zAp:zh:=fun l K=>la2 l fun a b=>z6 a fun i=>z6 b fun l=>(i < 24∧l≤2)∧K (nI (xj i l))
def zAq (i l:Nat):Prop:=zi EO0 (zj EO0 200) 0 45 [nI i,nI l] .e 0 0 fun r _ _ _=>tK (kvb r (nI (xj i l)))
def zku (q:Bool):Prop:=xr (fun i=>xr (fun l=>@Bool.rec (fun _=>Prop) True (zAq i l) q) 3) 24
theorem zER:zku true=zku false:=by kernel_rfl
theorem zES:KCS Tryz.prog 45 zAp:=xm ⟨Tryz.f45,Tryz.func45,by kernel_rfl,by kernel_rfl⟩ fun l K hs=>by
  obtain⟨a,b,rfl,h1⟩:=ju hs
  obtain⟨i,rfl,h2⟩:=zu h1
  obtain⟨l,rfl,⟨h3,h4⟩,hk⟩:=zu h2
  exact⟨EO0,zr,rfl,200,_,_,hk,rfl,fun r hr=>by rw[vC (yg hr)]; exact Imp.refl _,zw (zw (Eq.mpr zER (zF (fun i=>zF (fun l=>trivial) 3) 24):zku true) i h3) l (by omega)⟩
structure Ud where
 rc:Nat→Rc
 ch:Nat→Bool
 sl:Nat→Nat
noncomputable def roK (s:Shape) (n:Nat) (f:Nat→KV):KV:=.ro true false s 0 n (.fa n f)
structure UOk (n m:Nat) (u:Ud):Prop where
 n24:zC n=true
 tot:m=zY n
 wl:∀ i,i < n→(u.rc i).tg.length=32
 wb:∀ i,i < n→(u.rc i).wb
 sl:∀ i,i < m→u.sl i≤1
 st:∀ i,i < n→(u.rc i).st≤2
noncomputable def JH (n:Nat) (u:Ud) (l j:Nat):Bool:=@decide (∃ i,i < n∧u.ch i=true∧xj i l=j) (Classical.propDecidable _)
noncomputable def E88:KEnv:=EO0.tab [(45,zAp)]
theorem zgc:KOk E88:=zr.tab ⟨zES,trivial⟩
end
end Go.K
set_option maxRecDepth 100000
namespace Go.K
open Go.Ab Go.RowKit Go.Y Go.Proofs
noncomputable section
attribute [local instance 10000] gO
theorem YJ (n j:Nat):∀ l,zo n l j=j + zo n l 0
 | 0=>rfl
 | l + 1=>by
  show Nat.add (zo n l j) (zE n l)=j + Nat.add (zo n l 0) (zE n l)
  rw[YJ n j l]
  show j + zo n l 0 + zE n l=j + (zo n l 0 + zE n l)
  omega
theorem YK (n l:Nat):zo n (l + 1) 0=zo n l 0 + zE n l:=rfl
theorem znS {n l j l' j':Nat}(h:isS n l j=true) (h':isS n l' j'=true) (e:zo n l j=zo n l' j'):l=l'∧j=j':=by
 have mono:∀ a b,a≤b→zo n a 0≤zo n b 0:=fun a b hab=>by
  induction b with
  | zero =>
    have:a=0:=by omega
    rw[this]; exact Nat.le_refl _
  | succ b ih =>
   by_cases q:a=b + 1
   ·rw[q]; exact Nat.le_refl _
   ·have:=ih (by omega)
    rw[YK]; omega
 have h1:=ZS.1 h
 have h2:=ZS.1 h'
 rw[YJ n j l,YJ n j' l'] at e
 rcases Nat.lt_trichotomy l l' with q | q | q
 ·have:=mono (l + 1) l' q
  rw[YK] at this; omega
 ·subst q; exact⟨rfl,by omega⟩
 ·have:=mono (l' + 1) l q
  rw[YK] at this; omega
theorem YL {n:Nat}(hn:zC n=true):zY n≤9:=by
 obtain⟨n1,n2⟩:=zR hn
 obtain⟨k,rfl⟩:∃ k,n=Nat.succ k:=⟨n - 1,by omega⟩
 have hd:∀ m:Fin 24,zY (Nat.succ m.1)≤9:=by decide
 exact hd ⟨k,by omega⟩
noncomputable def vI (n:Nat) (u:Ud) (k:Nat):Nat:=@ite Nat (∃ l j,isS n l j=true∧zo n l j=k∧JH n u l j=true) (Classical.propDecidable _) (1 - u.sl k) (u.sl k)
theorem zA0 {n l j:Nat}{u:Ud}(h:isS n l j=true) (hd:JH n u l j=true):vI n u (zo n l j)=1 - u.sl (zo n l j):=by
 unfold vI
 rw[if_pos ⟨l,j,h,rfl,hd⟩]
theorem zA1 {n l j:Nat}{u:Ud}(h:isS n l j=true) (hd:JH n u l j=false):vI n u (zo n l j)=u.sl (zo n l j):=by
 unfold vI
 rw[if_neg]
 rintro⟨l',j',q1,q2,q3⟩
 obtain⟨rfl,rfl⟩:=znS q1 h q2
 rw[hd] at q3; cases q3
theorem zk1 {n k:Nat}{u:Ud}(h:u.sl k≤1):vI n u k≤1:=by
 unfold vI
 split<;>omega
section
variable {n m:Nat}{u:Ud}{f:Nat→Nat}{l j:Nat}
end
end
end Go.K
set_option maxRecDepth 100000
namespace Go.K
open Go.Ab Go.RowKit Go.Y Go.Proofs
noncomputable section
attribute [local instance 10000] gO
attribute [local irreducible] kpre cOf mOf rOf JL zj zo hS zY zE xj
noncomputable def zrM (n m:Nat) (u:Ud):KV:=roK .sc m fun i=>nI (vI n u i)
section
variable {n m:Nat}{u:Ud}{B N:Nat}
end
end
end Go.K
set_option maxRecDepth 100000
namespace Go.K
open Go.Ab Go.RowKit Go.Y Go.Proofs
noncomputable section
attribute [local instance 10000] gO
noncomputable def emS (n:Nat) (rc:Nat→Rc) (l j:Nat):Bool:=@decide (¬ ∃ i,i < n∧xj i l=j∧(rc i).st≠0) (Classical.propDecidable _)
noncomputable def ji (n:Nat) (rc:Nat→Rc):KV:=roK vT n fun i=>(rc i).k
abbrev P4e:=Nat×(Nat→Rc)×Nat×Nat
noncomputable def zt0 (x:P4e):List KV:=[ji x.1 x.2.1,nI x.2.2.1,nI x.2.2.2]
noncomputable def l46:List Code:=fl (cOf 46)
noncomputable def b46:Code:=lpB (blB (l46.getD 2 .skip))
def zzL (n:Nat) (rc:Nat→Rc) (l j:Nat) (Q:QT) (R:zfP):Prop:=pc E88 46 (l46.take 2) [0,1,2,7] [] (z7 (mOf 46) 0 (zt0 (n,rc,l,j)),[],0) Q fun v _ _=>R v
noncomputable def u46 (n:Nat) (rc:Nat→Rc) (l j k:Nat):List KV:=[ji n rc,nI l,nI j,nI k]
noncomputable def s46 (n:Nat) (rc:Nat→Rc) (l j k:Nat):LS:=([(0,ji n rc),(1,nI l),(2,nI j),(7,nI k)],[],0)
theorem zD1 (n:Nat) (rc:Nat→Rc) (l j:Nat) (Q:QT) (R:zfP):zzL n rc l j Q R=Q .normal (u46 n rc l j 0) [] 0:=by kernel_rfl
def zzM (n:Nat) (rc:Nat→Rc) (l j k:Nat) (Q:QT) (R:zfP):Prop:=pc E88 46 (fl b46) [0,1,2,7] [] (s46 n rc l j k) Q fun v _ _=>R v
def zt1 (n:Nat) (rc:Nat→Rc) (l j k:Nat) (Q:QT):Prop:=cnd (b63 (Nat.add k 1)) (Q .normal (u46 n rc l j (Nat.add k 1)) [] 0)
theorem zD2 (n:Nat) (rc:Nat→Rc) (l j k:Nat) (Q:QT) (R:zfP):zzM n rc l j k Q R=alt (ltN k n) ((k < 24∧l≤2)∧alt (eqN (xj k l) j) (cnd (ixB (.ofNat k) n) (alt (!eZ (rc (Nat.add 0 k)).st) (R (.bool false)) (zt1 n rc l j k Q))) (zt1 n rc l j k Q)) (Q (.exit 0) (u46 n rc l j k) [] 0):=by kernel_rfl
def zzN (n:Nat) (rc:Nat→Rc) (l j k:Nat) (Q:QT) (R:zfP):Prop:=pc E88 46 (l46.drop 3) [] [] (s46 n rc l j k) Q fun v _ _=>R v
theorem zD3 (n:Nat) (rc:Nat→Rc) (l j k:Nat) (Q:QT) (R:zfP):zzN n rc l j k Q R=R (.bool true):=by kernel_rfl
attribute [local irreducible] kpre cOf mOf rOf JL zj l46 b46 zo hS zY zE xj
theorem zD4:Tryz.f46.ntmps=27:=by kernel_rfl
theorem zD5:Tryz.f46.results.toList=rOf 46:=by kernel_rfl
theorem zD6:fl (cOf 46)=l46:=by kernel_rfl
section
variable {n:Nat}{rc:Nat→Rc}{l j:Nat}{B N:Nat}{a:Bool}
noncomputable abbrev Q46 (a:Bool):K4:=retJ E88 Tryz.f46 false (.bool a)
theorem zj6 (v:KV) (tr:KTm) (zm:KZ) (nx:Nat) (h:v=.bool a) (h1:MB (am zm) nx) (h2:INV (mOf 46) tr) (hr:RAll Tryz.prog (tv' (zn tr)) (am zm) (rOf 46) v.v):Q46 a .ret tr zm nx:=by
 subst h
 exact retJ.mk rfl zD5 (FzP.noref rfl) hr
theorem zt2 {k:Nat}{tr:KTm}{zm:KZ}(ht:[0,1,2,7].map (zn tr)=u46 n rc l j k) (hz:([]:List Nat).map (kb zm)=[]):atS (mOf 46) (s46 n rc l j k) tr zm :=
 atS.of (s:=s46 n rc l j k) [] id ht hz (by kernel_rfl) ⟨jh _ rfl,jh _ rfl,jh _ rfl,jh _ rfl,trivial⟩ trivial
theorem j46 (hn:n≤24) (hl:l≤2):JFn Tryz.prog 46 false [ji n rc,nI l,nI j] (.bool (emS n rc l j)):=by
 refine JFn.of (P:=Tryz.prog) zgc rfl (c:=cOf 46) (mOf 46) Tryz.func46 (by kernel_rfl) fun B N hN=>?_
 rw[zD4] at hN
 rw[zD6]
 refine JL.stp (n:=60) (s:=(z7 (mOf 46) 0 [ji n rc,nI l,nI j],[],0)) zgc rfl 2 (rOf 46) [0,1,2,7] [] hN (by kernel_rfl) (by kernel_rfl) (fun v=>v=.bool (emS n rc l j)) zj6 ?_
 show zzL n rc l j _ _
 rw[zD1]
 intro tr zm ht hz hmb hi
 refine JL.loopT zgc (fun k=>s46 n rc l j k) (fun k=>n - k) (fun k=>k≤n∧∀ i,i < k→¬ (xj i l=j∧(rc i).st≠0)) (id:=0) (b:=b46) (l2:=l46.drop 3) (by kernel_rfl) (fun w=>by kernel_rfl) 0 ⟨by omega,fun i hi=>absurd hi (Nat.not_lt_zero i)⟩ (zt2 ht hz) hmb hi ?_
 rintro k ⟨hk,hI⟩
 refine JL.all (n:=60) zgc rfl (rOf 46) [0,1,2,7] [] hN (by kernel_rfl) (by kernel_rfl) (fun v=>v=.bool (emS n rc l j)) (fun v tr zm nx h1 h2 h3 h4=>zj6 v tr zm nx h1 h2 h3 h4) ?_
 show zzM n rc l j k _ _
 rw[zD2]
 have next:k < n→¬ (xj k l=j∧(rc k).st≠0)→∀ tr zm,[0,1,2,7].map (zn tr)=u46 n rc l j (k + 1)→([]:List Nat).map (kb zm)=[]→MB (am zm) 0→INV (mOf 46) tr→∃ s',n - s' < n - k∧(s'≤n∧∀ i,i < s'→¬ (xj i l=j∧(rc i).st≠0))∧atS (mOf 46) (s46 n rc l j s') tr zm:=by
  intro hkn hno tr zm ht hz hmb hi
  refine⟨k + 1,by omega,⟨by omega,fun i hi'=>?_⟩,zt2 ht hz⟩
  by_cases e:i=k
  ·rw[e]; exact hno
  ·exact hI i (by omega)
 unfold zt1
 simp only[zg,xw,bf xw,za,zH,xq,va,z9,bf z9,Bool.not_eq_true',Bool.not_eq_false',bf yn,yn]
 refine⟨fun hkn=>⟨⟨by omega,hl⟩,fun e=>⟨hkn,fun hc=>?_,fun hc=>⟨by show k + 1 < _; omega,next hkn fun h=>h.2 hc⟩⟩,fun e=>⟨by show k + 1 < _; omega,next hkn fun h=>e h.1⟩⟩,fun hkn=>?_⟩
 ·congr 1
  exact (@decide_eq_false _ (Classical.propDecidable _) fun h=>h ⟨k,hkn,e,hc⟩).symm
 ·intro tr zm ht hz hmb hi
  show (if (0:Nat)=0 then JL E88 B N (mOf 46) (l46.drop 3) tr zm 0 (Q46 _) else Q46 _ (.exit 0) tr zm 0)
  rw[if_pos rfl]
  refine JL.preS zgc (zt2 (n:=n) (rc:=rc) ht hz) (vp (by kernel_rfl)) ?_
  refine JL.all (n:=60) zgc rfl (rOf 46) [] [] hN (by kernel_rfl) (by kernel_rfl) (fun v=>v=.bool (emS n rc l j)) zj6 ?_
  show zzN n rc l j k _ _
  rw[zD3]
  congr 1
  refine (@decide_eq_true _ (Classical.propDecidable _) ?_).symm
  rintro⟨i,q1,q2⟩
  exact hI i (by omega) q2
end
noncomputable def zt3:zh:=xM zt0 (fun x=>x.1≤24∧x.2.2.1≤2) fun x=>.bool (emS x.1 x.2.1 x.2.2.1 x.2.2.2)
theorem znj:KCS Tryz.prog 46 zt3:=Xn ⟨Tryz.f46,Tryz.func46,by kernel_rfl,by kernel_rfl⟩ fun x h=>j46 h.1 h.2
end
end Go.K
set_option maxRecDepth 100000
namespace Go.K
open Go.Ab Go.RowKit Go.Y Go.Proofs
noncomputable section
attribute [local instance 10000] gO
noncomputable def vL (m:Nat) (f:Nat→Nat):KV:=roK .sc m fun i=>nI (f i)
noncomputable def E44 (s:zh):KEnv:=EO0.tab [(117,zwO),(46,zt3),(82,zr0),(55,zbm),(44,s)]
def r44 (s:zh) (n m:Nat) (rc:Nat→Rc) (now:Nat→Nat) (l j:Nat) (K:KV→Prop):Prop:=zi (E44 s) (zj (E44 s) 200) 0 44 [ji n rc,vL m now,nI l,nI j] .e 0 0 fun r _ _ _=>K r
noncomputable def z0N (j:Nat) (l:Nat) (T U:KV):KV:=.cons (kU8 l) (.cons (je j) (.cons (.ar 4 rcZ T) (.cons (.ar 4 enZ U) .nl)))
def zCT (n l j w:Nat) (e x:Prop):Prop:=(zC n=true∧isS n l j=true)∧alt (ltN w (zx n l j)) x e
noncomputable def tr0 (rc:Nat→Rc) (j w:Nat):KV:=@Nat.rec (fun _=>KV) .te (fun i t=>xD (rc (Nat.add 0 (Nat.add (Nat.mul 4 j) i))).k (enc i) t) w
def st0 (n:Nat) (rc:Nat→Rc) (j:Nat) (K:KV→Prop) (w:Nat) (x:Prop):Prop:=zCT n 0 j w (K (z0N j 0 (tr0 rc j w) .te)) (cnd (ixB (.ofNat (Nat.add (Nat.mul 4 j) w)) n) x)
def zbf (n:Nat) (rc:Nat→Rc) (j:Nat) (K:KV→Prop):Prop:=st0 n rc j K 0 (st0 n rc j K 1 (st0 n rc j K 2 (st0 n rc j K 3 (st0 n rc j K 4 False))))
theorem zsY (s:zh) (n m:Nat) (rc:Nat→Rc) (now:Nat→Nat) (K:KV→Prop):r44 s n m rc now 0 0 K=zbf n rc 0 K:=by kernel_rfl
theorem zsZ (s:zh) (n m:Nat) (rc:Nat→Rc) (now:Nat→Nat) (K:KV→Prop):r44 s n m rc now 0 1 K=zbf n rc 1 K:=by kernel_rfl
theorem zs0 (s:zh) (n m:Nat) (rc:Nat→Rc) (now:Nat→Nat) (K:KV→Prop):r44 s n m rc now 0 2 K=zbf n rc 2 K:=by kernel_rfl
theorem zs1 (s:zh) (n m:Nat) (rc:Nat→Rc) (now:Nat→Nat) (K:KV→Prop):r44 s n m rc now 0 3 K=zbf n rc 3 K:=by kernel_rfl
theorem zs2 (s:zh) (n m:Nat) (rc:Nat→Rc) (now:Nat→Nat) (K:KV→Prop):r44 s n m rc now 0 4 K=zbf n rc 4 K:=by kernel_rfl
theorem zs3 (s:zh) (n m:Nat) (rc:Nat→Rc) (now:Nat→Nat) (K:KV→Prop):r44 s n m rc now 0 5 K=zbf n rc 5 K:=by kernel_rfl
abbrev P6:=Nat×Nat×(Nat→Rc)×(Nat→Nat)×Nat×Nat
noncomputable def ztw (x:P6):List KV:=[ji x.1 x.2.2.1,vL x.2.1 x.2.2.2.1,nI x.2.2.2.2.1,nI x.2.2.2.2.2]
noncomputable def sNo (nd:P6→Nd) (pre:P6→Prop):zh:=xM ztw pre fun x=>(nd x).k
def zDz (nd:P6→Nd) (pre:P6→Prop) (n m:Nat) (rc:Nat→Rc) (now:Nat→Nat) (k c w:Nat) (U:KV) (X:KV→Prop):Prop :=
 (zC n=true∧k≤2∧c < 4294967296)∧cnd (ixB (.ofNat (zo n k c)) m) (cnd (b63 (Nat.add (now (Nat.add 0 (zo n k c))) 1)) (∃ x:P6,[ji n rc,vL m now,nI k,nI c]=ztw x∧pre x∧(zcP (nd x).nf∧X (xD (.cons (kU8 (Nat.mod (Nat.add (now (Nat.add 0 (zo n k c))) 1) 256)) (.cons (kBy 32 (nN (nd x).nf.dg)) .nl)) (enc w) U))))
noncomputable def zbi (nd:P6→Nd) (pre:P6→Prop) (n m:Nat) (rc:Nat→Rc) (now:Nat→Nat) (k j p:Nat) (K:KV→Prop) (rem:Nat):Nat→KV→Prop :=
 @Nat.rec (fun _=>Nat→KV→Prop) (fun w U=>((zC n=true∧isS n (Nat.succ k) j=true)∧zx n (Nat.succ k) j=p)∧K (z0N j (Nat.succ k) .te U))
  (fun _ ih w U=>((zC n=true∧isS n (Nat.succ k) j=true)∧zx n (Nat.succ k) j=p)∧∃ x:P4e,[ji n rc,nI k,nI (Nat.add (Nat.mul 4 j) w)]=zt0 x∧(x.1≤24∧x.2.2.1≤2)∧alt (!(emS x.1 x.2.1 x.2.2.1 x.2.2.2)) (zDz nd pre n m rc now k (Nat.add (Nat.mul 4 j) w) w U fun U'=>ih (Nat.succ w) U') (ih (Nat.succ w) U)) rem
noncomputable def zy5 (p:Nat):zh:=fun l K=>on3 l fun n l i=>((zC n=true∧isS n l i=true)∧zx n l i=p)∧K (nI p)
theorem zDA (p:Nat):KCS Tryz.prog 117 (zy5 p):=zxx.imp fun l K h=>by
 obtain⟨n,l,i,rfl,⟨h1,h2⟩,h4⟩:=Js h
 subst h2
 exact⟨h1,h4⟩
noncomputable def zfY (p:Nat) (s:zh):KEnv:=EO0.tab [(117,zy5 p),(46,zt3),(82,zr0),(55,zbm),(44,s)]
def zfZ (p:Nat) (s:zh) (n m:Nat) (rc:Nat→Rc) (now:Nat→Nat) (l j:Nat) (K:KV→Prop):Prop:=zi (zfY p s) (zj (zfY p s) 200) 0 44 [ji n rc,vL m now,nI l,nI j] .e 0 0 fun r _ _ _=>K r
theorem zmb (nd:P6→Nd) (pre:P6→Prop) (n m:Nat) (rc:Nat→Rc) (now:Nat→Nat) (K:KV→Prop):zfZ 2 (sNo nd pre) n m rc now 1 0 K=zbi nd pre n m rc now 0 0 2 K 2 0 .te:=by kernel_rfl
theorem zmc (nd:P6→Nd) (pre:P6→Prop) (n m:Nat) (rc:Nat→Rc) (now:Nat→Nat) (K:KV→Prop):zfZ 3 (sNo nd pre) n m rc now 1 0 K=zbi nd pre n m rc now 0 0 3 K 3 0 .te:=by kernel_rfl
theorem zmd (nd:P6→Nd) (pre:P6→Prop) (n m:Nat) (rc:Nat→Rc) (now:Nat→Nat) (K:KV→Prop):zfZ 1 (sNo nd pre) n m rc now 1 1 K=zbi nd pre n m rc now 0 1 1 K 1 0 .te:=by kernel_rfl
theorem zme (nd:P6→Nd) (pre:P6→Prop) (n m:Nat) (rc:Nat→Rc) (now:Nat→Nat) (K:KV→Prop):zfZ 4 (sNo nd pre) n m rc now 1 0 K=zbi nd pre n m rc now 0 0 4 K 4 0 .te:=by kernel_rfl
theorem zmm (nd:P6→Nd) (pre:P6→Prop) (n m:Nat) (rc:Nat→Rc) (now:Nat→Nat) (K:KV→Prop):zfZ 2 (sNo nd pre) n m rc now 1 1 K=zbi nd pre n m rc now 0 1 2 K 2 0 .te:=by kernel_rfl
theorem zmn (nd:P6→Nd) (pre:P6→Prop) (n m:Nat) (rc:Nat→Rc) (now:Nat→Nat) (K:KV→Prop):zfZ 2 (sNo nd pre) n m rc now 2 0 K=zbi nd pre n m rc now 1 0 2 K 2 0 .te:=by kernel_rfl
noncomputable def z32:List Nat:=[0,0,0,0,0,0,0,0,0,0,0,0,0,0,0,0,0,0,0,0,0,0,0,0,0,0,0,0,0,0,0,0]
noncomputable def zRc:Rc:=⟨0,0,0,z32⟩
noncomputable def zEn:En:=⟨0,z32⟩
noncomputable def jE (n:Nat) (rc:Nat→Rc) (now:Nat→Nat):Nat→Nat→Nd
 | 0,j=>⟨0,j,fun i=>if i < zx n 0 j then rc (Nat.add 0 (j4 j i)) else zRc,fun _=>zEn⟩
 | l + 1,j=>⟨l + 1,j,fun _=>zRc,fun w=>if w < zx n (l + 1) j∧emS n rc l (j4 j w)=false then ⟨Nat.mod (Nat.add (now (Nat.add 0 (zo n l (j4 j w)))) 1) 256,(jE n rc now l (j4 j w)).dg⟩ else zEn⟩
theorem zb9:∀ i,i < 32→nN z32 i=0:=by
 have h:∀ i:Fin 32,nN z32 i.1=0:=by decide
 exact fun i hi=>h ⟨i,hi⟩
theorem qb:Imp (KV.ar 32 (kU8 0) .te).v (kBy 32 (nN z32)).v:=qV (n:=32) (f:=fun i=>kU8 (nN z32 i)) (d:=kU8 0) fun i hi=>by
 rw[zb9 i hi]; rfl
theorem qR:Imp rcZ.v zRc.k.v:=Imp.cons (Imp.refl _) (Imp.cons (Imp.refl _) (Imp.cons qb (Imp.refl _)))
theorem yb:Imp enZ.v zEn.k.v:=Imp.cons (Imp.refl _) (Imp.cons qb (Imp.refl _))
theorem v5 {d T:KV}{f:Nat→KV}(h:∀ i,i < 4→Imp (T.atv (enc i) d.v) (f i).v):Imp (KV.ar 4 d T).v (kAr 4 d f).v :=
 Imp.arr fun i hi=>Eq.mpr (congrArg (Imp (T.atv (enc i) d.v)) (qU (f:=f) (z:=d.v) hi)) (h i hi)
theorem zif {l j:Nat}{T U:KV}{x:Nd}(hl:x.lv=l) (hj:x.ix=j) (hT:∀ i,i < 4→Imp (T.atv (enc i) rcZ.v) (x.rc i).k.v) (hU:∀ i,i < 4→Imp (U.atv (enc i) enZ.v) (x.en i).k.v):Imp (z0N j l T U).v x.k.v:=by
 subst hl; subst hj
 exact Imp.cons (Imp.refl _) (Imp.cons (Imp.refl _) (Imp.cons (v5 hT) (Imp.cons (v5 hU) (Imp.refl _))))
theorem zaU (x:Nd):zA x.k.v=true:=by kernel_rfl
theorem W8 {n j w:Nat}(hn:zC n=true) (h:isS n 0 j=true) (hw:w < zx n 0 j):Nat.add (Nat.mul 4 j) w < n:=by
 obtain⟨h1,h2⟩:=xc hn h
 obtain⟨h3,h4⟩:=y7 hn h
 obtain⟨n1,n2⟩:=zR hn
 obtain⟨m,rfl⟩:∃ m,n=Nat.succ m:=⟨n - 1,by omega⟩
 have hd:∀ m:Fin 24,∀ j:Fin 6,∀ w:Fin 4,isS (Nat.succ m.1) 0 j.1=true→w.1 < zx (Nat.succ m.1) 0 j.1→Nat.add (Nat.mul 4 j.1) w.1 < Nat.succ m.1:=by decide
 exact hd ⟨m,by omega⟩ ⟨j,h2⟩ ⟨w,by omega⟩ h hw
theorem zig {rc:Nat→Rc}{j i:Nat}{z:V}:∀ w,(tr0 rc j w).atv (enc i) z=if i < w then (rc (Nat.add 0 (j4 j i))).k.v else z
 | 0=>by rw[if_neg (by omega)]; rfl
 | w + 1=>by
  show (xD (rc (Nat.add 0 (Nat.add (Nat.mul 4 j) w))).k (enc w) (tr0 rc j w)).atv (enc i) z=_
  rw[jD]
  by_cases e:i=w
  ·rw[if_pos e,if_pos (by omega),e]; rfl
  ·rw[if_neg e,zig w]
   by_cases q:i < w
   ·rw[if_pos q,if_pos (by omega)]
   ·rw[if_neg q,if_neg (by omega)]
def Qd (L:Nat) (x:P6):Prop:=zC x.1=true∧x.2.1=zY x.1∧(∀ i,i < x.1→(x.2.2.1 i).tg.length=32∧(x.2.2.1 i).wb)∧(∀ i,i < x.2.1→x.2.2.2.1 i≤1)∧x.2.2.2.2.1 < L∧isS x.1 x.2.2.2.2.1 x.2.2.2.2.2=true
noncomputable def nd6 (x:P6):Nd:=jE x.1 x.2.2.1 x.2.2.2.1 x.2.2.2.2.1 x.2.2.2.2.2
theorem zih:∀ b∈z32,b < 256:=by decide
theorem Jn:zRc.wb:=⟨by decide,by decide,by decide,zih⟩
theorem W9:zEn.wb:=⟨by decide,zih⟩
theorem Vi {n:Nat}{rc:Nat→Rc}{now:Nat→Nat}(hn:zC n=true) (hr:∀ i,i < n→(rc i).tg.length=32∧(rc i).wb):∀ l j,isS n l j=true→(jE n rc now l j).wl∧(jE n rc now l j).wb∧(jE n rc now l j).lv=l∧(jE n rc now l j).ix=j
 | 0,j,h=>by
  have hj:=(xc hn h).2
  refine⟨⟨fun i hi=>?_,fun i hi=>rfl⟩,⟨by show 0 < 256; omega,by show j < _; omega,fun i hi=>?_,fun i hi=>W9⟩,rfl,rfl⟩
  ·show (if i < zx n 0 j then rc (Nat.add 0 (j4 j i)) else zRc).tg.length=32
   by_cases q:i < zx n 0 j
   ·rw[if_pos q,va]; exact (hr _ (W8 hn h q)).1
   ·rw[if_neg q]; rfl
  ·show (if i < zx n 0 j then rc (Nat.add 0 (j4 j i)) else zRc).wb
   by_cases q:i < zx n 0 j
   ·rw[if_pos q,va]; exact (hr _ (W8 hn h q)).2
   ·rw[if_neg q]; exact Jn
 | l + 1,j,h=>by
  have hj:=xc hn h
  refine⟨⟨fun i hi=>rfl,fun i hi=>?_⟩,⟨by show l + 1 < 256; omega,by show j < _; omega,fun i hi=>Jn,fun i hi=>?_⟩,rfl,rfl⟩
  ·show (if i < zx n (l + 1) j∧emS n rc l (j4 j i)=false then (⟨_,_⟩:En) else zEn).dg.length=32
   split
   ·exact ztW _
   ·rfl
  ·show (if i < zx n (l + 1) j∧emS n rc l (j4 j i)=false then (⟨_,_⟩:En) else zEn).wb
   split
   ·exact⟨Nat.mod_lt _ (by omega),zzu _⟩
   ·exact W9
theorem zaV {n j w p:Nat}{rc:Nat→Rc}{K:KV→Prop}{x:Prop}(hn:zC n=true) (h:isS n 0 j=true) (hp:zx n 0 j=p) (hw:w≤p) (hq:w=p→K (z0N j 0 (tr0 rc j w) .te)) (hx:w < p→x):st0 n rc j K w x:=by
 refine⟨⟨hn,h⟩,zg.2 ⟨fun q=>?_,fun q=>hq ?_⟩⟩
 ·rw[xw,hp] at q
  exact za.2 ⟨xq.2 (W8 hn h (by omega)),hx q⟩
 ·rw[bf xw,hp] at q
  omega
theorem zvZ {n j:Nat}{rc:Nat→Rc}{now:Nat→Nat}(hn:zC n=true) (h:isS n 0 j=true):zbf n rc j fun r=>Imp r.v (jE n rc now 0 j).k.v:=by
 obtain⟨h3,h4⟩:=y7 hn h
 have fin:∀ w,w=zx n 0 j→Imp (z0N j 0 (tr0 rc j w) .te).v (jE n rc now 0 j).k.v:=fun w hw=>zif rfl rfl (fun i hi=>by
  rw[zig]
  show Imp _ (if i < zx n 0 j then rc (Nat.add 0 (j4 j i)) else zRc).k.v
  rw[hw]
  by_cases q:i < zx n 0 j
  ·rw[if_pos q,if_pos q]; exact Imp.refl _
  ·rw[if_neg q,if_neg q]; exact qR) fun i hi=>yb
 exact zaV hn h rfl (by omega) (fin 0) fun q0=>zaV hn h rfl q0 (fin 1) fun q1=>zaV hn h rfl q1 (fin 2) fun q2=>zaV hn h rfl q2 (fin 3) fun q3=>zaV hn h rfl q3 (fin 4) fun q4=>absurd q4 (by omega)
def UI (x:Nd) (w:Nat) (U:KV):Prop:=∀ i,i < 4→Imp (U.atv (enc i) enZ.v) (if i < w then x.en i else zEn).k.v
theorem zEt {n m L k j p:Nat}{rc:Nat→Rc}{now:Nat→Nat}(hx:Qd (L + 1) (n,m,rc,now,k + 1,j)) (hp:zx n (k + 1) j=p):∀ r w U,r + w=p→UI (jE n rc now (k + 1) j) w U→zbi nd6 (Qd L) n m rc now k j p (fun r=>Imp r.v (jE n rc now (k + 1) j).k.v) r w U:=by
 obtain⟨hn,hm,hr,hs,hl,hS⟩:=hx
 replace hn:zC n=true:=hn
 replace hm:m=zY n:=hm
 replace hr:∀ i,i < n→(rc i).tg.length=32∧(rc i).wb:=hr
 replace hs:∀ i,i < m→now i≤1:=hs
 replace hl:k + 1 < L + 1:=hl
 replace hS:isS n (k + 1) j=true:=hS
 obtain⟨n1,n2⟩:=zR hn
 have hkj:=xc hn hS
 obtain⟨p1,p4⟩:=y7 hn hS
 intro r
 induction r with
 | zero =>
  intro w U hw hU
  obtain rfl:w=p:=by omega
  refine⟨⟨⟨hn,hS⟩,hp⟩,zif rfl rfl (fun i hi=>qR) fun i hi=>?_⟩
  have h:=hU i hi
  by_cases q:i < w
  ·rw[if_pos q] at h; exact h
  ·rw[if_neg q] at h
   have:(jE n rc now (k + 1) j).en i=zEn:=by
    show (if i < zx n (k + 1) j∧emS n rc k (j4 j i)=false then (⟨_,_⟩:En) else zEn)=zEn
    rw[if_neg fun h=>q (by omega)]
   rw[this]; exact h
 | succ r ih =>
  intro w U hw hU
  have hwp:w < zx n (k + 1) j:=by omega
  have hk:=Yn hn hS hwp
  have hc:=xc hn hk
  refine⟨⟨⟨hn,hS⟩,hp⟩,(n,rc,k,j4 j w),rfl,⟨n2,by show k≤2; omega⟩,?_⟩
  show alt (!(emS n rc k (j4 j w))) _ _
  refine zg.2 ⟨fun he=>?_,fun he=>ih (w + 1) U (by omega) fun i hi=>?_⟩
  ·replace he:emS n rc k (j4 j w)=false:=by simpa using he
   have hnum:=XC hn hk
   have hno:=hs (zo n k (j4 j w)) (by omega)
   obtain⟨wl,wb,lv,ix⟩:=Vi hn hr (now:=now) k (j4 j w) hk
   refine⟨⟨hn,by omega,by show j4 j w < _; omega⟩,za.2 ⟨xq.2 (by show zo n k (j4 j w) < m; omega),za.2 ⟨zH.2 (by
    show now (Nat.add 0 (zo n k (j4 j w))) + 1 < _
    rw[va]; omega),(n,m,rc,now,k,j4 j w),rfl,⟨hn,hm,hr,hs,by show k < L; omega,hk⟩,⟨zi0 wl wb,?_⟩,?_⟩⟩⟩
   ·show (jE n rc now k (j4 j w)).lv≤2
    rw[lv]; omega
   ·refine ih (w + 1) _ (by omega) fun i hi=>?_
    rw[jD]
    by_cases e:i=w
    ·rw[if_pos e,if_pos (by omega),e]
     have hen:(jE n rc now (k + 1) j).en w=⟨Nat.mod (Nat.add (now (Nat.add 0 (zo n k (j4 j w)))) 1) 256,(jE n rc now k (j4 j w)).dg⟩:=by
      show (if w < zx n (k + 1) j∧emS n rc k (j4 j w)=false then (⟨_,_⟩:En) else zEn)=_
      rw[if_pos ⟨hwp,he⟩]
     rw[hen]
     show Imp (KV.cons _ (.cons (kBy 32 (nN (jE n rc now k (j4 j w)).nf.dg)) .nl)).v _
     rw[zxw wl]
     exact Imp.refl _
    ·rw[if_neg e]
     have h:=hU i hi
     by_cases q:i < w
     ·rw[if_pos q] at h; rw[if_pos (by omega)]; exact h
     ·rw[if_neg q] at h; rw[if_neg (by omega)]; exact h
  ·replace he:emS n rc k (j4 j w)=true:=by simpa using he
   have h:=hU i hi
   by_cases q:i < w
   ·rw[if_pos q] at h; rw[if_pos (by omega)]; exact h
   ·rw[if_neg q] at h
    by_cases e:i=w
    ·rw[if_pos (by omega),e]
     have hen:(jE n rc now (k + 1) j).en w=zEn:=by
      show (if w < zx n (k + 1) j∧emS n rc k (j4 j w)=false then (⟨_,_⟩:En) else zEn)=zEn
      rw[if_neg fun h=>by rw[he] at h; cases h.2]
     rw[hen]; rw[e] at h; exact h
    ·rw[if_neg (by omega)]; exact h
noncomputable def Zg (L:Nat):zh:=sNo nd6 (Qd L)
theorem zAl:KCS Tryz.prog 44 (Zg 0):=⟨⟨Tryz.f44,Tryz.func44,by kernel_rfl,by kernel_rfl⟩,fun l K h=>by
 obtain⟨x,_,h,_⟩:=h
 exact absurd h.2.2.2.2.1 (Nat.not_lt_zero _)⟩
theorem zut {n k j:Nat}(hn:zC n=true) (h:isS n (k + 1) j=true):(k=0∧j=0∧(zx n 1 0=2∨zx n 1 0=3∨zx n 1 0=4))∨(k=0∧j=1∧(zx n 1 1=1∨zx n 1 1=2))∨(k=1∧j=0∧zx n 2 0=2):=by
 obtain⟨h1,h2⟩:=xc hn h
 obtain⟨n1,n2⟩:=zR hn
 obtain⟨m,rfl⟩:∃ m,n=Nat.succ m:=⟨n - 1,by omega⟩
 have ha:∀ m:Fin 24,isS (Nat.succ m.1) 1 0=true→zx (Nat.succ m.1) 1 0=2∨zx (Nat.succ m.1) 1 0=3∨zx (Nat.succ m.1) 1 0=4:=by decide
 have hb:∀ m:Fin 24,isS (Nat.succ m.1) 1 1=true→zx (Nat.succ m.1) 1 1=1∨zx (Nat.succ m.1) 1 1=2:=by decide
 have hc:∀ m:Fin 24,isS (Nat.succ m.1) 2 0=true→zx (Nat.succ m.1) 2 0=2:=by decide
 have hj1:∀ m:Fin 24,∀ j:Fin 6,isS (Nat.succ m.1) 1 j.1=true→j.1 < 2:=by decide
 have hj2:∀ m:Fin 24,∀ j:Fin 6,isS (Nat.succ m.1) 2 j.1=true→j.1 < 1:=by decide
 have hk:k=0∨k=1:=by omega
 have hm:m < 24:=by omega
 rcases hk with rfl | rfl
 ·have:=hj1 ⟨m,hm⟩ ⟨j,h2⟩ h
  have hj:j=0∨j=1:=by have:j < 2:=this; omega
  rcases hj with rfl | rfl
  ·exact .inl ⟨rfl,rfl,ha ⟨m,hm⟩ h⟩
  ·exact .inr (.inl ⟨rfl,rfl,hb ⟨m,hm⟩ h⟩)
 ·have:=hj2 ⟨m,hm⟩ ⟨j,h2⟩ h
  obtain rfl:j=0:=by have:j < 1:=this; omega
  exact .inr (.inr ⟨rfl,rfl,hc ⟨m,hm⟩ h⟩)
theorem zuu {x:Nd}:UI x 0 .te:=fun i hi=>by rw[if_neg (by omega)]; exact yb
theorem zkp {L:Nat}(ih:KCS Tryz.prog 44 (Zg L)):KCS Tryz.prog 44 (Zg (L + 1)):=xm ⟨Tryz.f44,Tryz.func44,by kernel_rfl,by kernel_rfl⟩ fun l K hs=>by
 obtain⟨⟨n,m,rc,now,l,j⟩,rfl,hx,hk⟩:=hs
 have hn:zC n=true:=hx.1
 have hS:isS n l j=true:=hx.2.2.2.2.2
 have okP:∀ p,KOk (zfY p (Zg L)):=fun p=>zr.tab ⟨zDA p,znj,znv,zbn,ih,trivial⟩
 cases l with
 | zero =>
  have hj:=(xc hn hS).2
  have hf:zbf n rc j fun r=>Imp r.v (jE n rc now 0 j).k.v:=zvZ hn hS
  refine⟨E44 (Zg L),zr.tab ⟨zxx,znj,znv,zbn,ih,trivial⟩,rfl,200,fun r=>Imp r.v (jE n rc now 0 j).k.v,_,hk,zaU _,fun r h=>h,?_⟩
  match j,hj with
  | 0,_=>exact Eq.mpr (zsY (Zg L) n m rc now _) hf
  | 1,_=>exact Eq.mpr (zsZ (Zg L) n m rc now _) hf
  | 2,_=>exact Eq.mpr (zs0 (Zg L) n m rc now _) hf
  | 3,_=>exact Eq.mpr (zs1 (Zg L) n m rc now _) hf
  | 4,_=>exact Eq.mpr (zs2 (Zg L) n m rc now _) hf
  | 5,_=>exact Eq.mpr (zs3 (Zg L) n m rc now _) hf
 | succ k =>
  have go:∀ p,zx n (k + 1) j=p→zbi nd6 (Qd L) n m rc now k j p (fun r=>Imp r.v (jE n rc now (k + 1) j).k.v) p 0 .te:=fun p hp=>zEt hx hp p 0 .te rfl zuu
  have fin:∀ p,zi (zfY p (Zg L)) (zj (zfY p (Zg L)) 200) 0 44 [ji n rc,vL m now,nI (k + 1),nI j] .e 0 0 (fun r _ _ _=>Imp r.v (jE n rc now (k + 1) j).k.v)→_:=fun p h=>(⟨zfY p (Zg L),okP p,rfl,200,fun r=>Imp r.v (jE n rc now (k + 1) j).k.v,_,hk,zaU _,fun r h=>h,h⟩:∃ E:KEnv,KOk E∧E.P=Tryz.prog∧∃(n':Nat) (Q:KV→Prop) (w:KV),K w∧zA w.v=true∧(∀ r:KV,Q r→Imp r.v w.v)∧zi E (zj E n') 0 44 (ztw (n,m,rc,now,k + 1,j)) .e 0 0 fun r _ _ _=>Q r)
  rcases zut hn hS with ⟨rfl,rfl,hp | hp | hp⟩ | ⟨rfl,rfl,hp | hp⟩ | ⟨rfl,rfl,hp⟩
  ·exact fin 2 (Eq.mpr (zmb nd6 (Qd L) n m rc now _) (go 2 hp))
  ·exact fin 3 (Eq.mpr (zmc nd6 (Qd L) n m rc now _) (go 3 hp))
  ·exact fin 4 (Eq.mpr (zme nd6 (Qd L) n m rc now _) (go 4 hp))
  ·exact fin 1 (Eq.mpr (zmd nd6 (Qd L) n m rc now _) (go 1 hp))
  ·exact fin 2 (Eq.mpr (zmm nd6 (Qd L) n m rc now _) (go 2 hp))
  ·exact fin 2 (Eq.mpr (zmn nd6 (Qd L) n m rc now _) (go 2 hp))
theorem znw:KCS Tryz.prog 44 (Zg 3):=zkp (zkp (zkp zAl))
theorem jY (l:List Nat):zA (kBy 32 (nN l)).v=true:=by kernel_rfl
structure Md where
 nb:Nat
 p:Nat
 pp:Nat→Nat→Nat
 q:Nat
 ss:Nat→Nat
structure Sd where
 t:Md
 c:Nat
 sp:Nat→Nat→Nat
end
end Go.K
set_option maxRecDepth 100000
namespace Go.K
open Go.Ab Go.RowKit Go.Y Go.Proofs
noncomputable section
attribute [local instance 10000] gO
attribute [local irreducible] kpre cOf mOf rOf JL zj zo hS zY zE xj
theorem FzP.ub {zm:KZ}{v:KV}(h:ubK v=true):FzP true zm v v:=fun B C M _ _=>R.allT_fr h
theorem XG {n:Nat}{f:Nat→KV}(h:∀ i,ubK (f i)=true):ubK (.fa n f)=true:=Xz.2 h
theorem zuV (x:Rc):ubK x.k=true:=by kernel_rfl
section
variable {x:Sd}{B N:Nat}
end
end
end Go.K
set_option maxRecDepth 100000
namespace Go.K
open Go.Ab Go.RowKit Go.Y Go.Proofs
noncomputable section
attribute [local instance 10000] gO
def la4 (l:List KV) (f:KV→KV→KV→KV→Prop):Prop:=match l with
 | [a,b,c,d]=>f a b c d
 | _=>False
theorem za6 {l:List KV}{f:KV→KV→KV→KV→Prop}(h:la4 l f):∃ a b c d,l=[a,b,c,d]∧f a b c d:=by
 unfold la4 at h
 split at h
 ·exact⟨_,_,_,_,rfl,h⟩
 ·exact h.elim
noncomputable def zxs (n:Nat) (u:Ud) (F:Nat→Nat→Nd):zh:=fun l K=>la4 l fun a b c d=>z6 c fun i=>z6 d fun j=>[a,b]=[ji n u.rc,zrM n (zY n) u]∧cnd (isS n i j) (K (F i j).k)
noncomputable def jg (n:Nat) (u:Ud):Nat→Nat→Nd:=jE n u.rc (vI n u)
section
variable {x:Sd}{n:Nat}{u:Ud}
theorem zxt (H:UOk n (zY n) u):KCS Tryz.prog 44 (zxs n u (jg n u)):=⟨znw.1,fun l K hk=>znw.2 l K (by
 obtain⟨a,b,c,d,rfl,h1⟩:=za6 hk
 obtain⟨i,rfl,h2⟩:=zu h1
 obtain⟨j,rfl,h0,h2⟩:=zu h2
 obtain⟨h3,h4⟩:=za.1 h2
 cases h0
 exact⟨(n,zY n,u.rc,vI n u,i,j),rfl,⟨H.n24,rfl,fun i hi=>⟨H.wl i hi,H.wb i hi⟩,fun i hi=>zk1 (H.sl i hi),Nat.lt_succ_of_le (xc H.n24 h3).1,h3⟩,h4⟩)⟩
end
noncomputable def X1 (C:Ctx):Ctx:={ C with ok:=fun _ b=>C.ok false b∨C.ok true b }
noncomputable def zq (l:List KV) (w:KV):zh:=fun l' K=>l'=l∧K w
theorem za7 {f:Nat}{s:zh}(hs:KCS Tryz.prog f s) {l l':List KV}{w:KV}(hlow:∀ C m,R C (mkL (l.map KV.v)) m→R (X1 C) (mkL (l'.map KV.v)) m) (hid:vJ (mkL (l'.map KV.v))=true) (hw:zA w.v=true) (hk:∀ K:KV→Prop,K w→s l' K):KCS Tryz.prog f (zq l w):=by
 refine⟨hs.1,fun q K hq=>?_⟩
 obtain⟨rfl,hK⟩:=hq
 obtain⟨v,hv,h2⟩:=hs.2 l' (fun v=>v=w) (hk _ rfl)
 subst hv
 have hc:xX Tryz.prog f { pre:=fun l''=>@decide (l''=q.map KV.v) (Classical.propDecidable _),res:=fun _=>v.v,fresh:=true }:=by
  refine⟨hs.1,fun C l'' vals hok hg hargs hpre=>?_⟩
  have hl:l''=q.map KV.v:=@of_decide_eq_true _ (Classical.propDecidable _) hpre
  subst hl
  have ha:R (X1 C.pur) (mkL (l'.map KV.v)) (.list vals):=hlow C.pur _ hargs
  have hcall:=h2 C.w.heap.size (fun _=>none) 0 0 (l'.map KV.v) (fun D M vs _ _ hr=>R.keep (Keep.opened D _) _ _ (R.pure_of _ hid hr))
  have hz:GR C.w.heap.size 0 (X1 C.pur) (fun _=>none) (fun _=>none) 0 :=
   ⟨⟨Nat.le_refl _,(fun u b h=>h.elim (hok _ _) (hok _ _)),(fun _ _ h=>(by cases h)),(fun _ _ h=>(by cases h)),(fun _ _ _ _ _ h=>(by cases h)),(fun _ _ _ h=>(by cases h)),fun g=>R.keep (C:=C.pur) (C':=(X1 C.pur)) ⟨fun _ h=>h,fun _ _=>rfl,fun _ _=>rfl,fun u b h=>by
    cases u
    ·exact .inl h
    ·exact .inr h,fun _ _ _=>rfl⟩ _ _ (hg g)⟩,(fun id b hb=>(by cases hb)),fun _ _ _ h=>h⟩
  refine (hcall 0 (X1 C.pur) (fun _=>none) vals (Nat.le_refl _) (Nat.le_refl _) hz ha).mono ?_
  rintro e w' ⟨val,he,C',M',hw',hR,_,hkk⟩
  subst hw'
  exact⟨hkk.kp.below,val,he,R.noref _ hw hR⟩
 refine⟨v,hK,fun B μ nx mx l0 hl0=>?_⟩
 exact vd (B:=B) (μ:=μ) (nx:=nx) (mx:=mx) zr.gn hc rfl hl0 (by rw[wF]; exact @decide_eq_true _ (Classical.propDecidable _) rfl)
noncomputable def wj (a:Nat):List Nat:=lsF 32 fun i=>Nat.mod (Nat.mul a (Nat.mod (Nat.add i 1) 256)) 256
noncomputable def Qk (a:Nat):List Nat:=lsF 32 fun i=>Nat.mod (Nat.add a (Nat.mod (Nat.mul 3 i) 256)) 256
def p62 (a:Nat) (K:KV→Prop):Prop:=zi EO0 (zj EO0 200) 0 62 [kU8 a] .e 0 0 fun r _ _ _=>K r
def zCU (a:Nat) (K:KV→Prop):Prop:=zi EO0 (zj EO0 200) 0 102 [kU8 a] .e 0 0 fun r _ _ _=>K r
structure Cv where
 th:Bool
 ln:Nat
 st:Nat
noncomputable def Cv.k (x:Cv):KV:=.cons (.bool x.th) (.cons (.str x.ln x.st) .nl)
structure Dd where
 cn:Nat→Nat
 cv:Nat→Nat→Cv
noncomputable def vl:Shape:=.cons .sc (.cons .sc .nl)
noncomputable def Dd.el (d:Dd) (i:Nat):KV:=.ro true false vl 0 (Nat.succ (d.cn i)) (.fa (Nat.succ (d.cn i)) fun j=>(d.cv i j).k)
noncomputable def dK (L:Nat) (d:Dd):KV:=.cons (.ro true false .sc 0 L (.fa L d.el)) .nl
def p74 (L:Nat) (d:Dd) (s:Nat) (K:KV→Prop):Prop:=zi EO0 (zj EO0 200) 0 74 [dK L d,nI s] .e 0 0 fun r _ _ _=>K r
theorem e62 (a:Nat) (K:KV→Prop):p62 a K=K (kBy 32 (nN (wj a))):=by kernel_rfl
theorem zCV (a:Nat) (K:KV→Prop):zCU a K=K (kBy 32 (nN (Qk a))):=by kernel_rfl
noncomputable def Dd.last (d:Dd) (s:Nat):Cv:=d.cv s (d.cn s)
theorem e74 (L:Nat) (d:Dd) (s:Nat) (K:KV→Prop):p74 L d s K=cnd (ixB (.ofNat s) L) (cnd (ixB (.ofNat s) L) (cnd (b63 (Nat.sub (Nat.succ (d.cn (Nat.add 0 s))) 1)) (cnd (ixB (.ofNat (Nat.sub (Nat.succ (d.cn (Nat.add 0 s))) 1)) (Nat.succ (d.cn (Nat.add 0 s)))) (K (d.cv (Nat.add 0 s) (Nat.add 0 (Nat.sub (Nat.succ (d.cn (Nat.add 0 s))) 1))).k)))):=by kernel_rfl
theorem zyf:KCS Tryz.prog 62 (xM (fun a:Nat=>[kU8 a]) (fun _=>True) fun a=>kBy 32 (nN (wj a))):=xm ⟨Tryz.f62,Tryz.func62,by kernel_rfl,by kernel_rfl⟩ fun l K hs=>by
 obtain⟨a,rfl,_,hk⟩:=hs
 exact⟨EO0,zr,rfl,200,fun r=>r=kBy 32 (nN (wj a)),_,hk,jY _,fun r hr=>by rw[hr]; exact Imp.refl _,Eq.mpr (e62 a _) rfl⟩
theorem zyg:KCS Tryz.prog 102 (xM (fun a:Nat=>[kU8 a]) (fun _=>True) fun a=>kBy 32 (nN (Qk a))):=xm ⟨Tryz.f102,Tryz.func102,by kernel_rfl,by kernel_rfl⟩ fun l K hs=>by
 obtain⟨a,rfl,_,hk⟩:=hs
 exact⟨EO0,zr,rfl,200,fun r=>r=kBy 32 (nN (Qk a)),_,hk,jY _,fun r hr=>by rw[hr]; exact Imp.refl _,Eq.mpr (zCV a _) rfl⟩
abbrev P3d:=Nat×Dd×Nat
noncomputable def zyh:zh:=xM (fun x:P3d=>[dK x.1 x.2.1,nI x.2.2]) (fun x=>x.2.2 < x.1∧x.2.1.cn x.2.2 < 4611686018427387904) fun x=>(x.2.1.last x.2.2).k
theorem XW:KCS Tryz.prog 74 zyh:=xm ⟨Tryz.f74,Tryz.func74,by kernel_rfl,by kernel_rfl⟩ fun l K hs=>by
 obtain⟨⟨L,d,s⟩,rfl,⟨h1,h2⟩,hk⟩:=hs
 have h1:s < L:=h1
 have h2:d.cn s < 4611686018427387904:=h2
 refine⟨EO0,zr,rfl,200,fun r=>r=(d.last s).k,_,hk,by kernel_rfl,fun r hr=>by rw[hr]; exact Imp.refl _,Eq.mpr (e74 L d s _) ?_⟩
 rw[va]
 refine za.2 ⟨xq.2 h1,za.2 ⟨xq.2 h1,za.2 ⟨zH.2 (by show d.cn s < _; omega),za.2 ⟨xq.2 (Nat.lt_succ_self (d.cn s)),?_⟩⟩⟩⟩
 rw[va]
 rfl
end
end Go.K
