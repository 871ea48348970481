/- Arguments of the volume's laws, opened as data. No condition. -/
import Derived.Test.YtkllahedaiddgaaGreatDoorQK1b
import Derived.Test.YtkllahedaiddgaaGreatDoorQI4
import Derived.Test.YtkllahedaiddgaaGreatDoorK25
import Derived.Deep.Slices
import Derived.OpenShut
import Derived.Test.YtkllahedaiddgaaGreatDoorRW
import Derived.Test.YtkllahedaiddgaaGreatDoorZD3
set_option linter.unusedSimpArgs false
set_option linter.unusedVariables false
set_option maxRecDepth 100000
namespace Go.K
open Go.Ab Go.RowKit Go.Y Go.Proofs
noncomputable section
attribute [local instance 10000] gO
theorem xW {a b:V}(h1:eqV a a=true) (h2:eqV b b=true):eqV (.cons a b) (.cons a b)=true:=by
 show (eqV a a&&eqV b b)=true
 rw[h1,h2]; rfl
theorem qW (k:IntKind) (a:Int):eqV (.int k a) (.int k a)=true:=by
 show (a==a)=true
 exact beq_self_eq_true a
theorem Yh {n:Nat}{d:KV}{f:Nat→KV}(h:∀ i,i < n→eqV (f i).v (f i).v=true):eqV (kAr n d f).v (kAr n d f).v=true:=by
 show (List.range n).all (fun i=>eqV (KV.atv (@Nat.rec (fun _=>KV) .te (fun i t=>xD (f i) (enc i) t) n) (enc i) d.v) (KV.atv (@Nat.rec (fun _=>KV) .te (fun i t=>xD (f i) (enc i) t) n) (enc i) d.v))=true
 refine List.all_eq_true.2 fun i hi=>?_
 have e:=qU (f:=f) (z:=d.v) (List.mem_range.1 hi)
 show eqV (KV.atv (@Nat.rec (fun _=>KV) .te (fun i t=>xD (f i) (enc i) t) n) (enc i) d.v) (KV.atv (@Nat.rec (fun _=>KV) .te (fun i t=>xD (f i) (enc i) t) n) (enc i) d.v)=true
 rw[e]
 exact h i (List.mem_range.1 hi)
theorem zch (n:Nat) (f:Nat→Nat):eqV (kBy n f).v (kBy n f).v=true:=Yh fun i _=>qW _ _
theorem zrP (x:Nd):eqV x.k.v x.k.v=true :=
 xW (qW _ _) (xW (qW _ _) (xW (Yh fun i _=>xW (qW _ _) (xW (xW (qW _ _) (xW (qW _ _) rfl)) (xW (zch _ _) rfl))) (xW (Yh fun i _=>xW (qW _ _) (xW (zch _ _) rfl)) rfl)))
theorem zrQ (x:Nd):keq 24 x.k x.k=some (kqB x.k x.k):=by kernel_rfl
theorem zrR (f:Nat→Nat):keq 24 (kBy 32 f) (kBy 32 f)=some (kqB (kBy 32 f) (kBy 32 f)):=by kernel_rfl
theorem zwu (x:Nd):kqB x.k x.k=true:=(zdJ _ _ _ _ (zrQ x)).symm.trans (zrP x)
theorem zwv (f:Nat→Nat):kqB (kBy 32 f) (kBy 32 f)=true:=(zdJ _ _ _ _ (zrR f)).symm.trans (zch _ _)
theorem zBZ:kqB (kBy 32 (nN z32)) zkS=true:=by kernel_rfl
theorem zB0:kqB (pgK 0 0) (pgK 0 0)=true:=by kernel_rfl
theorem zoT:lsK zkS 32=z32:=by kernel_rfl
theorem zec {b:Bool}{p q:Prop}(h:b=true) (hp:p):alt b p q:=by subst h; exact hp
theorem za2 {b:Bool}{p q:Prop}(h:b=false) (hq:q):alt b p q:=by subst h; exact hq
attribute [local irreducible] zj zi kqB zo hS zY zE zx zt qj
theorem zB1 {r:Rc}(hl:r.tg.length=32):(n1 r).e=r.e:=by
 have e1:n1 r=⟨0,0,c4 r zRc zRc zRc,c4 zEn zEn zEn zEn⟩:=by
  have h1:zkT=zRc:=by unfold zkT; rw[zoT]; rfl
  have h2:zgj=zEn:=by unfold zgj; rw[zoT]; rfl
  have h3:(⟨r.st,r.sh,r.ct,lsK (kBy 32 (nN r.tg)) 32⟩:Rc)=r:=Rc.nf_eq hl
  unfold n1
  rw[h1,h2,h3]
 have hz:zRc.ok:=⟨Nat.zero_le _,fun _=>⟨rfl,rfl,rfl,fun i hi=>zb9 i hi⟩⟩
 have hz2:zEn.zero:=⟨rfl,fun i hi=>zb9 i hi⟩
 have hk:(n1 r).ok↔r.ok:=by
  rw[e1]
  constructor
  ·intro h; exact (h.2.1 rfl).2 0 (by omega)
  ·intro h
   exact⟨Nat.zero_le _,fun _=>⟨Yg (P:=fun _ (x:En)=>x.zero) hz2 hz2 hz2 hz2,Yg (P:=fun _ (x:Rc)=>x.ok) h hz hz hz⟩,fun q=>absurd rfl q⟩
 by_cases h:r.ok
 ·rw[Rc.e_t h]
  unfold Nd.e
  rw[if_pos (hk.2 h)]
 ·rw[Rc.e_f h]
  unfold Nd.e
  rw[if_neg fun q=>h (hk.1 q)]
noncomputable def trQ:KV→Prop:=fun r=>r=.bool true
theorem eI (a:Nat):eqI (.ofNat a) (.ofNat a)=true:=wB.2 rfl
theorem zww {a f:Nat}{q:Prop}(hf:f≤6) (h:q):prQ a f (erN f) a f trQ q:=by
 refine za2 (by rw[eI]; rfl) (za.2 ⟨zH.2 (by omega),za2 (by rw[eI]; rfl) ?_⟩)
 cases f with
 | zero=>exact h
 | succ g=>exact h
theorem zwx {y:LE}{r:Rc}(hQ:y.Q (n1 y.r)) (hT:y.T↔¬ (y.zb < 0∨(y.v.n:Int)≤y.zb∨y.ck≠0))
  (hb:(y.zb < 0∨(y.v.n:Int)≤y.zb∨y.ck≠0)→y.e=1∧y.pl=z32∧y.a=0∧y.f=0)
  (hg:¬ (y.zb < 0∨(y.v.n:Int)≤y.zb∨y.ck≠0)→y.pl'=y.pl∧y.a'=y.a∧y.f'=y.f∧y.e=erN y.f∧y.f≤6):t9 y trQ:=by
 have A:(y.zb < 0∨(y.v.n:Int)≤y.zb∨y.ck≠0)→t9a y trQ:=fun h=>by
  obtain⟨h1,h2,h3,h4⟩:=hb h
  unfold t9a
  rw[h1,h2,h3,h4]
  exact zec (eI 1) (zec zBZ (zec zB0 rfl))
 refine⟨rfl,zg.2 ⟨fun q=>A (.inl ?_),fun q=>zg.2 ⟨fun q2=>A (.inr (.inl ?_)),fun q2=>⟨hQ,zg.2 ⟨fun q3=>A (.inr (.inr ?_)),fun q3=>?_⟩⟩⟩⟩⟩
 ·rw[vA] at q; exact of_decide_eq_true q
 ·rw[xR] at q2; exact of_decide_eq_true q2
 ·intro e
  rw[e] at q3
  exact absurd q3 (by decide)
 ·have hn:¬ (y.zb < 0∨(y.v.n:Int)≤y.zb∨y.ck≠0):=by
   rintro (h | h | h)
   ·rw[vA] at q; exact of_decide_eq_false q h
   ·rw[xR] at q2; exact of_decide_eq_false q2 h
   ·exact h (wB.1 (nbf.1 q3:eqI (.ofNat y.ck) (.ofNat 0)=true))
  obtain⟨h1,h2,h3,h4,h5⟩:=hg hn
  refine⟨rfl,hT.2 hn,?_⟩
  unfold t9b
  rw[h1,h2,h3,h4]
  exact zww h5 (zec (zwv _) rfl)
theorem zB2 (x:Vx) (hb:x.nb < 256):qo Tryz.prog 30 (zq [x.k] (vwX x).k):=⟨zy2.1,fun l K h=>zy2.2 l K (by
 obtain⟨rfl,h1⟩:=h
 rw[←zs4] at h1
 exact⟨x,rfl,hb,h1⟩)⟩
theorem zB3 (x:Vx):qo Tryz.prog 40 (zq [(vwX x).k] (dkS (LV x) (vn x) (LV x)).k):=⟨zoK.1,fun l K h=>zoK.2 l K (by
 obtain⟨rfl,h1⟩:=h
 exact⟨vwX x,rfl,zun x,h1⟩)⟩
theorem zB4 {Q:Nd→Prop}{ck:Nat}(h:∀ v,Q v→v.e=ck):KCS Tryz.prog 60 (fun l K=>la1 l fun v=>qj v fun x=>Q x∧K (nI ck)):=⟨zbb.1,fun l K h1=>zbb.2 l K (by
 obtain⟨v,rfl,h1⟩:=j3 h1
 show qj v fun x=>K (nI x.e)
 exact zjY h1 fun x hx=>by rw[h x hx.1]; exact hx.2)⟩
theorem zB5 {x:Vx}{y:LE}{c:LC}(hb:x.nb < 256) (e1:y.x=x) (e2:y.v=vwX x) (e3:y.d=dkS (LV x) (vn x) (LV x)) (k57:KCS Tryz.prog 57 (zq (c.a57 y) c.w)) (k58:KCS Tryz.prog 58 (zq (c.a58 y) (nI c.fe))) (k54:KCS Tryz.prog 54 (fun q K=>q=c.a54 y∧c.P∧K c.u)) (k59:KCS Tryz.prog 59 (zq y.a59 (dtK y.pl y.a y.f y.e))) (k56:KCS Tryz.prog 56 (fun q K=>q=y.a56∧y.T∧K (drK y.pl' y.a' y.f'))) (h60:∀ v,y.Q v→v.e=y.ck):KOk (E9 y c):=ziD (KOk.tabB (zr.tab (l:=[(57,zq (c.a57 y) c.w),(58,zq (c.a58 y) (nI c.fe)),(54,fun q K=>q=c.a54 y∧c.P∧K c.u),(59,zq y.a59 (dtK y.pl y.a y.f y.e)),(60,fun l K=>la1 l fun v=>qj v fun x=>y.Q x∧K (nI y.ck)),(56,fun q K=>q=y.a56∧y.T∧K (drK y.pl' y.a' y.f')),(47,yY [] (.bool true))]) ⟨k57,k58,k54,k59,zB4 h60,k56,zzp,trivial⟩) (l:=[(30,zq [y.x.k] y.v.k),(40,zq [y.v.k] y.d.k)]) ⟨by rw[e1,e2]; exact zB2 x hb,by rw[e2,e3]; exact zB3 x,trivial⟩)
section
variable {x:Vx}{p:Nd}{z zb:Int}{r:Rc}{pl pl':List Nat}{a f e a' f':Nat}
noncomputable def yL (x:Vx) (zb:Int) (r:Rc) (pl:List Nat) (a f e:Nat) (pl':List Nat) (a' f':Nat):LE:=⟨x,vwX x,dkS (LV x) (vn x) (LV x),r,zb,pl,a,f,e,pl',a',f',r.e,fun v=>v.e=r.e,¬ (zb < 0∨(x.n:Int)≤zb∨r.e≠0)⟩
abbrev DX (x:Vx) (zb:Int) (r:Rc) (pl:List Nat) (a f e:Nat) (pl':List Nat) (a' f':Nat):Prop:=DAll x.n (LV x) (vn x) (enV x) (mcV x) zb r pl a f e pl' a' f'
theorem zwy (D:DX x zb r pl a f e pl' a' f') (hl:r.tg.length=32):t9 (yL x zb r pl a f e pl' a' f') trQ:=zwx (y:=yL x zb r pl a f e pl' a' f') (r:=r) (zB1 hl) Iff.rfl D.bad D.good
theorem ok9 (hb:x.nb < 256) (D:DX x zb r pl a f e pl' a' f') {c:LC}(k57:KCS Tryz.prog 57 (zq (c.a57 (yL x zb r pl a f e pl' a' f')) c.w)) (k58:KCS Tryz.prog 58 (zq (c.a58 (yL x zb r pl a f e pl' a' f')) (nI c.fe))) (k54:KCS Tryz.prog 54 (fun q K=>q=c.a54 (yL x zb r pl a f e pl' a' f')∧c.P∧K c.u)):KOk (E9 (yL x zb r pl a f e pl' a' f') c):=zB5 hb rfl rfl rfl k57 k58 k54 D.k59 D.k56 (fun v h=>h)
theorem zmp {l:List KV}{w:KV}:KCS Tryz.prog 54 (fun q K=>q=l∧False∧K w):=⟨Ym.1,fun q K h=>h.2.1.elim⟩
theorem zB6 (x:Vx) (hp:ndOk p):chOk x.n (dkS (LV x) (vn x) (LV x)) p:=⟨jZ x,hp,Ye (ze0 x) (ze0 x),zkU _ _ _,(zaZ (LV x)).1⟩
theorem zwz (x:Vx) (hp:ndOk p) (z:Int):KCS Tryz.prog 57 (zq [nI x.n,(dkS (LV x) (vn x) (LV x)).k,p.k,.int .i64 z] (w57 x.n (dkS (LV x) (vn x) (LV x)) p z)):=⟨zjH.1,fun q K h=>zjH.2 q K (by
 obtain⟨rfl,h1⟩:=h
 exact⟨(x.n,dkS (LV x) (vn x) (LV x),p,z),rfl,zB6 x hp,h1⟩)⟩
theorem zwA {n:Nat}{d:Dk}{e:Nat}(h:chO n p z=e) (he:e≠0):w57 n d p z=zjG qY 0 0 e:=by
 unfold w57
 rw[if_neg (by rw[h]; exact he),h]
theorem zmq (x:Vx) (hp:ndOk p) {e:Nat}(h:chO x.n p z=e) (he:e≠0):KCS Tryz.prog 57 (zq [nI x.n,(dkS (LV x) (vn x) (LV x)).k,p.k,.int .i64 z] (zjG qY 0 0 e)):=by
 have:=zwz x hp z
 rw[zwA h he] at this
 exact this
theorem zfO (x:Vx) (hp:ndOk p) {e:Nat}(h:p.nf.fe x.n=e):KCS Tryz.prog 58 (zq [nI x.n,p.k] (nI e)):=by
 have:=zxi (jZ x) hp
 rw[h] at this
 exact this
theorem zwB {n L l j s:Nat}{d:Dd}{w:List Nat}{P:Prop}{u:KV}(H:plOk n L l j s) (hc:∀ s,d.cn s < 1000) (hu:u=w54 (y54 n d l j s w) (Qi n d l j s w)):KCS Tryz.prog 54 (fun q K=>q=[nI n,dK L d,nI l,nI j,nI s,kBy 32 (nN w)]∧P∧K u):=⟨Ym.1,fun q K h=>Ym.2 q K (by
 obtain⟨rfl,_,h1⟩:=h
 rw[hu] at h1
 exact⟨(n,L,d,l,j,s,w),rfl,⟨H,hc _⟩,h1⟩)⟩
theorem zrS (y:PE) (a b:Bool):yk y a b≤4:=by
 unfold yk
 split
 ·omega
 ·split
  ·omega
  ·split
   ·split<;>omega
   ·omega
end
section
variable {y:LE}{p:Nd}{l s w:Nat}{dg:List Nat}{P:Prop}{K:KV→Prop}
theorem e9z (hw:w < 4):p9 y (c9z p w) K=h9 y (c9z p w) (t9 y K):=(zw e9w w hw).1 y p K
theorem e9y (hw:w < 4):p9 y (c9y p l w dg) K=h9 y (c9y p l w dg) (t9 y K):=(zw e9w w hw).2.1 y p l dg K
theorem e9f {a g:Nat}(hw:w < 4):p9 y (c9m p l w s dg P qY a (Nat.succ g) 9) K=m9 y (c9m p l w s dg P qY a (Nat.succ g) 9) p l w s (alt (!(eqI (.ofNat a) (.ofNat a))) (K kF) (cnd (b63 (Nat.succ g)) (alt (!(eqI (.ofNat (Nat.succ g)) (.ofNat (Nat.succ g)))) (K kF) (t9 y K)))):=(zw e9w w hw).2.2.1 y p l s dg P a g K
theorem e9m {X:Nd}(hw:w < 4):p9 y (c9m p l w s dg P X 0 0 0) K=m9 y (c9m p l w s dg P X 0 0 0) p l w s (alt (!(kqB X.k X.k)) (K kF) (t9 y K)):=(zw e9w w hw).2.2.2 y p l s dg P X K
theorem zoU {c:LC}{q:Prop}(hl:l < 256) (hi:p.ix < 4294967296) (hw:w < 4) (hs:s≤1) (hP:c.P) (h:q):m9 y c p l w s q:=⟨rfl,rfl,rfl,rfl,za.2 ⟨zH.2 (by omega),za.2 ⟨zH.2 (by omega),za.2 ⟨zH.2 (by omega),za.2 ⟨zH.2 (by show 4 * p.ix < _; omega),za.2 ⟨zH.2 (by show 4 * p.ix + w < _; omega),za.2 ⟨zH.2 (by omega),za.2 ⟨zH.2 (by omega),rfl,hP,h⟩⟩⟩⟩⟩⟩⟩⟩
end
section
variable {x:Vx}{p:Nd}{z zb:Int}{r:Rc}{pl pl':List Nat}{a f e a' f':Nat}
theorem zB7 (hb:x.nb < 256) (hp:ndOk p) (D:DX x zb r pl a f e pl' a' f') (hl:r.tg.length=32):∃ c:LC,c.p=p∧c.z=z∧KOk (E9 (yL x zb r pl a f e pl' a' f') c)∧p9 (yL x zb r pl a f e pl' a' f') c trQ:=by
 have tl:=zwy D hl
 have hL:LV x=scT x.n:=rfl
 by_cases hf:p.nf.fe x.n=0
 ·by_cases hz:z < 0∨3 < z
  ·have hc:chO x.n p z=1:=if_pos (.inr hz)
   have hE:KOk (E9 (yL x zb r pl a f e pl' a' f') (c9e p z 0 1)):=ok9 hb D (zmq x hp hc (by decide)) (zfO x hp hf) zmp
   refine⟨c9e p z 0 1,rfl,rfl,hE,?_⟩
   cases z with
   | negSucc k=>exact Eq.mpr (e9n _ p k trQ) ⟨rfl,rfl,rfl,rfl,tl⟩
   | ofNat m =>
    have hm:3 < m:=by
     rcases hz with h | h
     ·exact absurd h (by simp)
     ·exact Int.ofNat_lt.1 h
    obtain⟨k,rfl⟩:∃ k,m=Nat.succ (Nat.succ (Nat.succ (Nat.succ k))):=⟨m - 4,by omega⟩
    exact Eq.mpr (e9g _ p k trQ) ⟨rfl,rfl,rfl,rfl,tl⟩
  ·obtain⟨w,rfl⟩:∃ w:Nat,z=Int.ofNat w:=⟨z.toNat,by
    have:0≤z:=by omega
    exact (Int.toNat_of_nonneg this).symm⟩
   have hw:w < 4:=by
    have:¬ (3:Int) < Int.ofNat w:=fun q=>hz (.inr q)
    have:¬ 3 < w:=fun q=>this (Int.ofNat_lt.2 q)
    omega
   have h0:¬ (p.nf.fe x.n≠0∨(Int.ofNat w) < 0∨3 < (Int.ofNat w)):=by
    rintro (h | h)
    ·exact h hf
    ·exact hz h
   by_cases hlv:p.lv=0
   ·have hc:chO x.n p (.ofNat w)=11:=(if_neg h0).trans (if_pos (.inl hlv))
    have hy:(⟨0,p.ix,p.rc,p.en⟩:Nd)=p:=by
     obtain⟨lv,ix,rc,en⟩:=p
     have hl:lv=0:=hlv
     subst hl
     rfl
    have key:p9 (yL x zb r pl a f e pl' a' f') (c9z p w) trQ:=Eq.mpr (e9z hw) ⟨rfl,rfl,rfl,rfl,tl⟩
    unfold c9z at key
    rw[hy] at key
    exact⟨c9e p (.ofNat w) 0 11,rfl,rfl,ok9 hb D (zmq x hp hc (by decide)) (zfO x hp hf) zmp,key⟩
   ·obtain⟨l,hl'⟩:∃ l,p.lv=Nat.succ l:=⟨p.lv - 1,by omega⟩
    have e1:p.lv - 1=l:=by omega
    by_cases hs:(p.en w).st=0
    ·have hc:chO x.n p (.ofNat w)=11:=(if_neg h0).trans (if_pos (.inr hs))
     have he:p.en w=⟨0,(p.en w).dg⟩:=by rw[←hs]
     have key:p9 (yL x zb r pl a f e pl' a' f') (c9y p l w (p.en w).dg) trQ:=Eq.mpr (e9y hw) ⟨rfl,rfl,rfl,rfl,tl⟩
     unfold c9y at key
     rw[Z3 hl' he] at key
     exact⟨c9e p (.ofNat w) 0 11,rfl,rfl,ok9 hb D (zmq x hp hc (by decide)) (zfO x hp hf) zmp,key⟩
    ·obtain⟨s,hs'⟩:∃ s,(p.en w).st=s + 1:=⟨(p.en w).st - 1,by omega⟩
     have hc:chO x.n p (.ofNat w)=0:=(if_neg h0).trans (if_neg (by rintro (h | h); exact hlv h; exact hs h))
     have hpl:=zpJ (jZ x) hp hl' hf hw hs
     have e2:(p.en w).st - 1=s:=by omega
     rw[e2] at hpl
     have hs1:s≤1:=hpl.s1
     have he:p.en w=⟨s + 1,(p.en w).dg⟩:=by rw[←hs']
     have hwk:w57 x.n (dkS (LV x) (vn x) (LV x)) p (.ofNat w)=Qm (jf x.n (dkS (LV x) (vn x) (LV x)) l (4 * p.ix + w) s (p.en w).dg) (jx x.n (dkS (LV x) (vn x) (LV x)) l (4 * p.ix + w) s (p.en w).dg):=by
      rw[zpx hc]
      show Qm (yCh x.n _ p w) (zbk x.n _ p w)=_
      unfold yCh zbk
      rw[e1,e2]
     obtain⟨f1,f2⟩:=zAK (w:=(p.en w).dg) (d:=vn x) (L:=LV x) hpl (fun s _ _=>Ze x s)
     have b1:p.lv < 256:=hp.wb.1
     have b2:p.ix < 4294967296:=hp.wb.2.1
     have k57:=zwz x hp (.ofNat w)
     rw[hwk] at k57
     have hcn:∀ s,(vn x).cn s < 1000:=fun s=>by have:=YF x s; omega
     have hle:jx x.n (dkS (LV x) (vn x) (LV x)) l (4 * p.ix + w) s (p.en w).dg≤4:=zrS _ _ _
     have hu:w54 (y54 x.n (vn x) l (4 * p.ix + w) s (p.en w).dg) (Qi x.n (vn x) l (4 * p.ix + w) s (p.en w).dg)=.tup (.cons (yJ (jf x.n (dkS (LV x) (vn x) (LV x)) l (4 * p.ix + w) s (p.en w).dg) (jx x.n (dkS (LV x) (vn x) (LV x)) l (4 * p.ix + w) s (p.en w).dg)).k (.cons (prK (zf0 (jf x.n (dkS (LV x) (vn x) (LV x)) l (4 * p.ix + w) s (p.en w).dg) (jx x.n (dkS (LV x) (vn x) (LV x)) l (4 * p.ix + w) s (p.en w).dg)) (jx x.n (dkS (LV x) (vn x) (LV x)) l (4 * p.ix + w) s (p.en w).dg)) .nl)):=by
      rw[f2,f1]
      rfl
     revert k57 hle hu
     generalize jx x.n (dkS (LV x) (vn x) (LV x)) l (4 * p.ix + w) s (p.en w).dg=k
     intro k57 hle hu
     cases k with
     | zero =>
      have key:p9 (yL x zb r pl a f e pl' a' f') (c9m p l w s (p.en w).dg True (yJ (jf x.n (dkS (LV x) (vn x) (LV x)) l (4 * p.ix + w) s (p.en w).dg) 0) 0 0 0) trQ:=Eq.mpr (e9m hw) (zoU (by omega) b2 hw hs1 trivial (za2 (by rw[zwu]; rfl) tl))
      unfold c9m at key
      rw[Z3 hl' he] at key
      refine⟨_,?_,?_,?_,key⟩
      ·rfl
      ·rfl
      ·exact ok9 hb D k57 (zfO x hp hf) (zwB hpl hcn hu.symm)
     | succ g =>
      have key:p9 (yL x zb r pl a f e pl' a' f') (c9m p l w s (p.en w).dg True qY (zt x.n l (4 * p.ix + w) s) (Nat.succ g) 9) trQ:=Eq.mpr (e9f hw) (zoU (by omega) b2 hw hs1 trivial (za2 (by rw[eI]; rfl) (za.2 ⟨zH.2 (by omega),za2 (by rw[eI]; rfl) tl⟩)))
      unfold c9m at key
      rw[Z3 hl' he] at key
      refine⟨_,?_,?_,?_,key⟩
      ·rfl
      ·rfl
      ·exact ok9 hb D k57 (zfO x hp hf) (zwB hpl hcn hu.symm)
 ·obtain⟨fe,hfe⟩:∃ fe,p.nf.fe x.n=Nat.succ fe:=⟨p.nf.fe x.n - 1,by omega⟩
  have hc:chO x.n p z=1:=if_pos (.inl hf)
  exact⟨c9e p z (Nat.succ fe) 1,rfl,rfl,ok9 hb D (zmq x hp hc (by decide)) (zfO x hp hfe) zmp,Eq.mpr (e9a _ p z fe trQ) ⟨rfl,rfl,rfl,rfl,tl⟩⟩
end
structure L9 where
 x:Vx
 p:Nd
 z:Int
 zb:Int
 r:Rc
noncomputable def a9 (t:L9):List KV:=[t.x.k,t.p.k,zzK t.z t.zb t.r]
structure pre9 (t:L9):Prop where
 nb:t.x.nb < 256
 p:ndOk t.p
 rw:t.r.wb
 rl:t.r.tg.length=32
noncomputable def sL9:zh:=xM a9 pre9 fun _=>.bool true
theorem kL9:KCS Tryz.prog 9 sL9:=xm ⟨Tryz.f9,Tryz.func9,by kernel_rfl,by kernel_rfl⟩ fun l K hs=>by
 obtain⟨⟨x,p,z,zb,r⟩,rfl,H,hk⟩:=hs
 have hk:K (.bool true):=hk
 obtain⟨pl,a,f,e,pl',a',f',D⟩:=zmC (zb:=zb) (jZ x) (zbh x).1 (ze0 x) rfl (d:=vn x) (fun s _ _=>Ze x s) (fun s=>by have:=YF x s; omega) (zy8 x) (mc:=mcV x) H.rw H.rl
 obtain⟨c,hp,hz,hE,hr⟩:=zB7 (z:=z) H.nb H.p D H.rl
 have hp:c.p=p:=hp
 subst hp
 subst hz
 exact⟨_,hE,rfl,80,trQ,.bool true,hk,rfl,fun r hr=>by rw[show r=.bool true from hr]; exact Imp.refl _,hr⟩
end
end Go.K
namespace Go.K
open Go.Ab Go.RowKit Go.Y
noncomputable section
inductive Ty where
 | int (k:IntKind)
 | bool
 | nl
 | cons (a b:Ty)
 | ar (n:Nat) (e:Ty)
 | sl (e:Ty)
def Ty.sh:Ty→Shape
 | .int _=>.sc
 | .bool=>.sc
 | .nl=>.nl
 | .cons a b=>.cons a.sh b.sh
 | .ar n e=>.arr n e.sh
 | .sl _=>.sc
def Ty.ok (P:Program):Ty→(TypeId→Bool)×(List Field→Nat→Bool)
 | .int k=>(fun t=>match P.underlying t with
  | some (.int k')=>decide (k'=k)
  | _=>false,fun _ _=>false)
 | .bool=>(fun t=>match P.underlying t with
  | some .bool=>true
  | _=>false,fun _ _=>false)
 | .nl=>(fun t=>false,fun fs _=>fs.isEmpty)
 | .cons a b=>(fun t=>match P.underlying t with
  | some (.struct fs)=>(match fs.toList with
   | f::r=>decide (f.offset=0)&&(a.ok P).1 f.type&&decide (P.cellsOf f.type=a.sh.size)&&(b.ok P).2 r a.sh.size
   | []=>false)&&decide (P.cellsOf t=a.sh.size + b.sh.size)
  | _=>false,fun fs o=>match fs with
   | f::r=>decide (f.offset=o)&&(a.ok P).1 f.type&&decide (P.cellsOf f.type=a.sh.size)&&(b.ok P).2 r (o + a.sh.size)
   | []=>false)
 | .ar n e=>(fun t=>match P.underlying t with
  | some (.array m t')=>decide (m=n)&&(e.ok P).1 t'&&decide (P.cellsOf t'=e.sh.size)&&decide (P.cellsOf t=n * e.sh.size)
  | _=>false,fun _ _=>false)
 | .sl e=>(fun t=>match P.underlying t with
  | some (.slice t')=>(e.ok P).1 t'&&decide (P.cellsOf t'=e.sh.size)&&decide (0 < e.sh.size)
  | _=>false,fun _ _=>false)
def Ty.is:Ty→KV→Prop
 | .int k,v=>∃ z,v=.int k z∧(Lit.int k z).wf=true
 | .bool,v=>∃ b,v=.bool b
 | .nl,v=>v=.nl
 | .cons a b,v=>∃ x y,v=.cons x y∧a.is x∧b.is y
 | .ar n e,v=>∃ f,v=.fa n f∧∀ i,i < n→e.is (f i)
 | .sl e,v=>∃ len f,v=.ro true false e.sh 0 len (.fa len f)∧∀ i,i < len→e.is (f i)
section
variable {H:Type}{enc:TypeId×Value→H}{P:Program}{W:World}{base:Nat}{sp:Nat→Bool}{held:Bool}
def zge (W:World) (C:Ctx):Prop:=C.w=W∧∀ b,b < W.heap.size→C.ok true b
def OpT (W:World) (T:Ty) (cs:List Value) (o:Nat):Prop :=
 ∃ v,T.is v∧∀ C g off,zge W C→(∀ i,i < T.sh.size→g (off + o + i)=cs[o + i]?)→RR v.v C (.cel T.sh g (off + o))
theorem zuK {C:Ctx}(h:zge W C):zge W C.pur:=h
theorem zgf {k:IntKind}{t:TypeId}(h:((Ty.int k).ok P).1 t=true):P.underlying t=some (.int k):=by
 simp only[Ty.ok] at h
 split at h
 ·rename_i k' e; simp at h; rw[e,h]
 ·cases h
theorem zc7 {t:TypeId}(h:(Ty.bool.ok P).1 t=true):P.underlying t=some .bool:=by
 simp only[Ty.ok] at h
 split at h
 ·assumption
 ·cases h
theorem zkD {n:Nat}{e:Ty}{t:TypeId}(h:((Ty.ar n e).ok P).1 t=true):∃ t',P.underlying t=some (.array n t')∧(e.ok P).1 t'=true∧P.cellsOf t'=e.sh.size∧P.cellsOf t=n * e.sh.size:=by
 simp only[Ty.ok] at h
 split at h
 ·rename_i m t' e1
  simp only[Bool.and_eq_true,decide_eq_true_eq] at h
  obtain⟨⟨⟨rfl,h2⟩,h3⟩,h4⟩:=h
  exact⟨t',e1,h2,h3,h4⟩
 ·cases h
theorem zkE {e:Ty}{t:TypeId}(h:((Ty.sl e).ok P).1 t=true):∃ t',P.underlying t=some (.slice t')∧(e.ok P).1 t'=true∧P.cellsOf t'=e.sh.size∧0 < e.sh.size:=by
 simp only[Ty.ok] at h
 split at h
 ·rename_i t' e1
  simp only[Bool.and_eq_true,decide_eq_true_eq] at h
  exact⟨t',e1,h.1.1,h.1.2,h.2⟩
 ·cases h
theorem zkF {a b:Ty}{t:TypeId}(h:((Ty.cons a b).ok P).1 t=true):∃ fs f r,P.underlying t=some (.struct fs)∧fs.toList=f::r∧f.offset=0∧(a.ok P).1 f.type=true∧P.cellsOf f.type=a.sh.size∧(b.ok P).2 r a.sh.size=true∧P.cellsOf t=a.sh.size + b.sh.size:=by
 simp only[Ty.ok] at h
 split at h
 ·rename_i fs e1
  simp only[Bool.and_eq_true,decide_eq_true_eq] at h
  obtain⟨h1,h2⟩:=h
  split at h1
  ·rename_i f r e2
   simp only[Bool.and_eq_true,decide_eq_true_eq] at h1
   obtain⟨⟨⟨q1,q2⟩,q3⟩,q4⟩:=h1
   exact⟨fs,f,r,e1,e2,q1,q2,q3,q4,h2⟩
  ·cases h1
 ·cases h
theorem zkG {a b:Ty}{fs:List Field}{o:Nat}(h:((Ty.cons a b).ok P).2 fs o=true):∃ f r,fs=f::r∧f.offset=o∧(a.ok P).1 f.type=true∧P.cellsOf f.type=a.sh.size∧(b.ok P).2 r (o + a.sh.size)=true:=by
 simp only[Ty.ok] at h
 split at h
 ·rename_i f r
  simp only[Bool.and_eq_true,decide_eq_true_eq] at h
  obtain⟨⟨⟨q1,q2⟩,q3⟩,q4⟩:=h
  exact⟨f,r,rfl,q1,q2,q3,q4⟩
 ·cases h
theorem zkH {cs:List Value}{o n i:Nat}(hi:i < n):((cs.drop o).take n)[i]?=cs[o + i]?:=by
 rw[List.getElem?_take,if_pos hi,List.getElem?_drop]
theorem zkI {T:Ty}{cs:List Value}{o:Nat}(h:OpT W T ((cs.drop o).take T.sh.size) 0):OpT W T cs o:=by
 obtain⟨v,h1,h2⟩:=h
 refine⟨v,h1,fun C g off hc hg=>?_⟩
 have:=h2 C g (off + o) hc (fun i hi=>by
  rw[Nat.add_zero,hg i hi,Nat.zero_add,zkH hi])
 rwa [Nat.add_zero] at this
theorem chD {n:Nat}{Q:Nat→KV→Prop}(h:∀ i,i < n→∃ v,Q i v):∃ f:Nat→KV,∀ i,i < n→Q i (f i) :=
 ⟨fun i=>if hi:i < n then Classical.choose (h i hi) else .unk,fun i hi=>by simp only[dif_pos hi]; exact Classical.choose_spec (h i hi)⟩
theorem opT (T:Ty) :
  (∀ t cs fuel x,(T.ok P).1 t=true→DataW.trod enc P W base sp held fuel t cs=some x→OpT W T cs 0) ∧
  (∀ fs o cs fuel (ys:List (DataW H×List MemPlace)),(T.ok P).2 fs o=true→ys.length=fs.length→(∀(i:Nat) (f:Field),fs[i]?=some f→DataW.trod enc P W base sp held fuel f.type ((cs.drop f.offset).take (P.cellsOf f.type))=ys[i]?)→OpT W T cs o):=by
 induction T with
 | int k =>
  refine⟨fun t cs fuel x h1 h2=>?_,fun fs o cs fuel ys h1=>by cases h1⟩
  obtain⟨n,rfl,_,hw⟩:=DataW.trod_int (zgf h1) h2
  refine⟨.int k n,⟨n,rfl,hw⟩,fun C g off hc hg=>?_⟩
  exact⟨rfl,by have:=hg 0 Nat.zero_lt_one; simpa using this⟩
 | bool =>
  refine⟨fun t cs fuel x h1 h2=>?_,fun fs o cs fuel ys h1=>by cases h1⟩
  obtain⟨n,rfl,_⟩:=DataW.trod_bool (zc7 h1) h2
  refine⟨.bool n,⟨n,rfl⟩,fun C g off hc hg=>?_⟩
  exact⟨rfl,by have:=hg 0 Nat.zero_lt_one; simpa using this⟩
 | nl =>
  refine⟨fun t cs fuel x h1=>(by cases h1),fun fs o cs fuel ys h1 h2 h3=>?_⟩
  exact⟨.nl,rfl,fun C g off hc hg=>rfl⟩
 | cons a b iha ihb =>
  have fl:∀(f:Field) (r:List Field) (o:Nat) cs fuel (ys:List (DataW H×List MemPlace)),f.offset=o→(a.ok P).1 f.type=true→P.cellsOf f.type=a.sh.size→(b.ok P).2 r (o + a.sh.size)=true→ys.length=(f::r).length→(∀(i:Nat) (f':Field),(f::r)[i]?=some f'→DataW.trod enc P W base sp held fuel f'.type ((cs.drop f'.offset).take (P.cellsOf f'.type))=ys[i]?)→OpT W (.cons a b) cs o:=by
   intro f r o cs fuel ys q1 q2 q3 q4 hl hy
   match ys,hl with
   | y::ys,hl =>
    have e0:=hy 0 f rfl
    rw[q1,q3] at e0
    obtain⟨v,v1,v2⟩:=zkI (iha.1 _ _ _ _ q2 e0)
    obtain⟨u,u1,u2⟩:=ihb.2 r (o + a.sh.size) cs fuel ys q4 (by simpa using hl) (fun i f' hf=>by simpa using hy (i + 1) f' (by simpa using hf))
    refine⟨.cons v u,⟨v,u,rfl,v1,u1⟩,fun C g off hc hg=>?_⟩
    refine⟨a.sh,b.sh,rfl,v2 C g off hc fun i hi=>hg i (by show i < a.sh.size + b.sh.size; omega),?_⟩
    have:=u2 C g off hc fun i hi=>by
     have:=hg (a.sh.size + i) (by show _ < a.sh.size + b.sh.size; omega)
     rw[←Nat.add_assoc,←Nat.add_assoc] at this
     rw[←Nat.add_assoc]; exact this
    rw[←Nat.add_assoc] at this
    exact this
  refine⟨fun t cs fuel x h1 h2=>?_,fun fs o cs fuel ys h1 h2 h3=>?_⟩
  ·obtain⟨fs,f,r,e1,e2,q1,q2,q3,q4,q5⟩:=zkF h1
   obtain⟨xs,n,rfl,_,hl,hn,hf⟩:=DataW.trod_struct e1 h2
   exact fl f r 0 cs n xs q1 q2 q3 (by rw[Nat.zero_add]; exact q4) (by rw[←e2,hn]; simp) (fun i f' hf'=>hf i f' (by rw[←e2] at hf'; simpa using hf'))
  ·obtain⟨f,r,rfl,q1,q2,q3,q4⟩:=zkG h1
   exact fl f r o cs fuel ys q1 q2 q3 q4 h2 h3
 | ar n e ihe =>
  refine⟨fun t cs fuel x h1 h2=>?_,fun fs o cs fuel ys h1=>by cases h1⟩
  obtain⟨t',e1,q1,q2,q3⟩:=zkD h1
  obtain⟨xs,m,rfl,_,hl,hn,hf⟩:=DataW.trod_array e1 h2
  have key:∀ i,i < n→OpT W e cs (i * e.sh.size):=fun i hi=>by
   have h3:=hf i hi
   rw[q2] at h3
   rw[List.getElem?_eq_getElem (by omega)] at h3
   exact zkI (ihe.1 _ _ _ _ q1 h3)
  refine⟨.fa n fun i=>if hi:i < n then Classical.choose (key i hi) else .unk,⟨_,rfl,fun i hi=>by
   simp only[dif_pos hi]; exact (Classical.choose_spec (key i hi)).1⟩,fun C g off hc hg=>?_⟩
  refine⟨e.sh,rfl,fun i hi=>?_⟩
  simp only[dif_pos hi]
  have:=(Classical.choose_spec (key i hi)).2 C g off hc fun j hj=>by
   have h4:i * e.sh.size + j < n * e.sh.size:=by
    calc i * e.sh.size + j < i * e.sh.size + e.sh.size:=by omega
     _=(i + 1) * e.sh.size:=by rw[Nat.add_mul,Nat.one_mul]
     _≤n * e.sh.size:=Nat.mul_le_mul_right _ hi
   have:=hg (i * e.sh.size + j) h4
   simp only[Nat.add_zero,Nat.zero_add] at this
   rw[←Nat.add_assoc] at this; exact this
  rw[Nat.add_zero]; exact this
 | sl e ihe =>
  refine⟨fun t cs fuel x h1 h2=>?_,fun fs o cs fuel ys h1=>by cases h1⟩
  obtain⟨t',e1,q1,q2,q3⟩:=zkE h1
  rcases Go.Deep.open_slice e1 h2 with ⟨rfl,_⟩ | ⟨a,len,cap,m,n,D,Pl,rfl,_,hl,_,hm,_,hi⟩
  ·refine⟨.ro true false e.sh 0 0 (.fa 0 fun _=>.unk),⟨0,_,rfl,fun i hi=>absurd hi (Nat.not_lt_zero i)⟩,fun C g off hc hg=>?_⟩
   exact⟨none,0,⟨rfl,by have:=hg 0 Nat.zero_lt_one; simpa using this⟩,Nat.le_refl 0,(fun h=>nomatch h),.inl rfl⟩
  ·have hm':len≤m:=by rw[hm]; split<;>omega
   have key:∀ i,i < len→∃ v:KV,∃ cs',W.cells? base (a.add (i * e.sh.size)) e.sh.size=some cs'∧e.is v∧∀ C g off,zge W C→(∀ i,i < e.sh.size→g (off + 0 + i)=cs'[0 + i]?)→RR v.v C (.cel e.sh g (off + 0)):=fun i hi'=>by
    obtain⟨cs',c1,c2⟩:=hi i (by omega)
    rw[q2] at c1
    obtain⟨v,v1,v2⟩:=ihe.1 _ _ _ _ q1 c2
    exact⟨v,cs',c1,v1,v2⟩
   obtain⟨f,hf⟩:=chD key
   refine⟨.ro true false e.sh 0 len (.fa len f),⟨len,f,rfl,fun i hi'=>by obtain⟨_,_,h3,_⟩:=hf i hi'; exact h3⟩,fun C g off hc hg=>?_⟩
   refine⟨some a,cap,⟨rfl,by have:=hg 0 Nat.zero_lt_one; simpa using this⟩,hl,(fun h=>nomatch h),?_⟩
   rcases Nat.eq_zero_or_pos len with hz | hpos
   ·exact .inl hz
   ·obtain⟨cs0,c0,_,_⟩:=hf 0 hpos
    obtain⟨_,hcl,hat⟩:=World.cells?_some c0
    have hc0:=hat 0 q3
    obtain⟨b,o,spot⟩:=a
    have hget:∃ x,W.cell? ⟨b,o,spot⟩=some x:=⟨cs0[0]'(by omega),by
     rw[List.getElem?_eq_getElem (by omega)] at hc0
     simpa [Addr.add] using hc0⟩
    obtain⟨x0,hx0⟩:=hget
    have hsp:spot=none:=by simpa using World.cell?_spot hx0
    subst hsp
    refine .inr ⟨b,o,rfl,hc.2 b (World.block_lt_of_cell? _ _ hx0),fun i hi'=>?_⟩
    obtain⟨cs',c1,_,c2⟩:=hf i hi'
    have hv:=c2 C.pur (cg W b) (o + i * e.sh.size) (zuK hc) fun j hj=>by
     obtain⟨_,hcl2,hat2⟩:=World.cells?_some c1
     have h5:=hat2 j hj
     rw[Addr.add_lit,Addr.add_lit] at h5
     rw[Nat.add_zero,Nat.zero_add]
     exact h5
    rw[Nat.add_zero] at hv
    show RR (f (0 + i)).v C.pur (.cel e.sh (cg C.w b) (o + i * e.sh.size))
    rw[hc.1,Nat.zero_add]
    exact hv
end
end
end Go.K
set_option maxRecDepth 100000
namespace Go.K
open Go.Ab Go.RowKit Go.Y Go.Proofs
noncomputable section
attribute [local instance 10000] gO
def j1:Ty:=.int .u8
def tyI:Ty:=.int .i64
def zkv:Ty:=.ar 2 j1
def zc3:Ty:=.cons j1 (.cons (.cons (.int .u32) (.cons (.int .u64) .nl)) (.cons (.ar 32 j1) .nl))
def znL:Ty:=.cons j1 (.cons (.ar 32 j1) .nl)
def zAs:Ty:=.cons j1 (.cons (.int .u32) (.cons (.ar 4 zc3) (.cons (.ar 4 znL) .nl)))
theorem Z7 {v:KV}(h:j1.is v):∃ a,v=kU8 a∧a < 256:=by
 obtain⟨z,rfl,hw⟩:=h
 have:=bounds_u8 hw
 obtain⟨n,rfl⟩:∃ n:Nat,z=.ofNat n:=⟨z.toNat,by show z=((z.toNat:Nat):Int); omega⟩
 refine⟨n,rfl,?_⟩
 have h2:((n:Nat):Int)≤255:=this.2
 omega
theorem zkw {v:KV}(h:(Ty.int .u32).is v):∃ a,v=je a∧a < 4294967296:=by
 obtain⟨z,rfl,hw⟩:=h
 have:=bounds_u32 hw
 obtain⟨n,rfl⟩:∃ n:Nat,z=.ofNat n:=⟨z.toNat,by show z=((z.toNat:Nat):Int); omega⟩
 refine⟨n,rfl,?_⟩
 have h2:((n:Nat):Int)≤4294967295:=this.2
 omega
theorem zuE {v:KV}(h:(Ty.int .u64).is v):∃ a,v=XZ a∧a < 18446744073709551616:=by
 obtain⟨z,rfl,hw⟩:=h
 have:=bounds_u64 hw
 obtain⟨n,rfl⟩:∃ n:Nat,z=.ofNat n:=⟨z.toNat,by show z=((z.toNat:Nat):Int); omega⟩
 refine⟨n,rfl,?_⟩
 have h2:((n:Nat):Int)≤18446744073709551615:=this.2
 omega
theorem chA {α:Type} [Inhabited α] {n:Nat}{Q:Nat→α→Prop}(h:∀ i,i < n→∃ v,Q i v):∃ f:Nat→α,∀ i,i < n→Q i (f i):=by
 classical
 exact⟨fun i=>if hi:i < n then Classical.choose (h i hi) else default,fun i hi=>by simp only[dif_pos hi]; exact Classical.choose_spec (h i hi)⟩
theorem YH {n:Nat}{d:KV}{f g:Nat→KV}(h:∀ i,i < n→Imp (f i).v (g i).v):Imp (KV.fa n f).v (kAr n d g).v:=Imp.arr fun i hi=>by
 refine Eq.mpr (congrArg (fun a=>Imp (f i).v a) (qU (f:=g) (z:=d.v) hi)) (h i hi)
theorem zuF {n:Nat}{f g:Nat→KV}(h:∀ i,i < n→Imp (f i).v (g i).v):Imp (KV.fa n f).v (KV.fa n g).v:=Imp.arr h
theorem znM {u c:Bool}{e:Shape}{n:Nat}{f g:Nat→V}(h:∀ i,i < n→Imp (f i) (g i)):Imp (.ro u c e n f) (.ro u c e n g):=by
 intro C m hr
 obtain⟨a,k,h1,h2,h3,h4⟩:=hr
 exact⟨a,k,h1,h2,h3,h4.imp (fun h=>h) fun⟨b,o,q1,q2,q3⟩=>⟨b,o,q1,q2,fun i hi=>h i hi _ _ (q3 i hi)⟩⟩
theorem zkx {s:Shape}{n:Nat}{f g:Nat→KV}(h:∀ i,i < n→Imp (f i).v (g i).v):Imp (KV.ro true false s 0 n (.fa n f)).v (roK s n g).v:=znM fun i hi=>by
 show Imp (f (0 + i)).v (g (0 + i)).v
 rw[Nat.zero_add]; exact h i hi
theorem zpY {n:Nat}{v:KV}(h:(Ty.ar n j1).is v):∃ l:List Nat,l.length=n∧(∀ b∈l,b < 256)∧Imp v.v (kBy n (nN l)).v:=by
 obtain⟨f,rfl,hf⟩:=h
 obtain⟨g,hg⟩:=chA (Q:=fun i a=>f i=kU8 a∧a < 256) fun i hi=>Z7 (hf i hi)
 refine⟨lsF n g,vE _,xy fun i hi=>(hg i hi).2,YH fun i hi=>?_⟩
 rw[(hg i hi).1,vR hi]; exact Imp.refl _
instance:Inhabited Rc:=⟨⟨0,0,0,[]⟩⟩
instance:Inhabited En:=⟨⟨0,[]⟩⟩
instance:Inhabited Nd:=⟨⟨0,0,fun _=>default,fun _=>default⟩⟩
instance:Inhabited Un:=⟨⟨default,0,false,fun _=>false⟩⟩
theorem zpZ {v:KV}(h:zc3.is v):∃ x:Rc,x.tg.length=32∧x.wb∧Imp v.v x.k.v:=by
 obtain⟨a,r,rfl,ha,b,q,rfl,⟨s,t,rfl,hs,w,y,rfl,hw,rfl⟩,c,z,rfl,hc,rfl⟩:=h
 obtain⟨a,rfl,la⟩:=Z7 ha
 obtain⟨s,rfl,ls⟩:=zkw hs
 obtain⟨w,rfl,lw⟩:=zuE hw
 obtain⟨l,h1,h2,h3⟩:=zpY hc
 exact⟨⟨a,s,w,l⟩,h1,⟨la,ls,lw,h2⟩,Imp.cons (Imp.refl _) (Imp.cons (Imp.refl _) (Imp.cons h3 (Imp.refl _)))⟩
theorem zAt {v:KV}(h:znL.is v):∃ x:En,x.dg.length=32∧x.wb∧Imp v.v x.k.v:=by
 obtain⟨a,r,rfl,ha,c,z,rfl,hc,rfl⟩:=h
 obtain⟨a,rfl,la⟩:=Z7 ha
 obtain⟨l,h1,h2,h3⟩:=zpY hc
 exact⟨⟨a,l⟩,h1,⟨la,h2⟩,Imp.cons (Imp.refl _) (Imp.cons h3 (Imp.refl _))⟩
theorem zAu {v:KV}(h:zAs.is v):∃ x:Nd,x.wl∧x.wb∧Imp v.v x.k.v:=by
 obtain⟨a,r,rfl,ha,b,q,rfl,hb,c,z,rfl,⟨f,rfl,hf⟩,d,w,rfl,⟨g,rfl,hg⟩,rfl⟩:=h
 obtain⟨a,rfl,la⟩:=Z7 ha
 obtain⟨b,rfl,lb⟩:=zkw hb
 obtain⟨rc,hr⟩:=chA (Q:=fun i (x:Rc)=>x.tg.length=32∧x.wb∧Imp (f i).v x.k.v) fun i hi=>zpZ (hf i hi)
 obtain⟨en,he⟩:=chA (Q:=fun i (x:En)=>x.dg.length=32∧x.wb∧Imp (g i).v x.k.v) fun i hi=>zAt (hg i hi)
 exact⟨⟨a,b,rc,en⟩,⟨fun i hi=>(hr i hi).1,fun i hi=>(he i hi).1⟩,⟨la,lb,fun i hi=>(hr i hi).2.1,fun i hi=>(he i hi).2.1⟩,
  Imp.cons (Imp.refl _) (Imp.cons (Imp.refl _) (Imp.cons (YH fun i hi=>(hr i hi).2.2) (Imp.cons (YH fun i hi=>(he i hi).2.2) (Imp.refl _))))⟩
theorem zAv {v:KV}(h:zkv.is v):∃ f:Nat→Nat,(∀ j,f j < 256)∧Imp v.v (KV.fa 2 fun j=>kU8 (f j)).v:=by
 obtain⟨f,rfl,hf⟩:=h
 obtain⟨g,hg⟩:=chA (Q:=fun i a=>f i=kU8 a∧a < 256) fun i hi=>Z7 (hf i hi)
 refine⟨fun j=>if j < 2 then g j else 0,fun j=>?_,zuF fun j hj=>?_⟩
 ·show (if j < 2 then g j else 0) < 256
  split
  ·rename_i h; exact (hg j h).2
  ·omega
 ·rw[(hg j hj).1]
  show Imp (kU8 (g j)).v (kU8 (if j < 2 then g j else 0)).v
  rw[if_pos hj]; exact Imp.refl _
theorem zuG {v:KV}(h:(Ty.sl zkv).is v):∃(n:Nat) (f:Nat→Nat→Nat),(∀ i j,f i j < 256)∧Imp v.v (roK (.arr 2 .sc) n fun i=>.fa 2 fun j=>kU8 (f i j)).v:=by
 obtain⟨n,f,rfl,hf⟩:=h
 obtain⟨g,hg⟩:=chA (Q:=fun i (a:Nat→Nat)=>(∀ j,a j < 256)∧Imp (f i).v (KV.fa 2 fun j=>kU8 (a j)).v) fun i hi=>zAv (hf i hi)
 refine⟨n,fun i=>if i < n then g i else fun _=>0,fun i j=>?_,zkx fun i hi=>?_⟩
 ·show (if i < n then g i else fun _=>0) j < 256
  split
  ·rename_i h; exact (hg i h).1 j
  ·exact Nat.zero_lt_succ _
 ·show Imp (f i).v (KV.fa 2 fun j=>kU8 ((if i < n then g i else fun _=>0) j)).v
  rw[if_pos hi]; exact (hg i hi).2
theorem zuH {v:KV}(h:(Ty.sl j1).is v):∃(n:Nat) (f:Nat→Nat),(∀ i,f i < 256)∧Imp v.v (roK .sc n fun i=>kU8 (f i)).v:=by
 obtain⟨n,f,rfl,hf⟩:=h
 obtain⟨g,hg⟩:=chA (Q:=fun i a=>f i=kU8 a∧a < 256) fun i hi=>Z7 (hf i hi)
 refine⟨n,fun i=>if i < n then g i else 0,fun i=>?_,zkx fun i hi=>?_⟩
 ·show (if i < n then g i else 0) < 256
  split
  ·rename_i h; exact (hg i h).2
  ·omega
 ·rw[(hg i hi).1]
  show Imp (kU8 (g i)).v (kU8 (if i < n then g i else 0)).v
  rw[if_pos hi]; exact Imp.refl _
section
variable {H:Type}{enc:TypeId×Value→H}{P:Program}{W:World}{base:Nat}{sp:Nat→Bool}{held:Bool}
def OpV (W:World) (T:Ty) (x:Value):Prop:=∃ v,T.is v∧∀ C,zge W C→RR v.v C (.val x)
theorem zc4 {a b:Ty}{t:TypeId}{cs:Array Value}{fuel:Nat}{x:DataW H×List MemPlace}(h1:((Ty.cons a b).ok P).1 t=true) (h2:DataW.trod enc P W base sp held fuel t cs.toList=some x) (hc:cs.size=a.sh.size + b.sh.size):OpV W (.cons a b) (.agg cs):=by
 obtain⟨v,h3,h4⟩:=(opT (.cons a b)).1 t cs.toList fuel x h1 h2
 refine⟨v,h3,fun C hC=>?_⟩
 obtain⟨p,q,rfl,_,_⟩:=h3
 obtain⟨s1,s2,e,q1,q2⟩:=h4 C (fun i=>cs[i]?) 0 hC (fun i hi=>by simp)
 have e':Shape.cons a.sh b.sh=Shape.cons s1 s2:=e
 cases e'
 refine⟨cs,a.sh,b.sh,rfl,hc,q1,?_⟩
 simp only[Nat.zero_add] at q2
 exact q2
end
end
end Go.K
set_option maxRecDepth 100000
namespace Go.K
open Go.Ab Go.RowKit Go.Y Go.Proofs
noncomputable section
attribute [local instance 10000] gO
def tyV:Ty:=.cons j1 (.cons (.sl zkv) (.cons (.sl j1) (.cons j1 (.cons j1 .nl))))
theorem zDU {v:KV}(h:tyV.is v):∃ x:Vx,x.nb < 256∧Imp v.v x.k.v:=by
 obtain⟨a,r,rfl,ha,b,q,rfl,hb,c,s,rfl,hc,d,t,rfl,hd,e,u,rfl,he,rfl⟩:=h
 obtain⟨a,rfl,la⟩:=Z7 ha
 obtain⟨n,f,h1,h2⟩:=zuG hb
 obtain⟨m,g,h3,h4⟩:=zuH hc
 obtain⟨d,rfl,ld⟩:=Z7 hd
 obtain⟨e,rfl,le⟩:=Z7 he
 exact⟨{ nb:=a,p:=n,pp:=f,s:=m,ss:=g,ep:=d,ms:=e },la,Imp.cons (Imp.refl _) (Imp.cons h2 (Imp.cons h4 (Imp.refl _)))⟩
def zzx:Ty:=.cons tyI (.cons tyI (.cons zc3 .nl))
theorem zj3 {v:KV}(h:tyI.is v):∃ z:Int,v=.int .i64 z:=by
 obtain⟨z,rfl,_⟩:=h
 exact⟨z,rfl⟩
theorem zzy {v:KV}(h:zzx.is v):∃(a b:Int) (x:Rc),x.tg.length=32∧x.wb∧Imp v.v (KV.cons (.int .i64 a) (.cons (.int .i64 b) (.cons x.k .nl))).v:=by
 obtain⟨a,r,rfl,ha,b,q,rfl,hb,c,s,rfl,hc,rfl⟩:=h
 obtain⟨a,rfl⟩:=zj3 ha
 obtain⟨b,rfl⟩:=zj3 hb
 obtain⟨x,h1,h2,h3⟩:=zpZ hc
 exact⟨a,b,x,h1,h2,Imp.cons (Imp.refl _) (Imp.cons (Imp.refl _) (Imp.cons h3 (Imp.refl _)))⟩
end
end Go.K
