/- loads.Data and its definition, of any block and any record. No condition. -/
import Derived.Test.YtkllahedaiddgaaGreatDoorQH0
import Derived.Test.YtkllahedaiddgaaGreatDoorQE4
import Derived.Test.YtkllahedaiddgaaGreatDoorQJ0
import Derived.Test.YtkllahedaiddgaaGreatDoorLW0
import Derived.Test.YtkllahedaiddgaaGreatDoorRW
set_option linter.unusedSimpArgs false
set_option linter.unusedVariables false
set_option maxRecDepth 100000
namespace Go.K
open Go.Ab Go.RowKit Go.Y Go.Proofs
noncomputable section
attribute [local instance 10000] gO
theorem ziO (x:Rc) (f:Rc→Prop):y6 x.k f=f x.nf:=by kernel_rfl
theorem KCS.arg {P:Program}{f:Nat}{l l':List KV}{w:KV}(h:KCS P f (zq l' w)) (hi:∀ C m,R C (mkL (l.map KV.v)) m→R C (mkL (l'.map KV.v)) m):KCS P f (zq l w):=⟨h.1,fun q K hq=>by
 obtain⟨rfl,hk⟩:=hq
 obtain⟨v,hv,h2⟩:=h.2 l' K ⟨rfl,hk⟩
 exact⟨v,hv,fun B μ nx mx l0 hl=>h2 B μ nx mx l0 fun C M vals a b c=>hi _ _ (hl C M vals a b c)⟩⟩
theorem zmA (n:Nat) (b:Nat→Nat):zS 0 (dtV n b)=true:=by
 show qa 32 (fun j=>zS 0 (ZE 0 (Nat.add 0 (min n 32)) j (kU8 (b (Nat.add 0 (Nat.sub j 0)))) (kU8 0)))=true
 refine xE.2 fun j hj=>?_
 rw[ZF]
 split<;>rfl
theorem zsg {k:Bool}{q:Prop}(hk:k=true) (h:q):cB3 k q:=by
 subst hk
 exact h
attribute [local irreducible] zj zi y6 zo hS zY zE opD opE zy
theorem zCl {y:DE}{S:zh}{d:Dk}{K:KV→Prop}{q:Nat}(hq:q≤1):p59 (yS y q) S (s96 y) (yS y q).r.k (nI y.i) 0 d none K=g59 (yS y q) d (K (F59 (zy y.i q) 1)):=by
 have:q=0∨q=1:=by omega
 rcases this with rfl | rfl
 ·exact zv0 y S d K
 ·exact zv3 y S d K
theorem zCm {y:DE}{d:Dk}{n:Nat}{b:Nat→Nat}{nm:Nat}{K:KV→Prop}{q:Nat}(hq:q≤1):p59 (yS y q) (fun _ _=>False) (s96 y) (yS y q).r.k (nI y.i) 0 d (some ⟨true,n,b,nm⟩) K=g59 (yS y q) d (alt (eqI (.ofNat n) (.ofNat (min n 32))) (alt (!(eqI (.ofNat n) 32)) (K (F59 (zy y.i q) 5)) (cB3 (zS 0 (dtV n b)) False)) (K (F59 (zy y.i q) 5))):=by
 have:q=0∨q=1:=by omega
 rcases this with rfl | rfl
 ·exact zv1 y d n b nm K
 ·exact zv4 y d n b nm K
theorem zCn {y:DE}{d:Dk}{b:Nat→Nat}{nm:Nat}{K:KV→Prop}{q:Nat}(hq:q≤1):p59 (yS y q) (zfL y) (s96 y) (yS y q).r.k (nI y.i) 0 d (some ⟨true,32,b,nm⟩) K=g59 (yS y q) d (cB3 (zS 0 (dtV 32 b)) ([ksK y.en y.mc,nI y.i,noK y.sh y.ct,kBy 32 (nN y.tg)]=[ksK y.en y.mc,nI y.i,noK y.sh y.ct,kBy 32 (nN y.tg)]∧lsF 32 (fun j=>b (Nat.add 0 (Nat.sub j 0)))=y.dt∧alt (!(eqN y.e 0)) (K (F59 (zy y.i q) 6)) (K (.tup (.cons (kBy 32 (nN y.pl)) (.cons (pgK 0 0) (.cons (nI 0) .nl))))))):=by
 have:q=0∨q=1:=by omega
 rcases this with rfl | rfl
 ·exact zv2 y d b nm K
 ·exact zv5 y d b nm K
section
variable {p:DP}{L:Nat}{d:Dd}
noncomputable def r59 (p:DP) (d:Dd):KV:=w59 (opD (p.x (d.last (zy p.i p.s)).st)) (zy p.i p.s) (wi p d)
theorem zCo (H:dpOk p L) (st:Nat):KCS Tryz.prog 96 (s96 (p.y st)):=⟨zeg.1,fun q K h=>zeg.2 q K (by
 obtain⟨a,b,c,rfl,h1⟩:=ZU h
 obtain⟨s,rfl,h0,h2⟩:=zu h1
 cases h0
 obtain⟨h3,h4⟩:=za.1 h2
 exact⟨⟨H.n24,H.i,ja.1 h3⟩,h4⟩)⟩
theorem zw7 (H:dpOk p L):KCS Tryz.prog 125 (zq [p.rc.k] (nI 0)):=⟨Zc.1,fun q K h=>Zc.2 q K (by
 obtain⟨rfl,h1⟩:=h
 show y6 p.rc.k fun x=>K (nI x.e)
 rw[ziO]
 have hs:=H.s1
 rw[show p.rc.nf.e=0 from Rc.e_t ⟨by show p.s + 1≤2; omega,fun (q:p.s + 1=0)=>by omega⟩]
 exact h1)⟩
theorem zw8 (H:dpOk p L) (st:Nat):KCS Tryz.prog 131 (zfL (p.y st)):=⟨JE.1,fun q K h=>by
 unfold zfL la5 at h
 split at h
 ·rename_i A B C D T
  obtain⟨h1,h2⟩:=h
  obtain⟨h3,h4,h5⟩:=ze h2
  cases h1
  have hi:p.i < 4096:=by have:=H.i; have:=(zR H.n24).2; omega
  have hOk:opOk (p.x st):=⟨H.en,hi,H.no,vE (f:=bSr st) 32,xy (n:=32) (f:=bSr st) fun j _=>vG st j,H.tb⟩
  have hK:KCS Tryz.prog 131 (zq [ksK p.en p.mc,nI p.i,noK p.sh p.ct,kBy 32 (nN (lsF 32 (bSr st))),kBy 32 (nN p.tg)] (opW (p.x st))):=⟨JE.1,fun q K h=>JE.2 q K (by
   obtain⟨rfl,h1⟩:=h
   exact⟨p.x st,rfl,hOk,h1⟩)⟩
  refine (KCS.arg (l:=[ksK p.en p.mc,nI p.i,noK p.sh p.ct,D,kBy 32 (nN p.tg)]) hK fun C m hm=>?_).2 _ K ⟨rfl,h5⟩
  have hD:Imp D.v (kBy 32 (nN (lsF 32 (bSr st)))).v:=by
   have:=XU h3
   rw[h4] at this
   exact this
  exact Imp.cons (Imp.refl _) (Imp.cons (Imp.refl _) (Imp.cons (Imp.refl _) (Imp.cons hD (Imp.refl _)))) C m hm
 ·exact h.elim⟩
theorem ziP (H:dpOk p L) {S:zh}(hS:KCS Tryz.prog 131 S) (hL:L≤64) (hn:L=scT p.n) (st:Nat) {o:Option Vr}(ho:atK (dkS L d L).f (zy p.i p.s)=o):KOk (E59 (p.y st) S (s96 (p.y st)) p.rc.k 0 (dkS L d L) o):=by
 have hd:=zaZ (L:=L) (d:=d) L
 refine KOk.tabB (zr.tab (l:=[(96,s96 (p.y st)),(125,zq [p.rc.k] (nI 0)),(131,S)]) ⟨zCo H st,zw7 H,hS,trivial⟩) (l:=[(112,zq [nI p.n,(dkS L d L).k] (ofK p.n (dkS L d L))),(73,zq [(dkS L d L).k,nI (zy p.i p.s)] (ql o))]) ⟨⟨zfW.1,fun q K h=>zfW.2 q K (by
  obtain⟨rfl,h1⟩:=h
  exact⟨(p.n,dkS L d L),rfl,⟨H.n24,hd.1.trans hn⟩,h1⟩)⟩,⟨Q8.1,fun q K h=>Q8.2 q K (by
  obtain⟨rfl,h1⟩:=h
  refine⟨(((dkS L d L).L,(dkS L d L).c,(dkS L d L).q,(dkS L d L).f),zy p.i p.s),rfl,⟨Ye hL hL,by rw[hd.1]; exact H.sec⟩,?_⟩
  show K (ql (atK (dkS L d L).f (zy p.i p.s)))
  rw[ho]
  exact h1)⟩,trivial⟩
theorem zw9 (st:Nat):lsF 32 (fun j=>bSt st (Nat.add 0 (Nat.sub j 0)))=lsF 32 (bSr st):=by
 refine qT fun j hj=>?_
 rw[va]
 show bSr st (j - 0)=bSr st j
 rw[Nat.sub_zero]
theorem zxa (pl:List Nat) (sec:Nat):w59 pl sec 0=.tup (.cons (kBy 32 (nN pl)) (.cons (pgK 0 0) (.cons (nI 0) .nl))):=by
 unfold w59 blD scD erN
 rw[if_pos rfl,if_pos rfl,if_pos rfl]
theorem zsh (p:DP) (st:Nat):yS (p.y st) p.s=p.y st:=rfl
theorem r_y (p:DP) (st:Nat):(p.y st).r=p.rc:=rfl
theorem zsi (H:dpOk p L) (ht:(d.last (zy p.i p.s)).th=true) (h32:(d.last (zy p.i p.s)).ln=32) (nm:Nat):p59 (p.y (d.last (zy p.i p.s)).st) (zfL (p.y (d.last (zy p.i p.s)).st)) (s96 (p.y (d.last (zy p.i p.s)).st)) p.rc.k (nI p.i) 0 (dkS L d L) (some ⟨true,32,bSt (d.last (zy p.i p.s)).st,nm⟩) fun r=>Imp r.v (r59 p d).v:=by
 have h6:opE (p.x (d.last (zy p.i p.s)).st)≠0→wi p d=6:=fun q=>zoI ht h32 q
 have h0:opE (p.x (d.last (zy p.i p.s)).st)=0→wi p d=0:=fun q=>zoJ ht h32 q
 unfold r59
 generalize hst:(d.last (zy p.i p.s)).st=st at *
 have e:=zCn (y:=p.y st) (d:=dkS L d L) (b:=bSt st) (nm:=nm) (K:=fun r=>Imp r.v (w59 (opD (p.x st)) (zy p.i p.s) (wi p d)).v) (q:=p.s) H.s1
 rw[zsh,r_y] at e
 refine Eq.mpr e ⟨rfl,rfl,rfl,rfl,rfl,zsg (zmA _ _) ⟨rfl,zw9 st,zg.2 ⟨fun q=>?_,fun q=>?_⟩⟩⟩
 ·exact Vj (h6 ((bf z9).1 (nbt.1 q))) (by decide)
 ·rw[h0 (z9.1 (nbf.1 q)),zxa]
  exact Imp.refl _
theorem zsj (H:dpOk p L) (ht:(d.last (zy p.i p.s)).th=true) (h32:(d.last (zy p.i p.s)).ln≠32) (nm:Nat):p59 (p.y (d.last (zy p.i p.s)).st) (fun _ _=>False) (s96 (p.y (d.last (zy p.i p.s)).st)) p.rc.k (nI p.i) 0 (dkS L d L) (some ⟨true,(d.last (zy p.i p.s)).ln,bSt (d.last (zy p.i p.s)).st,nm⟩) fun r=>Imp r.v (r59 p d).v:=by
 have h5:wi p d=5:=zoH ht h32
 unfold r59
 generalize (d.last (zy p.i p.s)).ln=ln at *
 generalize hst:(d.last (zy p.i p.s)).st=st at *
 have e:=zCm (y:=p.y st) (d:=dkS L d L) (n:=ln) (b:=bSt st) (nm:=nm) (K:=fun r=>Imp r.v (w59 (opD (p.x st)) (zy p.i p.s) (wi p d)).v) (q:=p.s) H.s1
 rw[zsh,r_y] at e
 exact Eq.mpr e ⟨rfl,rfl,rfl,rfl,rfl,zg.2 ⟨fun _=>zg.2 ⟨fun _=>Vj h5 (by decide),fun q=>absurd (z9.1 (nbf.1 q:eqN ln 32=true)) h32⟩,fun _=>Vj h5 (by decide)⟩⟩
theorem zsk (H:dpOk p L) (ht:¬ (d.last (zy p.i p.s)).th=true):p59 (p.y 0) (fun _ _=>False) (s96 (p.y 0)) p.rc.k (nI p.i) 0 (dkS L d L) none fun r=>Imp r.v (r59 p d).v:=by
 have h1:wi p d=1:=zoG (by cases h:(d.last (zy p.i p.s)).th with
  | true=>exact absurd h ht
  | false=>rfl)
 unfold r59
 generalize hst:(d.last (zy p.i p.s)).st=st at *
 have e:=zCl (y:=p.y 0) (S:=fun _ _=>False) (d:=dkS L d L) (K:=fun r=>Imp r.v (w59 (opD (p.x st)) (zy p.i p.s) (wi p d)).v) (q:=p.s) H.s1
 rw[zsh,r_y] at e
 exact Eq.mpr e ⟨rfl,rfl,rfl,rfl,rfl,Vj h1 (by decide)⟩
noncomputable def a59 (x:DP×Nat×Dd):List KV:=[nI x.1.n,(dkS x.2.1 x.2.2 x.2.1).k,ksK x.1.en x.1.mc,nI x.1.i,x.1.rc.k]
theorem zej:KCS Tryz.prog 59 (xM a59 (fun x=>dpOk x.1 x.2.1∧x.2.1≤64∧x.2.1=scT x.1.n∧znP x.2.1 x.2.2) fun x=>r59 x.1 x.2.2):=xm ⟨Tryz.f59,Tryz.func59,by kernel_rfl,by kernel_rfl⟩ fun q K hs=>by
 obtain⟨⟨p,L,d⟩,rfl,⟨H,hL,hn,hsh⟩,hk⟩:=hs
 have H:dpOk p L:=H
 have hL:L≤64:=hL
 have hn:L=scT p.n:=hn
 have hsh:znP L d:=hsh
 have hk:K (r59 p d):=hk
 have hno:KCS Tryz.prog 131 (fun _ _=>False):=⟨JE.1,fun l K h=>h.elim⟩
 by_cases ht:(d.last (zy p.i p.s)).th=true
 ·obtain⟨nm,ho⟩:=zeE (d:=d) H.sec ⟨ht,hsh _ H.sec ht⟩
  by_cases h32:(d.last (zy p.i p.s)).ln=32
  ·rw[h32] at ho
   exact⟨_,ziP H (zw8 H (d.last (zy p.i p.s)).st) hL hn (d.last (zy p.i p.s)).st ho,rfl,80,fun r=>Imp r.v (r59 p d).v,_,hk,zcb _ _ _,fun r hr=>hr,zsi H ht h32 nm⟩
  ·exact⟨_,ziP H hno hL hn (d.last (zy p.i p.s)).st ho,rfl,80,fun r=>Imp r.v (r59 p d).v,_,hk,zcb _ _ _,fun r hr=>hr,zsj H ht h32 nm⟩
 ·have ho:=zeF (L:=L) (d:=d) (s:=zy p.i p.s) fun k=>ht k.1
  exact⟨_,ziP H hno hL hn 0 ho,rfl,80,fun r=>Imp r.v (r59 p d).v,_,hk,zcb _ _ _,fun r hr=>hr,zsk H ht⟩
end
end
end Go.K
set_option maxRecDepth 100000
namespace Go.K
open Go.Ab Go.RowKit Go.Y Go.Proofs
noncomputable section
attribute [local instance 10000] gO
noncomputable def zmJ (n k:Nat):Nat:=@Nat.rec (fun _=>Nat) k (fun _ x=>Nat.succ x) n
theorem zmK (n k:Nat):zmJ n k=n + k:=by
 induction n with
 | zero=>exact (Nat.zero_add k).symm
 | succ n ih=>show Nat.succ (zmJ n k)=_; rw[ih]; omega
def zxG (n:Nat) (z:Int):Prop:=zi EO0 (zj EO0 200) 0 96 [nI n,.int .i64 z,nI 0] .e 0 0 fun r _ _ _=>tK (kvb r (tE2 (nI 0) 1))
def zct (k:Nat) (q:Bool):Prop:=xr (fun m=>@Bool.rec (fun _=>Prop) True (zxG (Nat.succ m) (.negSucc k)) q) 24
def zcu (k:Nat) (q:Bool):Prop:=xr (fun m=>@Bool.rec (fun _=>Prop) True (zxG (Nat.succ m) (.ofNat (zmJ (Nat.succ m) k))) q) 24
theorem zCF (k:Nat):zct k true=zct k false:=by kernel_rfl
theorem zCG (k:Nat):zcu k true=zcu k false:=by kernel_rfl
theorem zCH {n:Nat}{z:Int}(hn:zC n=true) (hz:z < 0∨(n:Int)≤z):KCS Tryz.prog 96 (zq [nI n,.int .i64 z,nI 0] (tE2 (nI 0) 1)):=xm ⟨Tryz.f96,Tryz.func96,by kernel_rfl,by kernel_rfl⟩ fun l K hs=>by
 obtain⟨rfl,hk⟩:=hs
 obtain⟨n1,n2⟩:=zR hn
 obtain⟨m,rfl⟩:∃ m,n=Nat.succ m:=⟨n - 1,by omega⟩
 cases z with
 | negSucc k=>exact⟨EO0,zr,rfl,200,_,_,hk,rfl,fun r hr=>by rw[vC (yg hr)]; exact Imp.refl _,zw (Eq.mpr (zCF k) (zF (fun n=>trivial) 24):zct k true) m (by omega)⟩
 | ofNat a =>
  have ha:m + 1≤a:=by
   rcases hz with h | h
   ·exact absurd h (by simp)
   ·exact Int.ofNat_le.1 h
  obtain⟨k,rfl⟩:∃ k,a=zmJ (Nat.succ m) k:=⟨a - (m + 1),by rw[zmK]; omega⟩
  exact⟨EO0,zr,rfl,200,_,_,hk,rfl,fun r hr=>by rw[vC (yg hr)]; exact Imp.refl _,zw (Eq.mpr (zCG k) (zF (fun n=>trivial) 24):zcu k true) m (by omega)⟩
theorem zkb (f:Nat→En) (w:Nat):enU f w (f w)=f:=funext fun i=>by
 unfold enU
 cases h:Nat.beq i w with
 | false=>rfl
 | true=>rw[Nat.eq_of_beq_eq_true h]
theorem zzS {n k j w:Nat}(hn:zC n=true) (h:isS n (k + 1) j=true) (hw:w < 4) (hp:w < zx n (k + 1) j):isS n k (4 * j + w)=true:=by
 obtain⟨n1,n2⟩:=zR hn
 obtain⟨h1,h2⟩:=xc hn h
 obtain⟨m,rfl⟩:∃ m,n=Nat.succ m:=⟨n - 1,by omega⟩
 have hd:∀ m:Fin 24,∀ k:Fin 2,∀ j:Fin 6,∀ w:Fin 4,isS (Nat.succ m.1) (k.1 + 1) j.1=true→w.1 < zx (Nat.succ m.1) (k.1 + 1) j.1→isS (Nat.succ m.1) k.1 (4 * j.1 + w.1)=true:=by decide
 exact hd ⟨m,by omega⟩ ⟨k,by omega⟩ ⟨j,h2⟩ ⟨w,hw⟩ h hp
attribute [local irreducible] zj zi zo hS zY zE zx
theorem zt6 {n l j s:Nat}(hn:zC n=true) (h:isS n l j=true) (hs:s≤1):zt n l j s < scT n:=by
 have:=XC hn h
 show 2 * (n + zo n l j) + s < 2 * (n + zY n)
 omega
theorem zpJ {n l w:Nat}{p:Nd}(hn:zC n=true) (hp:ndOk p) (hl:p.lv=Nat.succ l) (hf:p.nf.fe n=0) (hw:w < 4) (hs:(p.en w).st≠0):plOk n (scT n) l (4 * p.ix + w) ((p.en w).st - 1):=by
 obtain⟨h1,h2⟩:=zo7 hf
 have h1:p.ok:=(ziN hp.wl).1 h1
 have hS:isS n (l + 1) p.ix=true:=by
  have:=h2.2.1
  rw[show p.nf.lv=l + 1 from hl] at this
  exact this
 have hpts:w < zx n (l + 1) p.ix:=by
  refine Classical.byContradiction fun hc=>hs ?_
  have:=(h2.2.2 w hw (by rw[show p.nf.lv=l + 1 from hl]; exact Nat.not_lt.1 hc)).2
  rw[Nd.nf_en' hp.wl w hw] at this
  exact this.1
 have h3:=zzS hn hS hw hpts
 have h4:(p.en w).st≤2:=((h1.2.2 (by rw[hl]; exact Nat.succ_ne_zero l)).2 w hw).1
 have hs1:(p.en w).st - 1≤1:=by omega
 exact⟨hn,h3,hs1,zt6 hn h3 hs1⟩
end
end Go.K
set_option maxRecDepth 100000
namespace Go.K
open Go.Ab Go.RowKit Go.Y Go.Proofs
noncomputable section
attribute [local instance 10000] gO
open Classical in
noncomputable def chO (n:Nat) (p:Nd) (z:Int):Nat:=if p.nf.fe n≠0∨z < 0∨3 < z then 1 else if p.lv=0∨(p.en z.toNat).st=0 then 11 else 0
noncomputable def yCh (n:Nat) (d:Dk) (p:Nd) (w:Nat):PE:=jf n d (p.lv - 1) (4 * p.ix + w) ((p.en w).st - 1) (p.en w).dg
noncomputable def zbk (n:Nat) (d:Dk) (p:Nd) (w:Nat):Nat:=jx n d (p.lv - 1) (4 * p.ix + w) ((p.en w).st - 1) (p.en w).dg
noncomputable def zjG (x:Nd) (a b c:Nat):KV:=.tup (.cons x.k (.cons (pgK a b) (.cons (nI c) .nl)))
noncomputable def w57 (n:Nat) (d:Dk) (p:Nd) (z:Int):KV:=@ite _ (chO n p z=0) (Nat.decEq _ _) (Qm (yCh n d p z.toNat) (zbk n d p z.toNat)) (zjG qY 0 0 (chO n p z))
theorem ztC (n:Nat) (d:Dk) (p:Nd) (z:Int):zA (w57 n d p z).v=true:=by
 unfold w57
 split
 ·exact zeJ _ _
 ·kernel_rfl
attribute [local irreducible] zj zi zo hS zY zE zx jf jx
theorem Z2 {n:Nat}{d:Dk}{p:Nd}{z:Int}{e:Nat}(h:chO n p z=e) (he:e≠0):Imp (C57 e).v (w57 n d p z).v:=by
 unfold w57
 rw[if_neg (by rw[h]; exact he),h]
 exact Imp.tup (Imp.cons Z6 (Imp.refl _))
theorem zpx {n:Nat}{d:Dk}{p:Nd}{z:Int}(h:chO n p z=0):w57 n d p z=Qm (yCh n d p z.toNat) (zbk n d p z.toNat):=if_pos h
section
variable {n:Nat}{d:Dk}{p:Nd}
noncomputable def yE (n:Nat) (d:Dk) (p:Nd) (w:Nat):CE:=⟨n,p,yJ (yCh n d p w) (zbk n d p w),zf0 (yCh n d p w) (zbk n d p w),zbk n d p w,erN (zbk n d p w),plOk n d.L (p.lv - 1) (4 * p.ix + w) ((p.en w).st - 1)⟩
theorem zzd (hn:zC n=true) (hp:ndOk p) (hd:d.ok) (hb:zfR d) (hL:d.L=scT n) (w:Nat):KOk (E57 (yE n d p w) (p.nf.fe n) (p.lv - 1) w ((p.en w).st - 1) (p.en w).dg d):=ziD (KOk.tabB (zr.tab (l:=[(123,zq [nI n,p.k] (nI (p.nf.fe n))),(187,fun q K=>q=[za3 n d,plP (p.lv - 1) (Nat.add (Nat.mul 4 p.ix) w),nI ((p.en w).st - 1),kBy 32 (nN (p.en w).dg)]∧(yE n d p w).P∧K (yE n d p w).w)]) ⟨zo6 hn hp,⟨za5.1,fun q K h=>za5.2 q K (by
  obtain⟨rfl,h1,h2⟩:=h
  exact⟨(n,d,p.lv - 1,4 * p.ix + w,(p.en w).st - 1,(p.en w).dg),rfl,⟨h1,hd,hb⟩,h2⟩)⟩,trivial⟩) (l:=[(112,zq [nI n,d.k] (ofK n d))]) ⟨⟨zfW.1,fun q K h=>zfW.2 q K (by
  obtain⟨rfl,h1⟩:=h
  exact⟨(n,d),rfl,⟨hn,hL⟩,h1⟩)⟩,trivial⟩)
theorem Z3 {l w s:Nat}{dg:List Nat}(hl:p.lv=Nat.succ l) (he:p.en w=⟨s,dg⟩):ndU p l w s dg=p:=by
 obtain⟨lv,ix,rc,en⟩:=p
 have hl:lv=Nat.succ l:=hl
 have he:en w=⟨s,dg⟩:=he
 subst hl
 unfold ndU
 rw[←he,zkb]
theorem zDB {y:CE}{l w s:Nat}{dg:List Nat}{K:KV→Prop}(hw:w < 4):p57 (yZ y) 0 l w s dg d (nI w) K=zcv (yZ y) d 11 K:=(zw zsM w hw).1 y l s dg d K
theorem zDC {y:CE}{l w:Nat}{dg:List Nat}{K:KV→Prop}(hw:w < 4):p57 (yU y l w 0 dg) 0 l w 0 dg d (nI w) K=zcv (yU y l w 0 dg) d 11 K:=(zw zsM w hw).2.1 y l dg d K
theorem zDD {y:CE}{l w s:Nat}{dg:List Nat}{K:KV→Prop}(hw:w < 4) (hs:s≤1):p57 (yU y l w (s + 1) dg) 0 l w s dg d (nI w) K=zxH (yU y l w (s + 1) dg) l w s dg d K:=zw (zw zsM w hw).2.2 s (by omega) y l dg d K
theorem zeM {l w s:Nat}{dg:List Nat}(hl:p.lv=Nat.succ l) (he:p.en w=⟨s,dg⟩) (w':Nat):yU (yE n d p w') l w s dg=yE n d p w':=by
 unfold yU
 rw[show (yE n d p w').p=p from rfl,Z3 hl he]
 rfl
theorem ztD (hn:zC n=true) (hp:ndOk p) (hL:d.L=scT n) (hf:p.nf.fe n=0) {w:Nat}(hw:w < 4):p57 (yE n d p w) 0 (p.lv - 1) w ((p.en w).st - 1) (p.en w).dg d (nI w) fun r=>Imp r.v (w57 n d p (.ofNat w)).v:=by
 have h0:¬ (p.nf.fe n≠0∨(Int.ofNat w) < 0∨3 < (Int.ofNat w)):=by
  rintro (h | h | h)
  ·exact h hf
  ·exact absurd h (by simp)
  ·have:3 < w:=Int.ofNat_lt.1 h
   omega
 by_cases hl:p.lv=0
 ·have hc:chO n p (.ofNat w)=11:=(if_neg h0).trans (if_pos (.inl hl))
  have hy:yZ (yE n d p w)=yE n d p w:=by
   obtain⟨lv,ix,rc,en⟩:=p
   have hl:lv=0:=hl
   subst hl
   rfl
  rw[←hy,zDB hw]
  exact⟨rfl,rfl,Z2 hc (by decide)⟩
 ·obtain⟨l,hl'⟩:∃ l,p.lv=Nat.succ l:=⟨p.lv - 1,by omega⟩
  have e1:p.lv - 1=l:=by omega
  rw[e1]
  by_cases hs:(p.en w).st=0
  ·have hc:chO n p (.ofNat w)=11:=(if_neg h0).trans (if_pos (.inr hs))
   have he:p.en w=⟨0,(p.en w).dg⟩:=by rw[←hs]
   rw[hs]
   have h1:=zeM (n:=n) (d:=d) hl' he w
   have h2:=zDC (d:=d) (y:=yE n d p w) (l:=l) (w:=w) (dg:=(p.en w).dg) (K:=fun r=>Imp r.v (w57 n d p (.ofNat w)).v) hw
   rw[h1] at h2
   exact Eq.mpr h2 ⟨rfl,rfl,Z2 hc (by decide)⟩
  ·obtain⟨s,hs'⟩:∃ s,(p.en w).st=s + 1:=⟨(p.en w).st - 1,by omega⟩
   have hc:chO n p (.ofNat w)=0:=(if_neg h0).trans (if_neg (by rintro (h | h); exact hl h; exact hs h))
   have hpl:=zpJ hn hp hl' hf hw hs
   have hs1:s≤1:=by have:=hpl.s1; omega
   have he:p.en w=⟨s + 1,(p.en w).dg⟩:=by rw[←hs']
   have e2:(p.en w).st - 1=s:=by omega
   rw[e2]
   have h1:=zeM (n:=n) (d:=d) hl' he w
   have h2:=zDD (d:=d) (y:=yE n d p w) (l:=l) (w:=w) (s:=s) (dg:=(p.en w).dg) (K:=fun r=>Imp r.v (w57 n d p (.ofNat w)).v) hw hs1
   rw[h1] at h2
   have b1:p.lv < 256:=hp.wb.1
   have b2:p.ix < 4294967296:=hp.wb.2.1
   have hP:(yE n d p w).P:=by
    show plOk n d.L (p.lv - 1) (4 * p.ix + w) ((p.en w).st - 1)
    rw[hL,e1]
    exact hpl
   refine Eq.mpr h2 ⟨rfl,rfl,za.2 ⟨zH.2 (by show l + 1 < _; omega),za.2 ⟨zH.2 (by omega),za.2 ⟨zH.2 (by show p.ix < _; omega),za.2 ⟨zH.2 (by show 4 * p.ix < _; omega),za.2 ⟨zH.2 (by show 4 * p.ix + w < _; omega),rfl,hP,?_⟩⟩⟩⟩⟩⟩
   rw[zpx hc]
   exact Imp.refl _
theorem ztE (hf:p.nf.fe n=0) {z:Int}(hz:z < 0∨3 < z) (l w s:Nat) (dg:List Nat) (w':Nat):p57 (yE n d p w') 0 l w s dg d (.int .i64 z) fun r=>Imp r.v (w57 n d p z).v:=by
 have hc:chO n p z=1:=if_pos (.inr hz)
 cases z with
 | negSucc k =>
  rw[zCJ]
  exact⟨rfl,rfl,Z2 hc (by decide)⟩
 | ofNat m =>
  have hm:3 < m:=by
   rcases hz with h | h
   ·exact absurd h (by simp)
   ·exact Int.ofNat_lt.1 h
  obtain⟨k,rfl⟩:∃ k,m=Nat.succ (Nat.succ (Nat.succ (Nat.succ k))):=⟨m - 4,by omega⟩
  have:=zCK (yE n d p w') l w s dg d k (fun r=>Imp r.v (w57 n d p (.ofNat (Nat.succ (Nat.succ (Nat.succ (Nat.succ k)))))).v)
  exact Eq.mpr this ⟨rfl,rfl,Z2 hc (by decide)⟩
noncomputable def a57 (x:Nat×Dk×Nd×Int):List KV:=[nI x.1,x.2.1.k,x.2.2.1.k,.int .i64 x.2.2.2]
structure chOk (n:Nat) (d:Dk) (p:Nd):Prop where
 n24:zC n=true
 hp:ndOk p
 hd:d.ok
 hb:zfR d
 hL:d.L=scT n
theorem zjH:KCS Tryz.prog 57 (xM a57 (fun x=>chOk x.1 x.2.1 x.2.2.1) fun x=>w57 x.1 x.2.1 x.2.2.1 x.2.2.2):=xm ⟨Tryz.f57,Tryz.func57,by kernel_rfl,by kernel_rfl⟩ fun q K hs=>by
 obtain⟨⟨n,d,p,z⟩,rfl,H,hk⟩:=hs
 have H:chOk n d p:=H
 have hk:K (w57 n d p z):=hk
 have main:∀ w,p57 (yE n d p w) (p.nf.fe n) (p.lv - 1) w ((p.en w).st - 1) (p.en w).dg d (.int .i64 z) (fun r=>Imp r.v (w57 n d p z).v)→_:=fun w h=>(⟨_,zzd H.n24 H.hp H.hd H.hb H.hL w,rfl,60,fun r=>Imp r.v (w57 n d p z).v,_,hk,ztC _ _ _ _,fun r hr=>hr,h⟩:∃ E:KEnv,KOk E∧E.P=Tryz.prog∧∃(n':Nat) (Q:KV→Prop) (w:KV),K w∧zA w.v=true∧(∀ r:KV,Q r→Imp r.v w.v)∧zi E (zj E n') 0 57 (a57 (n,d,p,z)) .e 0 0 fun r _ _ _=>Q r)
 by_cases hf:p.nf.fe n=0
 ·by_cases hz:z < 0∨3 < z
  ·refine main 0 ?_
   rw[hf]
   exact ztE hf hz _ _ _ _ _
  ·obtain⟨w,rfl⟩:∃ w:Nat,z=Int.ofNat w:=⟨z.toNat,by
    have:0≤z:=by omega
    exact (Int.toNat_of_nonneg this).symm⟩
   have hw:w < 4:=by
    have:¬ (3:Int) < Int.ofNat w:=fun q=>hz (.inr q)
    have:¬ 3 < w:=fun q=>this (Int.ofNat_lt.2 q)
    omega
   refine main w ?_
   rw[hf]
   exact ztD H.n24 H.hp H.hL hf hw
 ·obtain⟨e,he⟩:∃ e,p.nf.fe n=Nat.succ e:=⟨p.nf.fe n - 1,by omega⟩
  refine main 0 ?_
  rw[he,zCI]
  exact⟨rfl,rfl,Z2 (if_pos (.inl hf)) (by decide)⟩
end
end
end Go.K
set_option maxRecDepth 100000
namespace Go.K
open Go.Ab Go.RowKit Go.Y Go.Proofs
noncomputable section
attribute [local instance 10000] gO
def j0 (d:Dd):Prop:=∀ s,(d.last s).ln≤256
theorem zga (d:Dd) (s:Nat) (c:Cv):(vg d s c).last s=c:=by
 show (vg d s c).cv s ((vg d s c).cn s)=c
 unfold vg
 simp
theorem znr {d:Dd}{s s':Nat}{c:Cv}(h:s'≠s):(vg d s c).last s'=d.last s':=by
 show (vg d s c).cv s' ((vg d s c).cn s')=d.cv s' (d.cn s')
 unfold vg
 simp [h]
theorem Q9 {d:Dd}{s:Nat}{c:Cv}(h:j0 d) (hc:c.ln≤256):j0 (vg d s c):=fun s'=>by
 by_cases e:s'=s
 ·subst e; rw[zga]; exact hc
 ·rw[znr e]; exact h s'
theorem zgb:j0 X2:=fun s=>Nat.zero_le _
theorem zbq (x:Vx) (a b:List Nat):∀ i,j0 (dV x a b i)
 | 0=>zgb
 | i + 1=>by
  have ih:=zbq x a b i
  by_cases h:wrV x i
  ·rw[d_y h]
   exact Q9 ih (show 32≤256 by omega)
  ·rw[d_n h]; exact ih
section
variable {c:VC}
theorem zcY (hc:∀ k,Nat.succ (c.ln k)≤256) {d:Dd}{l j:Nat}(h:j0 d):j0 (Jx c d l j):=by
 unfold Jx
 split
 ·exact Q9 h (hc _)
 ·exact h
theorem Wa (hc:∀ k,Nat.succ (c.ln k)≤256) {d:Dd}{l:Nat}(h:j0 d):∀ j,j0 (dNj c d l j)
 | 0=>h
 | j + 1=>zcY hc (Wa hc h j)
theorem Wb (hc:∀ k,Nat.succ (c.ln k)≤256) {d:Dd}(h:j0 d):∀ l,j0 (dNl c d l)
 | 0=>h
 | l + 1=>Wa hc (Wb hc h l) _
end
theorem zEq (x:Vx) (k:Nat):Nat.succ ((cV x).ln k)≤256:=by
 show Nat.succ (Nat.pred (byN (Yk x.n (uV x) k)))≤256
 rw[zeI]
 unfold byN
 cases (Yk x.n (uV x) k).lv with
 | zero=>show 185≤256; omega
 | succ l=>show 137≤256; omega
theorem Ze (x:Vx):j0 (vn x):=Wb (zEq x) (zbq x _ _ _) _
theorem YF (x:Vx) (s:Nat):(vn x).cn s≤38:=by
 have h1:=zcA (cV x) (jZ x) (dV x (enV x) (mcV x) x.n) s (hS x.n + 1)
 have h2:=ze8 x (enV x) (mcV x) x.n s
 have h3:=(zbj x).2
 have h4:=(zxQ (jZ x)).1
 show (dNl (cV x) (dV x (enV x) (mcV x) x.n) (hS x.n + 1)).cn s≤38
 omega
theorem ze0 (x:Vx):LV x≤64:=by
 have h1:=zbj x
 have h2:=YL (jZ x)
 show 2 * (x.n + zY x.n)≤64
 omega
theorem zun (x:Vx):okVw (vwX x) where
 l0:=(zbh x).1
 l1:=ze0 x
 cn:=fun i _=>by have:=YF x i; show (vn x).cn i < 1000; omega
 ln:=fun i _=>by have:=Ze x i; show ((vn x).last i).ln≤1000; omega
end
end Go.K
namespace Go.K
open Go.Ab Go.RowKit Go.Y Go.Proofs
noncomputable section
attribute [local instance 10000] gO
theorem zzp:KCS Tryz.prog 47 (yY [] (.bool true)):=KCS.opn (show @KCS kgL Tryz.prog 47 (yY [] (.bool true)) from zAe)
end
end Go.K
set_option maxRecDepth 100000
namespace Go.K
open Go.Ab Go.RowKit Go.Y Go.Proofs
noncomputable section
attribute [local instance 10000] gO
structure LE where
 x:Vx
 v:Vw
 d:Dk
 r:Rc
 zb:Int
 pl:List Nat
 a:Nat
 f:Nat
 e:Nat
 pl':List Nat
 a':Nat
 f':Nat
 ck:Nat
 Q:Nd→Prop
 T:Prop
structure LC where
 p:Nd
 z:Int
 fe:Nat
 w:KV
 l:Nat
 j:Nat
 s:Nat
 dg:List Nat
 u:KV
 P:Prop
noncomputable def dtK (pl:List Nat) (a f e:Nat):KV:=.tup (.cons (kBy 32 (nN pl)) (.cons (pgK a f) (.cons (nI e) .nl)))
noncomputable def drK (pl:List Nat) (a f:Nat):KV:=.tup (.cons (kBy 32 (nN pl)) (.cons (prK a f) .nl))
noncomputable def LC.a57 (c:LC) (y:LE):List KV:=[nI y.v.n,y.d.k,c.p.k,.int .i64 c.z]
noncomputable def LC.a58 (c:LC) (y:LE):List KV:=[nI y.v.n,c.p.k]
noncomputable def LC.a54 (c:LC) (y:LE):List KV:=[nI y.v.n,dK y.v.L y.v.d,nI c.l,nI c.j,nI c.s,kBy 32 (nN c.dg)]
noncomputable def LE.a59 (y:LE):List KV:=[nI y.v.n,y.d.k,ksK y.v.a y.v.b,.int .i64 y.zb,y.r.k]
noncomputable def LE.a56 (y:LE):List KV:=[nI y.v.n,dK y.v.L y.v.d,kBy 16 (nN y.v.a),kBy 32 (nN y.v.b),.int .i64 y.zb,y.r.k]
noncomputable def E9 (y:LE) (c:LC):KEnv:={ (EO0.tab [(57,zq (c.a57 y) c.w),(58,zq (c.a58 y) (nI c.fe)),(54,fun q K=>q=c.a54 y∧c.P∧K c.u),(59,zq y.a59 (dtK y.pl y.a y.f y.e)),(60,fun l K=>la1 l fun v=>qj v fun x=>y.Q x∧K (nI y.ck)),(56,fun q K=>q=y.a56∧y.T∧K (drK y.pl' y.a' y.f')),(47,yY [] (.bool true))]).tabB [(30,zq [y.x.k] y.v.k),(40,zq [y.v.k] y.d.k)] with sc:=true }
noncomputable def zzK (z zb:Int) (r:Rc):KV:=.cons (.int .i64 z) (.cons (.int .i64 zb) (.cons r.k .nl))
def p9 (y:LE) (c:LC) (K:KV→Prop):Prop:=zi (E9 y c) (zj (E9 y c) 80) 0 9 [y.x.k,c.p.k,zzK c.z y.zb y.r] .e 0 0 fun r _ _ _=>K r
noncomputable def kqB (a b:KV):Bool:=@Option.rec Bool (fun _=>Bool) false (fun b=>b) (keq 24 a b)
noncomputable def zkS:KV:=.ar 32 (kU8 0) .te
noncomputable def zkT:Rc:=⟨0,0,0,lsK zkS 32⟩
noncomputable def zgj:En:=⟨0,lsK zkS 32⟩
noncomputable def n1 (r:Rc):Nd:=⟨0,0,c4 ⟨r.st,r.sh,r.ct,lsK (kBy 32 (nN r.tg)) 32⟩ zkT zkT zkT,c4 zgj zgj zgj zgj⟩
noncomputable def kF:KV:=.bool false
noncomputable def zAI (a b:Bool):Bool:=@Bool.rec (fun _=>Bool) (@Bool.rec (fun _=>Bool) true false b) b a
def t9a (y:LE) (K:KV→Prop):Prop:=alt (eqI (.ofNat y.e) 1) (alt (kqB (kBy 32 (nN y.pl)) zkS) (alt (kqB (pgK y.a y.f) (pgK 0 0)) (K (.bool true)) (K kF)) (K kF)) (K kF)
def t9b (y:LE) (K:KV→Prop):Prop:=alt (kqB (kBy 32 (nN y.pl)) (kBy 32 (nN y.pl'))) (K (.bool true)) (K kF)
def prQ (a f e a' f':Nat) (K:KV→Prop) (q:Prop):Prop:=alt (!(eqI (.ofNat a) (.ofNat a'))) (K kF) (cnd (b63 f) (alt (!(eqI (.ofNat f) (.ofNat f'))) (K kF) (alt (!(zAI (eqI (.ofNat e) 9) (ltI 0 (.ofNat f')))) (K kF) (alt (!(eqI (.ofNat e) 0)) (alt (!(eqI (.ofNat e) 9)) (K kF) q) q))))
def t9 (y:LE) (K:KV→Prop):Prop:=y.a59=y.a59∧alt (ltI y.zb 0) (t9a y K) (alt (leI (.ofNat y.v.n) y.zb) (t9a y K) (y.Q (n1 y.r)∧alt (!(eqI (.ofNat y.ck) 0)) (t9a y K) (y.a56=y.a56∧y.T∧prQ y.a y.f y.e y.a' y.f' K (t9b y K))))
def h9 (y:LE) (c:LC) (q:Prop):Prop:=[y.x.k]=[y.x.k]∧[y.v.k]=[y.v.k]∧c.a57 y=c.a57 y∧c.a58 y=c.a58 y∧q
noncomputable def c9e (p:Nd) (z:Int) (fe e:Nat):LC:=⟨p,z,fe,zjG qY 0 0 e,0,0,0,[],.nl,False⟩
theorem e9a (y:LE) (p:Nd) (z:Int) (fe:Nat) (K:KV→Prop):p9 y (c9e p z (Nat.succ fe) 1) K=h9 y (c9e p z (Nat.succ fe) 1) (t9 y K):=by kernel_rfl
theorem e9n (y:LE) (p:Nd) (k:Nat) (K:KV→Prop):p9 y (c9e p (.negSucc k) 0 1) K=h9 y (c9e p (.negSucc k) 0 1) (t9 y K):=by kernel_rfl
theorem e9g (y:LE) (p:Nd) (k:Nat) (K:KV→Prop):p9 y (c9e p (.ofNat (Nat.succ (Nat.succ (Nat.succ (Nat.succ k))))) 0 1) K=h9 y (c9e p (.ofNat (Nat.succ (Nat.succ (Nat.succ (Nat.succ k))))) 0 1) (t9 y K):=by kernel_rfl
noncomputable def c9z (p:Nd) (w:Nat):LC:=c9e ⟨0,p.ix,p.rc,p.en⟩ (.ofNat w) 0 11
noncomputable def c9y (p:Nd) (l w:Nat) (dg:List Nat):LC:=c9e (ndU p l w 0 dg) (.ofNat w) 0 11
noncomputable def c9m (p:Nd) (l w s:Nat) (dg:List Nat) (P:Prop) (X:Nd) (a f e:Nat):LC:=⟨ndU p l w (Nat.succ s) dg,.ofNat w,0,zjG X a f e,l,Nat.add (Nat.mul 4 p.ix) w,s,dg,.tup (.cons X.k (.cons (prK a f) .nl)),P⟩
def m9 (y:LE) (c:LC) (p:Nd) (l w s:Nat) (q:Prop):Prop:=h9 y c (cnd (b63 (Nat.succ l)) (cnd (b63 l) (cnd (b63 p.ix) (cnd (b63 (Nat.mul 4 p.ix)) (cnd (b63 (Nat.add (Nat.mul 4 p.ix) w)) (cnd (b63 (Nat.succ s)) (cnd (b63 s) (c.a54 y=c.a54 y∧c.P∧q))))))))
theorem zxb (y:DE) (S:zh) (z:Int) (e2:Nat) (d:Dk) (o:Option Vr) (x:Rc) (K:KV→Prop):p59 y S (zq [nI y.n,.int .i64 z,nI 0] (tE2 (nI 0) 1)) x.k (.int .i64 z) e2 d o K=h59 y d ([nI y.n,.int .i64 z,nI 0]=[nI y.n,.int .i64 z,nI 0]∧K (C59 1)):=by kernel_rfl
theorem Yl (e:Nat):Imp (C59 e).v (dtK z32 0 0 e).v:=Imp.tup (Imp.cons qb (Imp.refl _))
theorem zxc:Imp (F56 0 0).v (drK z32 0 0).v:=Imp.tup (Imp.cons qb (Imp.refl _))
theorem zcm (pl:List Nat) (a f e:Nat):zA (dtK pl a f e).v=true:=by kernel_rfl
theorem zsl (pl:List Nat) (a f:Nat):zA (drK pl a f).v=true:=by kernel_rfl
attribute [local irreducible] zj zi y6 zo hS zY zE opD opE zy
theorem zcn {y:DE}{S T:zh}{r:Rc}{d:Dk}(hT:KCS Tryz.prog 96 T) (hS:KCS Tryz.prog 131 S) (hn:zC y.n=true) (hL:d.L=scT y.n) (hd:d.ok) (hs:y.sec < d.L):KOk (E59 y S T r.k r.nf.e d (atK d.f y.sec)):=KOk.tabB (zr.tab (l:=[(96,T),(125,zq [r.k] (nI r.nf.e)),(131,S)]) ⟨hT,⟨Zc.1,fun q K h=>Zc.2 q K (by
  obtain⟨rfl,h1⟩:=h
  show y6 r.k fun x=>K (nI x.e)
  rw[ziO]
  exact h1)⟩,hS,trivial⟩) (l:=[(112,zq [nI y.n,d.k] (ofK y.n d)),(73,zq [d.k,nI y.sec] (ql (atK d.f y.sec)))]) ⟨⟨zfW.1,fun q K h=>zfW.2 q K (by
  obtain⟨rfl,h1⟩:=h
  exact⟨(y.n,d),rfl,⟨hn,hL⟩,h1⟩)⟩,⟨Q8.1,fun q K h=>Q8.2 q K (by
  obtain⟨rfl,h1⟩:=h
  exact⟨((d.L,d.c,d.q,d.f),y.sec),rfl,⟨hd,hs⟩,h1⟩)⟩,trivial⟩
section
variable {n:Nat}{d:Dk}{en mc:List Nat}{r:Rc}
noncomputable def yB (n i:Nat) (en mc:List Nat) (r:Rc):DE:=⟨n,i,en,mc,0,r.sh,r.ct,r.tg,0,[],[],0⟩
theorem zco:KCS Tryz.prog 131 (fun _ _=>False):=⟨JE.1,fun l K h=>h.elim⟩
theorem zCp (hn:zC n=true) (hL:d.L=scT n) (hd:d.ok) (h0:0 < d.L) {z:Int}(hz:z < 0∨(n:Int)≤z):KCS Tryz.prog 59 (zq [nI n,d.k,ksK en mc,.int .i64 z,r.k] (dtK z32 0 0 1)):=xm ⟨Tryz.f59,Tryz.func59,by kernel_rfl,by kernel_rfl⟩ fun q K hs=>by
 obtain⟨rfl,hk⟩:=hs
 exact⟨_,zcn (y:=yB n 0 en mc r) (r:=r) (zCH hn hz) zco hn hL hd h0,rfl,80,fun r=>Imp r.v (dtK z32 0 0 1).v,_,hk,zcm _ _ _ _,fun r hr=>hr,Eq.mpr (zxb (yB n 0 en mc r) (fun _ _=>False) z r.nf.e d (atK d.f 0) r fun r=>Imp r.v (dtK z32 0 0 1).v) ⟨rfl,rfl,Yl 1⟩⟩
theorem zxd (hn:zC n=true) {i:Nat}(hi:i < n):KCS Tryz.prog 96 (s96 (yB n i en mc r)):=⟨zeg.1,fun q K h=>zeg.2 q K (by
 obtain⟨a,b,c,rfl,h1⟩:=ZU h
 obtain⟨s,rfl,h0,h2⟩:=zu h1
 cases h0
 obtain⟨h3,h4⟩:=za.1 h2
 exact⟨⟨hn,hi,ja.1 h3⟩,h4⟩)⟩
theorem Rc.e_01 {x:Rc}(h:x.e≠0):x.e=1:=by
 by_cases h':x.ok
 ·exact absurd (Rc.e_t h') h
 ·exact Rc.e_f h'
theorem zCq (hn:zC n=true) (hL:d.L=scT n) (hd:d.ok) (h0:0 < d.L) {i:Nat}(hi:i < n) (he:r.nf.e≠0):KCS Tryz.prog 59 (zq [nI n,d.k,ksK en mc,nI i,r.k] (dtK z32 0 0 1)):=xm ⟨Tryz.f59,Tryz.func59,by kernel_rfl,by kernel_rfl⟩ fun q K hs=>by
 obtain⟨rfl,hk⟩:=hs
 have hE:=zcn (y:=yB n i en mc r) (r:=r) (zxd (en:=en) (mc:=mc) (r:=r) hn hi) zco hn hL hd h0
 rw[Rc.e_01 he] at hE
 exact⟨_,hE,rfl,80,fun r=>Imp r.v (dtK z32 0 0 1).v,_,hk,zcm _ _ _ _,fun r hr=>hr,Eq.mpr (zBB (yB n i en mc r) (fun _ _=>False) 0 d (atK d.f 0) r fun r=>Imp r.v (dtK z32 0 0 1).v) ⟨rfl,rfl,rfl,Yl 1⟩⟩
theorem zCr (hn:zC n=true) (hL:d.L=scT n) (hd:d.ok) (h0:0 < d.L) {i:Nat}(hi:i < n) (he:r.nf.e=0) (hs:r.st=0):KCS Tryz.prog 59 (zq [nI n,d.k,ksK en mc,nI i,r.k] (dtK z32 0 0 0)):=xm ⟨Tryz.f59,Tryz.func59,by kernel_rfl,by kernel_rfl⟩ fun q K hq=>by
 obtain⟨rfl,hk⟩:=hq
 have hE:=zcn (y:=yB n i en mc r) (r:=r) (zxd (en:=en) (mc:=mc) (r:=r) hn hi) zco hn hL hd h0
 rw[he] at hE
 obtain⟨st,sh,ct,tg⟩:=r
 have hs:st=0:=hs
 subst hs
 exact⟨_,hE,rfl,80,fun r=>Imp r.v (dtK z32 0 0 0).v,_,hk,zcm _ _ _ _,fun r hr=>hr,Eq.mpr (zBC (yB n i en mc ⟨0,sh,ct,tg⟩) (fun _ _=>False) d (atK d.f 0) fun r=>Imp r.v (dtK z32 0 0 0).v) ⟨rfl,rfl,rfl,Yl 0⟩⟩
end
theorem zxe {p:DP}{L:Nat}{d:Dd}(H:dpOk p L) (hc:d.cn (zy p.i p.s) < 1000):KOk (E56 (dS (p.y (d.last (zy p.i p.s)).st) (d.last (zy p.i p.s)).st) L d (d.last (zy p.i p.s))):=ziD (zr.tab ⟨⟨QW.1,fun q K h=>QW.2 q K (by
   obtain⟨rfl,h1⟩:=h
   exact⟨⟨by have:=H.i; have:=(zR H.n24).2; show p.i < 24; omega,H.s1⟩,h1⟩)⟩,⟨XW.1,fun q K h=>XW.2 q K (by
   obtain⟨rfl,h1⟩:=h
   exact⟨(L,d,zy p.i p.s),rfl,⟨H.sec,by show d.cn (zy p.i p.s) < _; omega⟩,h1⟩)⟩,⟨YD.1,fun q K h=>YD.2 q K (by
   obtain⟨rfl,h1⟩:=h
   exact⟨p.x (d.last (zy p.i p.s)).st,rfl,H.en,h1⟩)⟩,trivial⟩)
theorem zCs {p:DP}{L:Nat}{d:Dd}(H:dpOk p L) (hc:d.cn (zy p.i p.s) < 1000):KCS Tryz.prog 56 (zq [nI p.n,dK L d,kBy 16 (nN p.en),kBy 32 (nN p.mc),nI p.i,(⟨0,p.sh,p.ct,p.tg⟩:Rc).k] (drK z32 0 0)):=xm ⟨Tryz.f56,Tryz.func56,by kernel_rfl,by kernel_rfl⟩ fun q K hs=>by
 obtain⟨rfl,hk⟩:=hs
 exact⟨_,zxe H hc,rfl,80,fun r=>Imp r.v (drK z32 0 0).v,_,hk,zsl _ _ _,fun r hr=>hr,Eq.mpr (zD0 (dS (p.y (d.last (zy p.i p.s)).st) (d.last (zy p.i p.s)).st) L d (d.last (zy p.i p.s)) fun r=>Imp r.v (drK z32 0 0).v) zxc⟩
structure DAll (n L:Nat) (d:Dd) (en mc:List Nat) (zb:Int) (r:Rc) (pl:List Nat) (a f e:Nat) (pl':List Nat) (a' f':Nat):Prop where
 k59:KCS Tryz.prog 59 (zq [nI n,(dkS L d L).k,ksK en mc,.int .i64 zb,r.k] (dtK pl a f e))
 k56:KCS Tryz.prog 56 (fun q K=>q=[nI n,dK L d,kBy 16 (nN en),kBy 32 (nN mc),.int .i64 zb,r.k]∧¬ (zb < 0∨(n:Int)≤zb∨r.e≠0)∧K (drK pl' a' f'))
 bad:(zb < 0∨(n:Int)≤zb∨r.e≠0)→e=1∧pl=z32∧a=0∧f=0
 good:¬ (zb < 0∨(n:Int)≤zb∨r.e≠0)→pl'=pl∧a'=a∧f'=f∧e=erN f∧f≤6
theorem zmB (p:DP) (d:Dd):wi p d≤6:=by
 unfold wi flD
 split
 ·omega
 ·split
  ·omega
  ·split<;>omega
theorem zxf {l:List Nat}(h:∀ b∈l,b < 256):x6 l:=by
 induction l with
 | nil=>intro i; exact Nat.zero_lt_succ _
 | cons x l ih =>
  intro i
  cases i with
  | zero=>exact h x (List.mem_cons_self ..)
  | succ i=>exact ih (fun b hb=>h b (List.mem_cons_of_mem _ hb)) i
theorem zmC {n L:Nat}{d:Dd}{en mc:List Nat}{zb:Int}{r:Rc}(hn:zC n=true) (h0:0 < L) (hL:L≤64) (hLn:L=scT n) (hsh:znP L d) (hcn:∀ s,d.cn s < 1000) (hen:x6 en) (hw:r.wb) (hl:r.tg.length=32):∃ pl a f e pl' a' f',DAll n L d en mc zb r pl a f e pl' a' f':=by
 have hd:=zaZ (L:=L) (d:=d) L
 have hok:=Ye (L:=L) (d:=d) hL hL
 have hdl:(dkS L d L).L=scT n:=hd.1.trans hLn
 have hd0:0 < (dkS L d L).L:=by rw[hd.1]; exact h0
 have hnf:=Rc.nf_eq hl
 have no56:∀ {P:Prop}{w:KV}{l:List KV},¬ P→KCS Tryz.prog 56 (fun q K=>q=l∧P∧K w):=fun hP=>⟨Yc.1,fun q K h=>(hP h.2.1).elim⟩
 by_cases hb:zb < 0∨(n:Int)≤zb∨r.e≠0
 ·refine⟨z32,0,0,1,z32,0,0,?_,no56 fun q=>q hb,fun _=>⟨rfl,rfl,rfl,rfl⟩,fun q=>absurd hb q⟩
  by_cases hz:zb < 0∨(n:Int)≤zb
  ·exact zCp hn hdl hok hd0 hz
  ·obtain⟨i,rfl⟩:∃ i:Nat,zb=Int.ofNat i:=⟨zb.toNat,(Int.toNat_of_nonneg (by omega)).symm⟩
   have hi:i < n:=by
    have:¬ ((n:Int)≤(i:Int)):=fun q=>hz (.inr q)
    omega
   have he:r.e≠0:=by
    rcases hb with h | h | h
    ·exact absurd (.inl h) hz
    ·exact absurd (.inr h) hz
    ·exact h
   exact zCq hn hdl hok hd0 hi (by rw[hnf]; exact he)
 ·obtain⟨i,rfl⟩:∃ i:Nat,zb=Int.ofNat i:=⟨zb.toNat,(Int.toNat_of_nonneg (by omega)).symm⟩
  have hi:i < n:=by
   have:¬ ((n:Int)≤(i:Int)):=fun q=>hb (.inr (.inl q))
   omega
  have he:r.e=0:=Classical.byContradiction fun q=>hb (.inr (.inr q))
  have hrok:r.ok:=Classical.byContradiction fun q=>by rw[Rc.e_f q] at he; cases he
  have hnt:=(zR hn).1
  obtain⟨st,sh,ct,tg⟩:=r
  have hno:noOk sh ct:=⟨hw.2.1,hw.2.2.1⟩
  have htb:x6 tg:=zxf hw.2.2.2
  have hsec:∀ s,s≤1→zy i s < L:=fun s hs=>by
   rw[hLn]
   unfold zy
   show 2 * i + s < 2 * (n + zY n)
   omega
  cases st with
  | zero =>
   have H:dpOk ⟨n,i,en,mc,0,sh,ct,tg⟩ L:=⟨hn,hi,Nat.zero_le _,hsec 0 (by omega),hen,hno,htb⟩
   have k56:=zCs H (d:=d) (hcn _)
   exact⟨z32,0,0,0,z32,0,0,zCr hn hdl hok hd0 hi (by rw[hnf]; exact he) rfl,⟨k56.1,fun q K h=>k56.2 q K ⟨h.1,h.2.2⟩⟩,fun q=>absurd q hb,fun _=>⟨rfl,rfl,rfl,rfl,by omega⟩⟩
  | succ s =>
   have hs1:s≤1:=by
    have:s + 1≤2:=hrok.1
    omega
   have H:dpOk ⟨n,i,en,mc,s,sh,ct,tg⟩ L:=⟨hn,hi,hs1,hsec s hs1,hen,hno,htb⟩
   refine⟨(blD (wi (⟨n,i,en,mc,s,sh,ct,tg⟩:DP) d) (opD ((⟨n,i,en,mc,s,sh,ct,tg⟩:DP).x (d.last (zy i s)).st))),(scD (wi (⟨n,i,en,mc,s,sh,ct,tg⟩:DP) d) (zy i s)),(wi (⟨n,i,en,mc,s,sh,ct,tg⟩:DP) d),erN (wi (⟨n,i,en,mc,s,sh,ct,tg⟩:DP) d),(blD (wi (⟨n,i,en,mc,s,sh,ct,tg⟩:DP) d) (opD ((⟨n,i,en,mc,s,sh,ct,tg⟩:DP).x (d.last (zy i s)).st))),(scD (wi (⟨n,i,en,mc,s,sh,ct,tg⟩:DP) d) (zy i s)),(wi (⟨n,i,en,mc,s,sh,ct,tg⟩:DP) d),⟨zej.1,fun q K h=>zej.2 q K ?_⟩,⟨Yc.1,fun q K h=>Yc.2 q K ?_⟩,fun q=>absurd q hb,fun _=>⟨rfl,rfl,rfl,rfl,zmB _ d⟩⟩
   ·obtain⟨rfl,h1⟩:=h
    exact⟨(⟨n,i,en,mc,s,sh,ct,tg⟩,L,d),rfl,⟨H,hL,hLn,hsh⟩,h1⟩
   ·obtain⟨rfl,_,h1⟩:=h
    exact⟨(⟨n,i,en,mc,s,sh,ct,tg⟩,L,d),rfl,⟨H,hcn _⟩,h1⟩
end
end Go.K
