/- Valid trees: Check, Root, Target as contracts. No condition. -/
import Derived.Test.YtkllahedaiddgaaGreatDoorUG5
import Derived.Test.YtkllahedaiddgaaGreatDoorPV0
import Derived.Test.YtkllahedaiddgaaGreatDoorSN
import Derived.Test.YtkllahedaiddgaaGreatDoorBY0
set_option linter.unusedSimpArgs false
set_option linter.unusedVariables false
set_option maxRecDepth 100000
namespace Go.K
open Go.Ab Go.RowKit Go.Y Go.Proofs
noncomputable section
attribute [local instance 10000] gO
noncomputable def stW (y:Un) (w s:Nat):Un:=⟨⟨y.nd.lv,y.nd.ix,fun i=>⟨@Bool.rec (fun _=>Nat) (y.nd.rc i).st s (Nat.beq i w),(y.nd.rc i).sh,(y.nd.rc i).ct,(y.nd.rc i).tg⟩,y.nd.en⟩,y.sl,y.di,y.ch⟩
noncomputable def zyR (y:Un) (w s:Nat) (K:KV→Prop):Prop:=zk EO0 (zp EO0 60) 0 163 [(stW y w s).k,nI w] .e 0 0 fun r _ _ _=>K r
noncomputable def tgV (s:Nat) (c:Bool):Nat:=@Nat.rec (fun _=>Nat) 0 (fun s _=>@Bool.rec (fun _=>Nat) (Nat.sub 1 s) s c) s
noncomputable def f163 (y:Un) (w s:Nat) (K:KV→Prop):Prop:=@Nat.rec (fun _=>Prop) (K (nI 0)) (fun s' _=>alt (y.ch w) (K (nI (tgV s true))) (K (nI (tgV s false)))) s
noncomputable def zcI (S:Nat→Nat→Prop) (y:Un) (K:KV→Prop) (q:Bool):Prop:=xT (fun w=>xT (fun s=>S w s→@Bool.rec (fun _=>Prop) (f163 y w s K) (zyR y w s K) q) 3) 4
theorem zE9 (S:Nat→Nat→Prop) (y:Un) (K:KV→Prop):zcI S y K true=zcI S y K false:=by kernel_rfl
theorem zcJ {P:Nat→Prop}(h:∀ i,P i):∀ n,xT P n
 | 0=>trivial
 | n + 1=>⟨zcJ h n,h n⟩
theorem zlC (y:Un) (w:Nat):stW y w (y.nd.rc w).st=y:=by
 obtain⟨⟨lv,ix,rc,en⟩,sl,di,ch⟩:=y
 unfold stW
 have:(fun i=>(⟨@Bool.rec (fun _=>Nat) (rc i).st (rc w).st (Nat.beq i w),(rc i).sh,(rc i).ct,(rc i).tg⟩:Rc))=rc:=funext fun i=>by
  cases h:Nat.beq i w with
  | false=>rfl
  | true=>rw[Nat.eq_of_beq_eq_true h]
 show Un.mk (Nd.mk lv ix (fun i=>(⟨@Bool.rec (fun _=>Nat) (rc i).st (rc w).st (Nat.beq i w),(rc i).sh,(rc i).ct,(rc i).tg⟩:Rc)) en) sl di ch=_
 rw[this]
noncomputable def tgU (y:Un) (w:Nat):Nat:=tgV (y.nd.rc w).st (y.ch w)
noncomputable def zFa (x:Un×Nat):List KV:=[x.1.k,nI x.2]
noncomputable def zyS:zf:=vp zFa (fun x=>x.2 < 4∧(x.1.nd.rc x.2).st≤2) fun x=>nI (tgU x.1 x.2)
theorem zJf:KCS Tryz.prog 163 zyS:=jV ⟨Tryz.f163,Tryz.func163,by kernel_rfl,by kernel_rfl⟩ fun l K hs=>by
 obtain⟨⟨y,w⟩,rfl,⟨h1,h2⟩,hk⟩:=hs
 have h1:w < 4:=h1
 have h2:(y.nd.rc w).st≤2:=h2
 have hf:zcI (fun w' s'=>w'=w∧s'=(y.nd.rc w).st) y (fun r=>r=nI (tgU y w)) false:=zcJ (fun w'=>zcJ (fun s'=>by
  rintro⟨rfl,rfl⟩
  show f163 y w' _ _
  unfold f163 tgU
  generalize (y.nd.rc w').st=s
  cases s with
  | zero=>rfl
  | succ s=>exact zo.2 ⟨fun h=>by rw[h],fun h=>by rw[h]⟩) 3) 4
 have hp:=zQ (zQ (Eq.mpr (zE9 _ y _) hf) w h1) (y.nd.rc w).st (by omega) ⟨rfl,rfl⟩
 have hp:zyR y w (y.nd.rc w).st fun r=>r=nI (tgU y w):=hp
 unfold zyR at hp
 rw[zlC] at hp
 exact⟨EO0,zI,rfl,60,fun r=>r=nI (tgU y w),_,hk,rfl,fun r hr=>by rw[hr]; exact Imp.refl _,hp⟩
noncomputable def EG (t lay:KV):KEnv:=(EO0.tab [(163,zyS),(158,zeJ)]).tabB [(161,va [t] (zoL lay 0))]
noncomputable def rG (f:Nat) (t:KV) (l:List KV) (h a b c d e:Nat) (K:KV→Prop):Prop:=zk (EG t (zrb h a b c d e)) (zp (EG t (zrb h a b c d e)) 60) 0 f l .e 0 0 fun r _ _ _=>K r
theorem zJg (n m:Nat) (c:Nat→Un) (h0 a0 b0 c0 d0 e0:Nat) (K:KV→Prop):rG 94 (trK n m c) [trK n m c] h0 a0 b0 c0 d0 e0 K=([trK n m c]=[trK n m c]∧K (nI 0)):=by kernel_rfl
noncomputable def zFb:KV:=.tup (.cons (nI 0) (.cons (nI 1) .nl))
noncomputable def zlD (t:Nat):KV:=.tup (.cons (nI t) (.cons (nI 0) .nl))
theorem zJh (n m:Nat) (c:Nat→Un) (i h0 a0 b0 c0 d0 e0:Nat) (K:KV→Prop):rG 95 (trK n m c) [trK n m c,nI i] h0 a0 b0 c0 d0 e0 K=([trK n m c]=[trK n m c]∧alt (leN n i) (K zFb) (cnd (b63 (Nat.div i 4)) (cnd (ixB (.ofNat (Nat.div i 4)) m) (∃ x:Un×Nat,[(c (Nat.add 0 (Nat.div i 4))).k,nI (i % 4)]=zFa x∧(x.2 < 4∧(x.1.nd.rc x.2).st≤2)∧K (zlD (tgU x.1 x.2)))))):=by kernel_rfl
noncomputable def zlE (x:Nd):KV:=.tup (.cons (kBy 32 (nN x.dg)) (.cons (nI 0) .nl))
noncomputable def r89 (y:Nd) (K:KV→Prop):Prop:=YD y.nf∧K (zlE y.nf)
theorem zJi (n m:Nat) (c:Nat→Un) (h0 a0 b0 c0 d0 e0:Nat) (K:KV→Prop):rG 89 (trK n (Nat.succ m) c) [trK n (Nat.succ m) c] h0 a0 b0 c0 d0 e0 K=([trK n (Nat.succ m) c]=[trK n (Nat.succ m) c]∧cnd (b63 (Nat.sub (Nat.succ m) 1)) (cnd (ixB (.ofNat (Nat.sub (Nat.succ m) 1)) (Nat.succ m)) (r89 (c (Nat.add 0 (Nat.sub (Nat.succ m) 1))).nd K))):=by kernel_rfl
end
end Go.K
set_option maxRecDepth 100000
namespace Go.K
open Go.Ab Go.RowKit Go.Y Go.Proofs
noncomputable section
attribute [local instance 10000] gO
attribute [local irreducible] zp zk zh hS zi zx xh
theorem Jy {n m l j:Nat}{u:Ud}(H:UOk n m u) (V:UV n u) (h:isS n l j=true):(xD n u l j).wl∧(xD n u l j).wb∧YD (xD n u l j)∧(xD n u l j).lv=l:=by
 have hw:=qd (now:=xf n u) H.n24 (fun i hi=>⟨H.wl i hi,H.wb i hi⟩) l j h
 have e:=XU (Q1 H V h)
 rw[Yp H.n24 h] at e
 have hl:=(xg H.n24 h).1
 exact⟨hw.1,hw.2.1,⟨zim e.2.2,by rw[show (xD n u l j).lv=l from e.1]; exact hl⟩,e.1⟩
section
variable {n m:Nat}{u:Ud}
theorem zDv (H:UOk n m u):TrOk0 n m (cU n u):=⟨H.n24,H.tot,fun i hi=>(qd H.n24 (fun i hi=>⟨H.wl i hi,H.wb i hi⟩) _ _ (QS H.n24 (by rw[←H.tot]; exact hi))).1,fun i hi=>(qd H.n24 (fun i hi=>⟨H.wl i hi,H.wb i hi⟩) _ _ (QS H.n24 (by rw[←H.tot]; exact hi))).2.1⟩
theorem zDw (H:UOk n m u) (V:UV n u):ZK Tryz.prog 161 (va [trK n m (cU n u)] (zoL (qC n) 0)):=⟨zB3.1,fun l K hk=>zB3.2 l K (by
 obtain⟨rfl,hk⟩:=hk
 exact⟨(n,m,cU n u,0),rfl,⟨zDv H,zfD H V⟩,hk⟩)⟩
theorem zxo (H:UOk n m u) (V:UV n u):KOk (EG (trK n m (cU n u)) (qC n)):=KOk.tabB (zI.tab (l:=[(163,zyS),(158,zeJ)]) ⟨zJf,zlo,trivial⟩) ⟨zDw H V,trivial⟩
theorem zH2 (H:UOk n m u) (V:UV n u):KCS Tryz.prog 94 (va [trK n m (cU n u)] (nI 0)):=jV ⟨Tryz.f94,Tryz.func94,by kernel_rfl,by kernel_rfl⟩ fun l K hs=>by
 obtain⟨rfl,hk⟩:=hs
 exact⟨EG (trK n m (cU n u)) (qC n),zxo H V,rfl,60,fun r=>r=nI 0,_,hk,rfl,fun r hr=>by rw[hr]; exact Imp.refl _,Eq.mpr (zJg n m (cU n u) (hS n) (zx n 0) (zx n 1) (zx n 2) (zh n 1 0) (zh n 2 0) _) ⟨rfl,rfl⟩⟩
theorem zDx {i:Nat}(H:UOk n m u) (hi:i < n):tgU (cU n u (i / 4)) (i % 4)=tgS u i∧(((cU n u (i / 4)).nd.rc (i % 4)).st≤2):=by
 have h:=Yo (l:=0) H.n24 hi (Nat.zero_le _)
 have e:=Yp (u:=u) H.n24 h
 rw[Jz] at e h
 have e0:zh n 0 (i / 4)=i / 4:=by unfold zh; rfl
 rw[e0] at e
 have h4:4 * (i / 4) + i % 4=i:=by omega
 have hp:i % 4 < zq n 0 (i / 4):=(zev H.n24 h (by omega)).2 (by omega)
 have e1:(cU n u (i / 4)).nd.rc (i % 4)=u.rc i:=by
  rw[e]
  show (if i % 4 < zq n 0 (i / 4) then u.rc (Nat.add 0 (j4 (i / 4) (i % 4))) else zRc)=_
  rw[if_pos hp,vb,wh,h4]
 have e2:(cU n u (i / 4)).ch (i % 4)=u.ch i:=by
  rw[e]
  show nd (nd true (Nat.blt (4 * (i / 4) + i % 4) n)) (u.ch (Nat.add 0 (4 * (i / 4) + i % 4)))=_
  rw[vb,h4,we.2 hi]
  cases u.ch i<;>rfl
 refine⟨?_,by rw[e1]; exact H.st i hi⟩
 unfold tgU tgS
 rw[e1,e2]
 have:=H.st i hi
 generalize (u.rc i).st=s at this
 match s,this with
 | 0,_=>rfl
 | 1,_=>cases u.ch i<;>rfl
 | 2,_=>cases u.ch i<;>rfl
noncomputable def zDy (n m:Nat) (u:Ud):zf:=vp (fun i:Nat=>[trK n m (cU n u),nI i]) (fun i=>i < n) fun i=>zlD (tgS u i)
theorem zDz (H:UOk n m u) (V:UV n u):KCS Tryz.prog 95 (zDy n m u):=jV ⟨Tryz.f95,Tryz.func95,by kernel_rfl,by kernel_rfl⟩ fun l K hs=>by
 obtain⟨i,rfl,hi,hk⟩:=hs
 have hi:i < n:=hi
 obtain⟨n1,n2⟩:=zH H.n24
 refine⟨EG (trK n m (cU n u)) (qC n),zxo H V,rfl,60,fun r=>r=zlD (tgS u i),_,hk,rfl,fun r hr=>by rw[hr]; exact Imp.refl _,Eq.mpr (zJh n m (cU n u) i (hS n) (zx n 0) (zx n 1) (zx n 2) (zh n 1 0) (zh n 2 0) _) ⟨rfl,?_⟩⟩
 have h:=Yo (l:=0) H.n24 hi (Nat.zero_le _)
 have hlt:=qY H.n24 h
 rw[Jz,show zh n 0 (i / 4)=i / 4 by unfold zh; rfl,←H.tot] at hlt
 refine zo.2 ⟨fun q=>absurd (wc.1 q) (by omega),fun _=>zd.2 ⟨xb.2 (by show i / 4 < _; omega),zd.2 ⟨xM.2 hlt,(cU n u (i / 4),i % 4),?_,⟨by show i % 4 < 4; omega,(zDx H hi).2⟩,?_⟩⟩⟩
 ·rw[vb]; rfl
 ·show zlD (tgU (cU n u (i / 4)) (i % 4))=_
  rw[(zDx H hi).1]
theorem zH3 {k:Nat}(H:UOk n (Nat.succ k) u) (V:UV n u):KCS Tryz.prog 89 (va [trK n (Nat.succ k) (cU n u)] (zlE (cU n u k).nd)):=jV ⟨Tryz.f89,Tryz.func89,by kernel_rfl,by kernel_rfl⟩ fun l K hs=>by
 obtain⟨rfl,hk⟩:=hs
 have h9:=jK H.n24
 have hm:=H.tot
 have hp:=QS (k:=k) H.n24 (by omega)
 obtain⟨w1,w2,w3,w4⟩:=Jy H V hp
 have w1:(cU n u k).nd.wl:=w1
 have w3:YD (cU n u k).nd:=w3
 refine⟨EG (trK n (Nat.succ k) (cU n u)) (qC n),zxo H V,rfl,60,fun r=>r=zlE (cU n u k).nd,_,hk,rfl,fun r hr=>by rw[hr]; exact Imp.refl _,Eq.mpr (zJi n k (cU n u) (hS n) (zx n 0) (zx n 1) (zx n 2) (zh n 1 0) (zh n 2 0) _) ⟨rfl,?_⟩⟩
 refine zd.2 ⟨xb.2 (by show k < _; omega),zd.2 ⟨xM.2 (Nat.lt_succ_self k),?_⟩⟩
 rw[vb]
 show YD (cU n u k).nd.nf∧zlE (cU n u k).nd.nf=_
 refine⟨⟨Z5 w1 w3.1,w3.2⟩,?_⟩
 unfold zlE
 rw[QW w1]
end
end
end Go.K
