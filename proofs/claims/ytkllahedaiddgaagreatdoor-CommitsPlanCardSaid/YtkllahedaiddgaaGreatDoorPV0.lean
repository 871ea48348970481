/- caissonref16.Node above the records: the runs. No condition. -/
import Derived.Test.YtkllahedaiddgaaGreatDoorPG2
set_option linter.unusedSimpArgs false
set_option linter.unusedVariables false
set_option maxRecDepth 100000
namespace Go.K
open Go.Ab Go.RowKit Go.Y Go.Proofs
noncomputable section
attribute [local instance 10000] gO
theorem zyI (S:Nat→Prop) (c:Nat→Un) (a:Nat):jY S 0 c a true=jY S 0 c a false:=by kernel_rfl
theorem zzA (S:Nat→Prop) (c:Nat→Un) (a:Nat):jY S 6 c a true=jY S 6 c a false:=by kernel_rfl
theorem zya (S:Nat→Prop) (c:Nat→Un) (a:Nat):jY S 12 c a true=jY S 12 c a false:=by kernel_rfl
theorem zzJ (S:Nat→Prop) (c:Nat→Un) (a:Nat):jY S 18 c a true=jY S 18 c a false:=by kernel_rfl
theorem zik (lay:KV) (a:Nat):rV lay a a:=by
 show tK (nd (nd (xn .i64 .i64) (Nat.beq a a)) true)
 rw[Nat.beq_refl]; trivial
theorem zil {z:Int}:zfx z=true↔¬ (z=0∨z=1):=by
 unfold zfx zrF zzF
 rw[za,qI,qI]
 simp [not_or]
theorem zim {n:Nat}{x:Nd}(h:x.fe n=0):x.ok:=by
 refine Classical.byContradiction fun hk=>?_
 unfold Nd.fe at h
 rw[if_neg hk] at h
 cases h
noncomputable def chQ (lay:KV) (n m:Nat) (c:Nat→Un) (a:Nat) (l:List (Nat×Nat)) (q:Prop):Prop:=@List.rec (Nat×Nat) (fun _=>Prop) q (fun p _ ih=>@Prod.rec Nat Nat (fun _=>Prop) (fun l j=>stV lay n m c a l j ih) p) l
theorem zcf (lay:KV) (n m:Nat) (c:Nat→Un) (a:Nat) (m':List (Nat×Nat)) (q:Prop):∀ l:List (Nat×Nat),chQ lay n m c a (apP l m') q=chQ lay n m c a l (chQ lay n m c a m' q)
 | []=>rfl
 | p::l=>by
  show (@Prod.rec Nat Nat (fun _=>Prop) (fun l' j=>stV lay n m c a l' j (chQ lay n m c a (apP l m') q)) p)=_
  rw[zcf lay n m c a m' q l]
  rfl
section
variable {n m a:Nat}{c:Nat→Un}
theorem zBY {q:Prop}(H:TrOk0 n m c) (hs:qX m c) (hc:IsChk n m c a) {l j:Nat}(hp:isS n l j=true) (hu:zpZ n c l j) (hq:j0 n c l j=0→q):stV (qC n) n m c a l j q:=by
 have HT:=H.ok hs
 have hidx:=HT.inm l j hp
 have hb:bsC (n,m,c,l,j):=⟨H.n24,hp,H.tot⟩
 have bad:∀ e,j0 n c l j=e→e≠0→rV (qC n) a e:=fun e h1 h2=>by
  have:=hc.fst hs l j hp hu (by rw[h1]; exact h2)
  rw[h1] at this
  rw[this]; exact zik _ _
 have kid:∀ k w,l=Nat.succ k→w < zq n l j→(vQ n c k j w).nd.wl∧Qk (vQ n c k j w):=fun k w e hw=>by
  have hk:=Za H.n24 (by rw[←e]; exact hp) (by rw[←e]; exact hw)
  have h0:=hu k (j4 j w) hk (.inl (by show k < l; have:l=Nat.succ k:=e; omega))
  obtain⟨p1,p2,p3⟩:=XU h0
  have hi:=HT.inm k (j4 j w) hk
  have hk2:=(xg H.n24 hk).1
  exact⟨HT.wl _ hi,zim p3,by show (c (zh n k (j4 j w))).nd.lv≤2; rw[p1]; exact hk2,HT.sl _ hi⟩
 unfold stV
 refine⟨(n,m,c,l,j),rfl,⟨hb,HT.wl _ hidx,HT.wb _ hidx⟩,?_⟩
 by_cases hpl:y9 n l j (c (zh n l j))
 ·have e1:QP (n,m,c,l,j)=0:=if_pos hpl
  rw[e1]
  show _
  refine⟨(n,m,c,l,j),rfl,⟨hb,trivial⟩,?_⟩
  by_cases hm:mkP n c l j (c (zh n l j))
  ·have e2:Xx (n,m,c,l,j)=0:=if_pos hm
   rw[e2]
   show _
   refine⟨(n,m,c,l,j),rfl,⟨hb,kid⟩,?_⟩
   by_cases he:jE n c l j (c (zh n l j)) (zq n l j)
   ·have e3:QQ (n,m,c,l,j)=0:=if_pos he
    rw[e3]
    show q
    exact hq (by unfold j0; rw[if_pos hpl,if_pos ⟨hm.1,hm.2,he⟩])
   ·have e3:QQ (n,m,c,l,j)=9:=if_neg he
    rw[e3]
    show rV (qC n) a 9
    exact bad 9 (by unfold j0; rw[if_pos hpl,if_neg fun h=>he h.2.2]) (by omega)
  ·have e2:Xx (n,m,c,l,j)=9:=if_neg hm
   rw[e2]
   show rV (qC n) a 9
   exact bad 9 (by unfold j0; rw[if_pos hpl,if_neg fun h=>hm ⟨h.1,h.2.1⟩]) (by omega)
 ·have e1:QP (n,m,c,l,j)=17:=if_neg hpl
  rw[e1]
  show rV (qC n) a 17
  exact bad 17 (by unfold j0; rw[if_neg hpl]) (by omega)
noncomputable def zBZ (l k i:Nat):List (Nat×Nat):=@Nat.rec (fun _=>Nat→List (Nat×Nat)) (fun _=>[]) (fun _ ih i=>(l,i)::ih (Nat.succ i)) k i
theorem Yd {q:Prop}(H:TrOk0 n m c) (hs:qX m c) (hc:IsChk n m c a) {l:Nat}(hq:zpZ n c (l + 1) 0→q):∀ k i,i + k=zx n l→zpZ n c l i→chQ (qC n) n m c a (zBZ l k i) q
 | 0,i,e,hu=>hq fun l' j' q1 q2=>hu l' j' q1 (by
   unfold wU at q2 ⊢
   by_cases e':l'=l
   ·subst e'; have:=qe.1 q1; omega
   ·omega)
 | k + 1,i,e,hu=>by
  show stV (qC n) n m c a l i (chQ (qC n) n m c a (zBZ l k (Nat.succ i)) q)
  have hp:isS n l i=true:=qe.2 (by omega)
  refine zBY H hs hc hp hu fun h0=>Yd H hs hc hq k (Nat.succ i) (by show i + 1 + k=_; omega) fun l' j' q1 q2=>?_
  by_cases e':l'=l∧j'=i
  ·rw[e'.1,e'.2]; exact h0
  ·exact hu l' j' q1 (by unfold wU at q2 ⊢; simp only[Nat.succ_eq_add_one] at q2; omega)
theorem zsL {q:Prop}(lay:KV) (h1:¬ qX m c→a=1) (hq:qX m c→q):∀ r,r≤m→(∀ i,i < m - r→(c i).sl=0∨(c i).sl=1)→slV lay a m c q r
 | 0,_,hI=>hq hI
 | r + 1,hr,hI=>by
  have ew:Nat.sub m (Nat.succ r)=m - (r + 1):=rfl
  show alt (zfx (c (Nat.sub m (Nat.succ r))).sl) (rV lay a 1) (slV lay a m c q r)
  rw[ew]
  simp only[zo,zil,bf zil]
  refine⟨fun hb=>?_,fun hb=>zsL lay h1 hq r (by omega) fun i hi=>?_⟩
  ·rw[h1 fun hs=>hb (hs _ (by omega))]; exact zik _ _
  ·by_cases e:i=m - (r + 1)
   ·rw[e]; exact Classical.byContradiction hb
   ·exact hI i (by omega)
theorem zo1 (H:TrOk0 n m c) (hc:IsChk n m c a):QN n c a:=by
 unfold QN
 rw[Z6,zA,←H.tot]
 refine⟨H.n24,zsL (qC n) hc.bad (fun hs=>?_) m (Nat.le_refl m) fun i hi=>absurd hi (by omega)⟩
 show chQ (qC n) n m c a (apP (zfy n 0) (apP (zfy n 1) (zfy n 2))) (rV (qC n) a 0)
 rw[zcf,zcf]
 have last:zpZ n c 3 0→rV (qC n) a 0:=fun hu=>by
  rw[hc.fine hs fun l j h=>hu l j h (.inl (by have:=(xg H.n24 h).1; omega))]; exact zik _ _
 exact Yd (l:=0) H hs hc (fun u1=>Yd (l:=1) H hs hc (fun u2=>Yd (l:=2) H hs hc last (zx n 2) 0 (by omega) u2) (zx n 1) 0 (by omega) u1) (zx n 0) 0 (by omega) fun l' j' _ hb=>by rcases hb with hb | hb<;>omega
end
theorem zB0 {P:Program}{fid:FuncId}{s:zf}(hf:∃ fn,P.funcs[fid]?=some fn∧(fn.name == "runtime.NumGoroutine")=false∧fn.body.isNone=false)
  (h:∀ l K,s l K→∃ E:KEnv,KOk E∧E.P=P∧∃ n k w,K w∧zk E (zp E n) 0 fid l .e 0 0 fun r zm _ _=>tK (fzG true zm k r w)):ZK P fid s :=
 ⟨hf,fun l K hs=>by
  obtain⟨E,hE,rfl,n,k,w,h1,h2⟩:=h l K hs
  exact⟨w,h1,fun hb B μ nx mx=>zt9 hE (fun _=>qb hE n) h2 hb B μ nx mx⟩⟩
abbrev P4:=Nat×Nat×(Nat→Un)×Nat
noncomputable def zHg (x:P4):List KV:=[trK x.1 x.2.1 x.2.2.1]
noncomputable def zHh (x:P4):Prop:=TrOk0 x.1 x.2.1 x.2.2.1∧IsChk x.1 x.2.1 x.2.2.1 x.2.2.2
noncomputable def zHi:zf:=vp zHg zHh fun x=>zoL (qC x.1) x.2.2.2
theorem zB1 {n a:Nat}{c:Nat→Un}(h:zD n=true) (hf:QN n c a):zea n c a:=by
 obtain⟨n1,n2⟩:=zH h
 by_cases h6:n≤6
 ·exact yl (zyI _ c a) (by omega) (by omega) hf
 by_cases h12:n≤12
 ·exact yl (zzA _ c a) (by omega) (by omega) hf
 by_cases h18:n≤18
 ·exact yl (zya _ c a) (by omega) (by omega) hf
 ·exact yl (zzJ _ c a) (by omega) (by omega) hf
theorem zB3:ZK Tryz.prog 161 zHi:=zB0 ⟨Tryz.f161,Tryz.func161,by kernel_rfl,by kernel_rfl⟩ fun l K hs=>by
 obtain⟨⟨n,m,c,a⟩,rfl,⟨H,hc⟩,hk⟩:=hs
 have h:=zB1 H.n24 (zo1 H hc)
 unfold zea at h
 rw[Z6,zA,←show m=zi n from H.tot] at h
 exact⟨zoK,zBr,rfl,200,30,_,hk,h⟩
noncomputable def xh (i l:Nat):Nat:=@Nat.rec (fun _=>Nat) (Nat.div i 4) (fun _ x=>Nat.div x 4) l
noncomputable def zFp:zf:=fun l K=>la2 l fun a b=>z9 a fun i=>z9 b fun l=>(i < 24∧l≤2)∧K (nI (xh i l))
noncomputable def zFq (i l:Nat):Prop:=zk EO0 (zp EO0 200) 0 45 [nI i,nI l] .e 0 0 fun r _ _ _=>tK (kvb r (nI (xh i l)))
noncomputable def zlK (q:Bool):Prop:=xT (fun i=>xT (fun l=>@Bool.rec (fun _=>Prop) True (zFq i l) q) 3) 24
theorem zJp:zlK true=zlK false:=by kernel_rfl
theorem zJq:KCS Tryz.prog 45 zFp:=jV ⟨Tryz.f45,Tryz.func45,by kernel_rfl,by kernel_rfl⟩ fun l K hs=>by
  obtain⟨a,b,rfl,h1⟩:=qt hs
  obtain⟨i,rfl,h2⟩:=zu h1
  obtain⟨l,rfl,⟨h3,h4⟩,hk⟩:=zu h2
  exact⟨EO0,zI,rfl,200,_,_,hk,rfl,fun r hr=>by rw[jm (XY hr)]; exact Imp.refl _,zQ (zQ (Eq.mpr zJp (z6 (fun i=>z6 (fun l=>trivial) 3) 24):zlK true) i h3) l (by omega)⟩
structure Ud where
 rc:Nat→Rc
 ch:Nat→Bool
 sl:Nat→Nat
noncomputable def roK (s:Shape) (n:Nat) (f:Nat→KV):KV:=.ro true false s 0 n (.fa n f)
noncomputable def uK (n m:Nat) (u:Ud):KV:=.cons (roK xy n fun i=>(u.rc i).k) (.cons (roK .sc n fun i=>.bool (u.ch i)) (.cons (roK .sc m fun i=>nI (u.sl i)) .nl))
structure UOk (n m:Nat) (u:Ud):Prop where
 n24:zD n=true
 tot:m=zi n
 wl:∀ i,i < n→(u.rc i).tg.length=32
 wb:∀ i,i < n→(u.rc i).wb
 sl:∀ i,i < m→u.sl i≤1
 st:∀ i,i < n→(u.rc i).st≤2
noncomputable def z8 (n:Nat) (u:Ud) (l j:Nat):Bool:=@decide (∃ i,i < n∧u.ch i=true∧xh i l=j) (Classical.propDecidable _)
abbrev P5u:=Nat×Nat×Ud×Nat×Nat
noncomputable def zy2 (x:P5u):List KV:=[uK x.1 x.2.1 x.2.2.1,nI x.2.2.2.1,nI x.2.2.2.2]
noncomputable def shU:Shape:=.cons .sc (.cons .sc (.cons .sc .nl))
noncomputable def pUd:KV:=.ptr 0 [] shU
noncomputable def zU (n m:Nat) (u:Ud):KBlk:=bx 33 shU (uK n m u)
noncomputable def E88:KEnv:=EO0.tab [(45,zFp)]
theorem X1:KOk E88:=zI.tab ⟨zJq,trivial⟩
noncomputable def l88:List Code:=fl (cOf 88)
noncomputable def b88:Code:=lpB (blB (l88.getD 2 .skip))
noncomputable def zFr (n m:Nat) (u:Ud) (l j:Nat) (Q:QT) (R:zl):Prop:=pc E88 88 (l88.take 2) [1,2,3,7] [0] (xd (mOf 88) 0 (zy2 (n,m,u,l,j)),[],0) Q fun v _ _=>R v
noncomputable def u88 (l j k:Nat):List KV:=[nI l,nI j,pUd,nI k]
noncomputable def s88 (n m:Nat) (u:Ud) (l j k:Nat):LS:=([(1,nI l),(2,nI j),(3,pUd),(7,nI k)],[(0,zU n m u)],1)
theorem zJr (n m:Nat) (u:Ud) (l j:Nat) (Q:QT) (R:zl):zFr n m u l j Q R=Q .normal (u88 l j 0) [some (zU n m u)] 1:=by kernel_rfl
noncomputable def zFs (n m:Nat) (u:Ud) (l j k:Nat) (Q:QT) (R:zl):Prop:=pc E88 88 (fl b88) [1,2,3,7] [0] (s88 n m u l j k) Q fun v _ _=>R v
noncomputable def zy3 (n m:Nat) (u:Ud) (l j k:Nat) (Q:QT):Prop:=cnd (b63 (Nat.add k 1)) (Q .normal (u88 l j (Nat.add k 1)) [some (zU n m u)] 1)
theorem zJs (n m:Nat) (u:Ud) (l j k:Nat) (Q:QT) (R:zl):zFs n m u l j k Q R=alt (ltN k n) (cnd (ixB (.ofNat k) n) (alt (u.ch (Nat.add 0 k)) ((k < 24∧l≤2)∧alt (eqN (xh k l) j) (R (.bool true)) (zy3 n m u l j k Q)) (zy3 n m u l j k Q))) (Q (.exit 0) (u88 l j k) [some (zU n m u)] 1):=by kernel_rfl
noncomputable def zFt (n m:Nat) (u:Ud) (l j k:Nat) (Q:QT) (R:zl):Prop:=pc E88 88 (l88.drop 3) [] [] (s88 n m u l j k) Q fun v _ _=>R v
theorem zJt (n m:Nat) (u:Ud) (l j k:Nat) (Q:QT) (R:zl):zFt n m u l j k Q R=R (.bool false):=by kernel_rfl
attribute [local irreducible] kpre cOf mOf rOf JL zp l88 b88 zh hS zi zx xh
theorem zJ3:Tryz.f88.ntmps=27:=by kernel_rfl
theorem zJ4:Tryz.f88.results.toList=rOf 88:=by kernel_rfl
theorem zJ5:fl (cOf 88)=l88:=by kernel_rfl
section
variable {n m:Nat}{u:Ud}{l j:Nat}{B N:Nat}{a:Bool}
noncomputable abbrev Q88 (a:Bool):K4:=retJ E88 Tryz.f88 false (.bool a)
theorem znj (v:KV) (tr:KTm) (zm:KZ) (nx:Nat) (h:v=.bool a) (h1:MB (am zm) nx) (h2:INV (mOf 88) tr) (hr:RAll Tryz.prog (tv' (zn tr)) (am zm) (rOf 88) v.v):Q88 a .ret tr zm nx:=by
 subst h
 exact retJ.mk rfl zJ4 (FzP.noref rfl) hr
theorem kbU (n m:Nat) (u:Ud):xw 0 (zU n m u).v=true:=by kernel_rfl
theorem zzP {k:Nat}{tr:KTm}{zm:KZ}(ht:[1,2,3,7].map (zn tr)=u88 l j k) (hz:[0].map (kb zm)=[some (zU n m u)]):atS (mOf 88) (s88 n m u l j k) tr zm :=
 atS.of (s:=s88 n m u l j k) [] id ht hz (by kernel_rfl) ⟨zC _ rfl,zC _ rfl,vg (ltk rfl),zC _ rfl,trivial⟩ ⟨RnK.nf (kbU n m u),trivial⟩
theorem j88 (hn:n≤24) (hl:l≤2):JFn Tryz.prog 88 false [uK n m u,nI l,nI j] (.bool (z8 n u l j)):=by
 refine JFn.of (P:=Tryz.prog) X1 rfl (c:=cOf 88) (mOf 88) Tryz.func88 (by kernel_rfl) fun B N hN=>?_
 rw[zJ3] at hN
 rw[zJ5]
 refine JL.stp (n:=60) (s:=(xd (mOf 88) 0 [uK n m u,nI l,nI j],[],0)) X1 rfl 2 (rOf 88) [1,2,3,7] [0] hN (by kernel_rfl) (by kernel_rfl) (fun v=>v=.bool (z8 n u l j)) znj ?_
 show zFr n m u l j _ _
 rw[zJr]
 intro tr zm ht hz hmb hi
 refine JL.loopT X1 (fun k=>s88 n m u l j k) (fun k=>n - k) (fun k=>k≤n∧∀ i,i < k→¬ (u.ch i=true∧xh i l=j)) (id:=0) (b:=b88) (l2:=l88.drop 3) (by kernel_rfl) (fun w=>by kernel_rfl) 0 ⟨by omega,fun i hi=>absurd hi (Nat.not_lt_zero i)⟩ (zzP ht hz) hmb hi ?_
 rintro k ⟨hk,hI⟩
 refine JL.all (n:=60) X1 rfl (rOf 88) [1,2,3,7] [0] hN (by kernel_rfl) (by kernel_rfl) (fun v=>v=.bool (z8 n u l j)) (fun v tr zm nx h1 h2 h3 h4=>znj v tr zm nx h1 h2 h3 h4) ?_
 show zFs n m u l j k _ _
 rw[zJs]
 have next:k < n→¬ (u.ch k=true∧xh k l=j)→∀ tr zm,[1,2,3,7].map (zn tr)=u88 l j (k + 1)→[0].map (kb zm)=[some (zU n m u)]→MB (am zm) 1→INV (mOf 88) tr→∃ s',n - s' < n - k∧(s'≤n∧∀ i,i < s'→¬ (u.ch i=true∧xh i l=j))∧atS (mOf 88) (s88 n m u l j s') tr zm:=by
  intro hkn hno tr zm ht hz hmb hi
  refine⟨k + 1,by omega,⟨by omega,fun i hi'=>?_⟩,zzP ht hz⟩
  by_cases e:i=k
  ·rw[e]; exact hno
  ·exact hI i (by omega)
 unfold zy3
 simp only[zo,xr,bf xr,zd,xb,xM,vb,j1,bf j1]
 refine⟨fun hkn=>⟨hkn,fun hc=>⟨⟨by omega,hl⟩,fun e=>?_,fun e=>⟨by show k + 1 < _; omega,next hkn fun h=>e h.2⟩⟩,fun hc=>⟨by show k + 1 < _; omega,next hkn fun h=>by rw[h.1] at hc; cases hc⟩⟩,fun hkn=>?_⟩
 ·congr 1
  exact (@decide_eq_true _ (Classical.propDecidable _) ⟨k,hkn,hc,e⟩).symm
 ·intro tr zm ht hz hmb hi
  show (if (0:Nat)=0 then JL E88 B N (mOf 88) (l88.drop 3) tr zm 1 (Q88 _) else Q88 _ (.exit 0) tr zm 1)
  rw[if_pos rfl]
  refine JL.preS X1 (zzP (n:=n) (m:=m) (u:=u) ht hz) (xL (by kernel_rfl)) ?_
  refine JL.all (n:=60) X1 rfl (rOf 88) [] [] hN (by kernel_rfl) (by kernel_rfl) (fun v=>v=.bool (z8 n u l j)) znj ?_
  show zFt n m u l j k _ _
  rw[zJt]
  congr 1
  refine (@decide_eq_false _ (Classical.propDecidable _) ?_).symm
  rintro⟨i,q1,q2⟩
  exact hI i (by omega) q2
end
noncomputable def zF5:zf:=vp zy2 (fun x=>x.1≤24∧x.2.2.2.1≤2) fun x=>.bool (z8 x.1 x.2.2.1 x.2.2.2.1 x.2.2.2.2)
theorem znk:KCS Tryz.prog 88 zF5:=vV ⟨Tryz.f88,Tryz.func88,by kernel_rfl,by kernel_rfl⟩ fun x h=>j88 h.1 h.2
end
end Go.K
set_option maxRecDepth 100000
namespace Go.K
open Go.Ab Go.RowKit Go.Y Go.Proofs
noncomputable section
attribute [local instance 10000] gO
noncomputable def l26:List Code:=fl (cOf 26)
noncomputable def Yr:Code:=lpB (blB (l26.getD 4 .skip))
noncomputable def zcy:Code:=blB ((fl Yr).getD 2 .skip)
noncomputable def zqt:Code:=lpB (blB ((fl zcy).getD 1 .skip))
noncomputable def E26:KEnv:=EO0.tab [(28,sHt),(81,zFK),(88,zF5)]
theorem XA:KOk E26:=zI.tab ⟨kHt,znc,znk,trivial⟩
noncomputable def ze1 (k:Nat):KV:=@Nat.rec (fun _=>KV) .nils (fun k _=>.row 1 .sc (Nat.succ k)) k
noncomputable def zbd (f:Nat→Nat) (k:Nat):KBlk:=⟨.row 3,.arr k .sc,kAr k (nI 0) fun i=>nI (f i)⟩
noncomputable def zD1 (z:KBlk) (f:Nat→Nat) (k:Nat):List (Nat×KBlk):=@Nat.rec (fun _=>List (Nat×KBlk)) [(0,z)] (fun k _=>[(0,z),(1,zbd f (Nat.succ k))]) k
noncomputable def nxK (k:Nat):Nat:=@Nat.rec (fun _=>Nat) 1 (fun _ _=>2) k
noncomputable def s26 (n m:Nat) (u:Ud) (f:Nat→Nat) (k l:Nat):LS:=([(1,pUd),(3,nI n),(4,ze1 k),(5,nI l)],zD1 (zU n m u) f k,nxK k)
noncomputable def wX (n m:Nat) (u:Ud) (f:Nat→Nat) (k l j:Nat):LS:=([(1,pUd),(3,nI n),(4,ze1 k),(5,nI l),(6,nI j)],zD1 (zU n m u) f k,nxK k)
noncomputable def idA (k:Nat):Nat:=@Nat.rec (fun _=>Nat) 2 (fun _ _=>3) k
noncomputable def liA (k:Nat):List Nat:=@Nat.rec (fun _=>List Nat) [0,2] (fun _ _=>[0,1,3]) k
noncomputable def trI (f:Nat→Nat) (k:Nat):KV:=@Nat.rec (fun _=>KV) .te (fun i t=>xk (nI (f i)) (enc i) t) k
noncomputable def zxw (f:Nat→Nat) (k:Nat) (x:KV):KBlk:=⟨.row 3,.arr (Nat.succ k) .sc,.ar (Nat.succ k) (nI 0) (xk x (enc k) (trI f k))⟩
noncomputable def zN (z:KBlk) (f:Nat→Nat) (k:Nat) (x:KV):List (Option KBlk):=@Nat.rec (fun _=>List (Option KBlk)) [some z,some (zxw f k x)] (fun k' _=>[some z,some ⟨.dead,.arr (Nat.succ k') .sc,.unk⟩,some (zxw f k x)]) k
noncomputable def zE (z:KBlk) (f:Nat→Nat) (k:Nat):List (Option KBlk):=@Nat.rec (fun _=>List (Option KBlk)) [some z,none] (fun k' _=>[some z,some (zbd f (Nat.succ k')),none]) k
noncomputable def liB (k:Nat):List Nat:=@Nat.rec (fun _=>List Nat) [0] (fun _ _=>[0,1]) k
noncomputable def zBk (z:KBlk) (f:Nat→Nat) (k:Nat):List (Option KBlk):=@Nat.rec (fun _=>List (Option KBlk)) [some z] (fun k' _=>[some z,some (zbd f (Nat.succ k'))]) k
noncomputable def zD2 (n m:Nat) (u:Ud) (Q:QT) (R:zl):Prop:=pc E26 26 (l26.take 4) [1,3,4,5] [0] (xd (mOf 26) 0 [uK n m u],[],0) Q fun v _ _=>R v
theorem zH7 (n m:Nat) (u:Ud) (Q:QT) (R:zl):zD2 n m u Q R=Q .normal [pUd,nI n,.nils,nI 0] [some (zU n m u)] 1:=by kernel_rfl
noncomputable def v26 (n k l:Nat):List KV:=[pUd,nI n,ze1 k,nI l]
noncomputable def zxx (n k l j:Nat):List KV:=[pUd,nI n,ze1 k,nI l,nI j]
noncomputable def zD3 (n m:Nat) (u:Ud) (f:Nat→Nat) (k l:Nat) (Q:QT) (R:zl):Prop:=pc E26 26 ((fl Yr).take 2) [1,3,4,5] (liB k) (s26 n m u f k l) Q fun v _ _=>R v
theorem zH8 (n m:Nat) (u:Ud) (f:Nat→Nat) (l:Nat) (Q:QT) (R:zl):∀ k,zD3 n m u f k l Q R=(zD n=true∧alt (leN l (hS n)) (Q .normal (v26 n k l) (zBk (zU n m u) f k) (nxK k)) (Q (.exit 0) (v26 n k l) (zBk (zU n m u) f k) (nxK k)))
 | 0=>by kernel_rfl
 | Nat.succ k=>by kernel_rfl
noncomputable def zD4 (n m:Nat) (u:Ud) (f:Nat→Nat) (k l:Nat) (Q:QT) (R:zl):Prop:=pc E26 26 ((fl zcy).take 1) [1,3,4,5,6] (liB k) (s26 n m u f k l) Q fun v _ _=>R v
theorem zH9 (n m:Nat) (u:Ud) (f:Nat→Nat) (l:Nat) (Q:QT) (R:zl):∀ k,zD4 n m u f k l Q R=Q .normal (zxx n k l 0) (zBk (zU n m u) f k) (nxK k)
 | 0=>by kernel_rfl
 | Nat.succ k=>by kernel_rfl
noncomputable def zD5 (n m:Nat) (u:Ud) (f:Nat→Nat) (k l j:Nat) (Q:QT) (R:zl):Prop:=pc E26 26 ((fl Yr).drop 3) [1,3,4,5] (liB k) (wX n m u f k l j) Q fun v _ _=>R v
theorem zIa (n m:Nat) (u:Ud) (f:Nat→Nat) (l j:Nat) (Q:QT) (R:zl):∀ k,zD5 n m u f k l j Q R=cnd (b63 (Nat.add l 1)) (Q .normal (v26 n k (Nat.add l 1)) (zBk (zU n m u) f k) (nxK k))
 | 0=>by kernel_rfl
 | Nat.succ k=>by kernel_rfl
noncomputable def XB (n m:Nat) (u:Ud) (f:Nat→Nat) (k l j:Nat) (Q:QT) (R:zl):Prop:=pc E26 26 (fl zqt) [1,3,4,5,6] (liA k) (wX n m u f k l j) Q fun v _ _=>R v
noncomputable def w26 (n m:Nat) (u:Ud) (f:Nat→Nat) (k l j:Nat) (Q:QT) (x:KV):Prop:=cnd (b63 (Nat.add j 1)) (Q .normal [pUd,nI n,.row (idA k) .sc (Nat.succ k),nI l,nI (Nat.add j 1)] (zN (zU n m u) f k x) (Nat.succ (idA k)))
noncomputable def f26 (n m:Nat) (u:Ud) (f:Nat→Nat) (k l j:Nat) (Q:QT):Prop:=(zD n=true∧l≤2)∧alt (ltN j (zx n l)) (cnd (ixB (.ofNat k) m) (∃ x:P5u,[uK n m u,nI l,nI j]=zy2 x∧(x.1≤24∧x.2.2.2.1≤2)∧alt (z8 x.1 x.2.2.1 x.2.2.2.1 x.2.2.2.2) (alt (Nat.ble (u.sl (Nat.add 0 k)) 1) (cnd (b63 (Nat.sub 1 (u.sl (Nat.add 0 k)))) (w26 n m u f k l j Q (nI (Nat.sub 1 (u.sl (Nat.add 0 k)))))) (w26 n m u f k l j Q (.int .i64 (yR .i64 (.ofNat 1) (.ofNat (u.sl (Nat.add 0 k))))))) (w26 n m u f k l j Q (nI (u.sl (Nat.add 0 k)))))) (Q (.exit 2) (zxx n k l j) (zE (zU n m u) f k) (nxK k))
theorem zxy (n m:Nat) (u:Ud) (f:Nat→Nat) (l j:Nat) (Q:QT) (R:zl):XB n m u f 0 l j Q R=f26 n m u f 0 l j Q:=by kernel_rfl
theorem zxz (n m:Nat) (u:Ud) (f:Nat→Nat) (l j:Nat) (Q:QT) (R:zl):XB n m u f 1 l j Q R=f26 n m u f 1 l j Q:=by kernel_rfl
theorem zxA (n m:Nat) (u:Ud) (f:Nat→Nat) (l j:Nat) (Q:QT) (R:zl):XB n m u f 2 l j Q R=f26 n m u f 2 l j Q:=by kernel_rfl
theorem zxB (n m:Nat) (u:Ud) (f:Nat→Nat) (l j:Nat) (Q:QT) (R:zl):XB n m u f 3 l j Q R=f26 n m u f 3 l j Q:=by kernel_rfl
theorem zxC (n m:Nat) (u:Ud) (f:Nat→Nat) (l j:Nat) (Q:QT) (R:zl):XB n m u f 4 l j Q R=f26 n m u f 4 l j Q:=by kernel_rfl
theorem zxD (n m:Nat) (u:Ud) (f:Nat→Nat) (l j:Nat) (Q:QT) (R:zl):XB n m u f 5 l j Q R=f26 n m u f 5 l j Q:=by kernel_rfl
theorem zxE (n m:Nat) (u:Ud) (f:Nat→Nat) (l j:Nat) (Q:QT) (R:zl):XB n m u f 6 l j Q R=f26 n m u f 6 l j Q:=by kernel_rfl
theorem zxF (n m:Nat) (u:Ud) (f:Nat→Nat) (l j:Nat) (Q:QT) (R:zl):XB n m u f 7 l j Q R=f26 n m u f 7 l j Q:=by kernel_rfl
theorem zxG (n m:Nat) (u:Ud) (f:Nat→Nat) (l j:Nat) (Q:QT) (R:zl):XB n m u f 8 l j Q R=f26 n m u f 8 l j Q:=by kernel_rfl
theorem zxH (n m:Nat) (u:Ud) (f:Nat→Nat) (l j:Nat) (Q:QT) (R:zl):XB n m u f 9 l j Q R=f26 n m u f 9 l j Q:=by kernel_rfl
theorem zD6 (n m:Nat) (u:Ud) (f:Nat→Nat) (l j:Nat) (Q:QT) (R:zl):∀ k,k < 10→XB n m u f k l j Q R=f26 n m u f k l j Q
 | 0,_=>zxy n m u f l j Q R
 | 1,_=>zxz n m u f l j Q R
 | 2,_=>zxA n m u f l j Q R
 | 3,_=>zxB n m u f l j Q R
 | 4,_=>zxC n m u f l j Q R
 | 5,_=>zxD n m u f l j Q R
 | 6,_=>zxE n m u f l j Q R
 | 7,_=>zxF n m u f l j Q R
 | 8,_=>zxG n m u f l j Q R
 | 9,_=>zxH n m u f l j Q R
 | k + 10,h=>absurd h (by omega)
noncomputable def zD7 (n m:Nat) (u:Ud) (f:Nat→Nat) (k l:Nat) (Q:QT) (R:RT):Prop:=pc E26 26 (l26.drop 5) [] (liB k) (s26 n m u f k l) Q R
theorem zIb (n m:Nat) (u:Ud) (f:Nat→Nat) (l:Nat) (Q:QT) (R:RT):∀ k,zD7 n m u f k l Q R=R (ze1 k) (zBk (zU n m u) f k) (nxK k)
 | 0=>by kernel_rfl
 | Nat.succ k=>by kernel_rfl
end
end Go.K
set_option maxRecDepth 100000
namespace Go.K
open Go.Ab Go.RowKit Go.Y Go.Proofs
noncomputable section
attribute [local instance 10000] gO
theorem yp (n j:Nat):∀ l,zh n l j=j + zh n l 0
 | 0=>rfl
 | l + 1=>by
  show Nat.add (zh n l j) (zx n l)=j + Nat.add (zh n l 0) (zx n l)
  rw[yp n j l]
  show j + zh n l 0 + zx n l=j + (zh n l 0 + zx n l)
  omega
theorem Z9 (n l:Nat):zh n (l + 1) 0=zh n l 0 + zx n l:=rfl
theorem zrK (n l:Nat):zh n l (zx n l)=zh n (l + 1) 0:=by rw[yp,Z9]; omega
theorem zrL {n l j l' j':Nat}(h:isS n l j=true) (h':isS n l' j'=true) (e:zh n l j=zh n l' j'):l=l'∧j=j':=by
 have mono:∀ a b,a≤b→zh n a 0≤zh n b 0:=fun a b hab=>by
  induction b with
  | zero =>
    have:a=0:=by omega
    rw[this]; exact Nat.le_refl _
  | succ b ih =>
   by_cases q:a=b + 1
   ·rw[q]; exact Nat.le_refl _
   ·have:=ih (by omega)
    rw[Z9]; omega
 have h1:=qe.1 h
 have h2:=qe.1 h'
 rw[yp n j l,yp n j' l'] at e
 rcases Nat.lt_trichotomy l l' with q | q | q
 ·have:=mono (l + 1) l' q
  rw[Z9] at this; omega
 ·subst q; exact⟨rfl,by omega⟩
 ·have:=mono (l' + 1) l q
  rw[Z9] at this; omega
theorem zrM {n:Nat}(hn:zD n=true):zi n=zh n (hS n + 1) 0:=by
 show Nat.succ (zh n (hS n) 0)=_
 rw[Z9,(zja hn).2.1]
theorem jK {n:Nat}(hn:zD n=true):zi n≤9:=by
 obtain⟨n1,n2⟩:=zH hn
 obtain⟨k,rfl⟩:∃ k,n=Nat.succ k:=⟨n - 1,by omega⟩
 have hd:∀ m:Fin 24,zi (Nat.succ m.1)≤9:=by decide
 exact hd ⟨k,by omega⟩
theorem zrN {n l:Nat}(hn:zD n=true) (hl:l≤hS n):0 < zx n l:=by
 obtain⟨n1,n2⟩:=zH hn
 obtain⟨k,rfl⟩:∃ k,n=Nat.succ k:=⟨n - 1,by omega⟩
 have hd:∀ m:Fin 24,∀ l:Fin 3,l.1≤hS (Nat.succ m.1)→0 < zx (Nat.succ m.1) l.1:=by decide
 exact hd ⟨k,by omega⟩ ⟨l,by have:=(zja hn).1; omega⟩ hl
noncomputable def xf (n:Nat) (u:Ud) (k:Nat):Nat:=@ite Nat (∃ l j,isS n l j=true∧zh n l j=k∧z8 n u l j=true) (Classical.propDecidable _) (1 - u.sl k) (u.sl k)
theorem ztN {n l j:Nat}{u:Ud}(h:isS n l j=true) (hd:z8 n u l j=true):xf n u (zh n l j)=1 - u.sl (zh n l j):=by
 unfold xf
 rw[if_pos ⟨l,j,h,rfl,hd⟩]
theorem ztO {n l j:Nat}{u:Ud}(h:isS n l j=true) (hd:z8 n u l j=false):xf n u (zh n l j)=u.sl (zh n l j):=by
 unfold xf
 rw[if_neg]
 rintro⟨l',j',q1,q2,q3⟩
 obtain⟨rfl,rfl⟩:=zrL q1 h q2
 rw[hd] at q3; cases q3
theorem zdg {n k:Nat}{u:Ud}(h:u.sl k≤1):xf n u k≤1:=by
 unfold xf
 split<;>omega
section
variable {n m:Nat}{u:Ud}{f:Nat→Nat}{l j:Nat}
theorem rnI {F:List Nat}{ρ:Nat→Nat}{nx k:Nat}{zm:KZ}:RnK F ρ nx zm (some (zbd f k)) (zbd f k) :=
 RnK.mk' rfl rfl (RnB.arr fun i hi=>by
  have e:KV.atv (trI f k) (enc i) (nI 0).v=(nI (f i)).v:=vY (f:=fun i=>nI (f i)) (z:=(nI 0).v) hi
  show RnB _ _ _ _ (KV.atv (trI f k) (enc i) (nI 0).v) (KV.atv (trI f k) (enc i) (nI 0).v)
  rw[e]; exact nfB rfl)
theorem zrO:∀ k,nd (ltL (s26 n m u f k l).2.2 (s26 n m u f k l).2.1) (jB (mOf 26) (s26 n m u f k l).1)=true
 | 0=>by kernel_rfl
 | Nat.succ k=>by kernel_rfl
theorem zeZ:∀ k,nd (ltL (wX n m u f k l j).2.2 (wX n m u f k l j).2.1) (jB (mOf 26) (wX n m u f k l j).1)=true
 | 0=>by kernel_rfl
 | Nat.succ k=>by kernel_rfl
theorem zrP {tr:KTm}{zm:KZ}:∀ k,[1,3,4,5].map (zn tr)=v26 n k l→(liB k).map (kb zm)=zBk (zU n m u) f k→atS (mOf 26) (s26 n m u f k l) tr zm
 | 0,ht,hz=>atS.of (s:=s26 n m u f 0 l) [] id ht hz (by kernel_rfl) ⟨vg (ltk rfl),zC _ rfl,zC _ rfl,zC _ rfl,trivial⟩ ⟨RnK.nf (kbU n m u),trivial⟩
 | Nat.succ k,ht,hz=>atS.of (s:=s26 n m u f (Nat.succ k) l) [] id ht hz (by kernel_rfl) ⟨vg (ltk rfl),zC _ rfl,(RnB.row rfl (ltk rfl)).v,zC _ rfl,trivial⟩ ⟨RnK.nf (kbU n m u),rnI,trivial⟩
theorem ztP {tr:KTm}{zm:KZ}:∀ k,[1,3,4,5,6].map (zn tr)=zxx n k l j→(liB k).map (kb zm)=zBk (zU n m u) f k→atS (mOf 26) (wX n m u f k l j) tr zm
 | 0,ht,hz=>atS.of (s:=wX n m u f 0 l j) [] id ht hz (by kernel_rfl) ⟨vg (ltk rfl),zC _ rfl,zC _ rfl,zC _ rfl,zC _ rfl,trivial⟩ ⟨RnK.nf (kbU n m u),trivial⟩
 | Nat.succ k,ht,hz=>atS.of (s:=wX n m u f (Nat.succ k) l j) [] id ht hz (by kernel_rfl) ⟨vg (ltk rfl),zC _ rfl,(RnB.row rfl (ltk rfl)).v,zC _ rfl,zC _ rfl,trivial⟩ ⟨RnK.nf (kbU n m u),rnI,trivial⟩
noncomputable def zfP (k i:Nat):Nat:=@Nat.rec (fun _=>Nat) 0 (fun _ _=>idA k) i
theorem ztQ {tr:KTm}{zm:KZ}:∀ k,[1,3,4,5,6].map (zn tr)=[pUd,nI n,.row (idA k) .sc (Nat.succ k),nI l,nI j]→(liA k).map (kb zm)=zN (zU n m u) f k (nI (f k))→atS (mOf 26) (wX n m u f (Nat.succ k) l j) tr zm
 | 0,ht,hz=>atS.of (s:=wX n m u f 1 l j) [] (zfP 0) ht hz (by kernel_rfl) ⟨(show RnB (am zm) [] (zfP 0) 2 (V.ptr 0 [] shU) (V.ptr 0 [] shU) from RnB.ptr rfl (ltk rfl)).v,(nfB rfl).v,(show RnB (am zm) [] (zfP 0) 2 (V.row 2 .sc _) (V.row 1 .sc _) from RnB.row rfl (ltk rfl)).v,(nfB rfl).v,(nfB rfl).v,trivial⟩ ⟨RnK.nf (kbU n m u),rnI,trivial⟩
 | Nat.succ k,ht,hz=>atS.of (s:=wX n m u f (Nat.succ (Nat.succ k)) l j) [] (zfP (Nat.succ k)) (os:=[some (zU n m u),some (zbd f (Nat.succ (Nat.succ k)))]) ht (by
   have h0:kb zm 0=some (zU n m u):=congrArg (fun l=>l.getD 0 none) hz
   have h2:kb zm 3=some (zxw f (Nat.succ k) (nI (f (Nat.succ k)))):=congrArg (fun l=>l.getD 2 none) hz
   show [kb zm 0,kb zm 3]=_
   rw[h0,h2]; rfl) (by kernel_rfl) ⟨(show RnB (am zm) [] (zfP (Nat.succ k)) 2 (V.ptr 0 [] shU) (V.ptr 0 [] shU) from RnB.ptr rfl (ltk rfl)).v,(nfB rfl).v,(show RnB (am zm) [] (zfP (Nat.succ k)) 2 (V.row 3 .sc _) (V.row 1 .sc _) from RnB.row rfl (ltk rfl)).v,(nfB rfl).v,(nfB rfl).v,trivial⟩ ⟨RnK.nf (kbU n m u),rnI,trivial⟩
end
end
end Go.K
set_option maxRecDepth 100000
namespace Go.K
open Go.Ab Go.RowKit Go.Y Go.Proofs
noncomputable section
attribute [local instance 10000] gO
attribute [local irreducible] kpre cOf mOf rOf JL zp l26 Yr zcy zqt zh hS zi zx xh
theorem zG9:Tryz.f26.ntmps=41:=by kernel_rfl
theorem zHa:Tryz.f26.results.toList=rOf 26:=by kernel_rfl
theorem zHb:fl (cOf 26)=l26:=by kernel_rfl
noncomputable def jc (n m:Nat) (u:Ud):KV:=roK .sc m fun i=>nI (xf n u i)
section
variable {n m:Nat}{u:Ud}{B N:Nat}
noncomputable abbrev Q26 (n m:Nat) (u:Ud):K4:=retJ E26 Tryz.f26 false (jc n m u)
theorem zBQ (v:KV) (tr:KTm) (zm:KZ) (nx:Nat) (h:False) (h1:MB (am zm) nx) (h2:INV (mOf 26) tr) (hr:RAll Tryz.prog (tv' (zn tr)) (am zm) (rOf 26) v.v):Q26 n m u .ret tr zm nx:=h.elim
theorem zHc {z:KBlk}{f:Nat→Nat}{zm:KZ}:∀ k,(liA k).map (kb zm)=zE z f k→(liB k).map (kb zm)=zBk z f k
 | 0,h=>by
  have h0:kb zm 0=some z:=congrArg (fun l=>l.getD 0 none) h
  show [kb zm 0]=_
  rw[h0]; rfl
 | Nat.succ k,h=>by
  have h0:kb zm 0=some z:=congrArg (fun l=>l.getD 0 none) h
  have h1:kb zm 1=some (zbd f (Nat.succ k)):=congrArg (fun l=>l.getD 1 none) h
  show [kb zm 0,kb zm 1]=_
  rw[h0,h1]; rfl
theorem zsG {f:Nat→Nat}{q l j:Nat}{Q:QT}{x:KV}(hj:j + 1 < 9223372036854775808) (hx:x=nI (f q)) (h:Q .normal [pUd,nI n,.row (idA q) .sc (Nat.succ q),nI l,nI (Nat.add j 1)] (zN (zU n m u) f q (nI (f q))) (Nat.succ (idA q))):w26 n m u f q l j Q x:=by
 subst hx
 exact zd.2 ⟨xb.2 hj,h⟩
theorem j26 (H:UOk n m u):JFn Tryz.prog 26 false [uK n m u] (jc n m u):=by
 have leN_t:∀ {a b:Nat},leN a b=true↔a≤b:=wc
 have hh:=zja H.n24
 have h9:=jK H.n24
 have htot:=zrM H.n24
 have hm:m=zi n:=H.tot
 obtain⟨n1,n2⟩:=zH H.n24
 refine JFn.of (P:=Tryz.prog) XA rfl (c:=cOf 26) (mOf 26) Tryz.func26 (by kernel_rfl) fun B N hN=>?_
 rw[zG9] at hN
 rw[zHb]
 refine JL.stp (n:=60) (s:=(xd (mOf 26) 0 [uK n m u],[],0)) XA rfl 4 (rOf 26) [1,3,4,5] [0] hN (by kernel_rfl) (by kernel_rfl) (fun v=>False) zBQ ?_
 show zD2 n m u _ _
 rw[zH7]
 intro tr zm ht hz hmb hi
 refine JL.loopT XA (fun l=>s26 n m u (xf n u) (zh n l 0) l) (fun l=>4 - l) (fun l=>l≤hS n + 1) (id:=0) (b:=Yr) (l2:=l26.drop 5) (by kernel_rfl) (fun w=>zrO _) 0 (Nat.zero_le _) ?_ hmb hi ?_
 ·have e0:zh n 0 0=0:=by unfold zh; rfl
  rw[e0]
  exact zrP 0 ht hz
 intro l hl
 show JL E26 B N (mOf 26) (fl Yr) (vo (s26 n m u (xf n u) (zh n l 0) l).1) (vO (s26 n m u (xf n u) (zh n l 0) l).2.1) (s26 n m u (xf n u) (zh n l 0) l).2.2 _
 generalize hk0:zh n l 0=k
 refine JL.stp (n:=60) XA rfl 2 (rOf 26) [1,3,4,5] (liB k) hN (by kernel_rfl) (zrO k) (fun v=>False) (fun v tr zm nx h1 h2 h3 h4=>h1.elim) ?_
 show zD3 n m u (xf n u) k l _ _
 rw[zH8]
 refine⟨H.n24,?_⟩
 simp only[zo,leN_t,bf leN_t]
 refine⟨fun hlh=>?_,fun hlh=>?_⟩
 ·intro tr zm ht hz hmb hi
  show JL E26 B N (mOf 26) ((fl Yr).drop 2) tr zm (nxK k) _
  refine JL.blk (id:=1) (X:=zcy) (l2:=(fl Yr).drop 3) (by kernel_rfl) hmb hi ?_
  refine JL.preS XA (zrP (n:=n) (m:=m) (u:=u) k ht hz) (xL (by kernel_rfl)) ?_
  refine JL.stp (n:=60) XA rfl 1 (rOf 26) [1,3,4,5,6] (liB k) hN (by kernel_rfl) (zrO k) (fun v=>False) (fun v tr zm nx h1 h2 h3 h4=>h1.elim) ?_
  show zD4 n m u (xf n u) k l _ _
  rw[zH9]
  intro tr zm ht hz hmb hi
  show JL E26 B N (mOf 26) ((fl zcy).drop 1) tr zm (nxK k) _
  refine JL.loopT XA (fun j=>wX n m u (xf n u) (zh n l j) l j) (fun j=>zx n l - j) (fun j=>j≤zx n l) (id:=2) (b:=zqt) (l2:=(fl zcy).drop 2) (by kernel_rfl) (fun w=>zeZ _) 0 (Nat.zero_le _) ?_ hmb hi ?_
  ·rw[hk0]
   exact ztP k ht hz
  intro j hj
  show JL E26 B N (mOf 26) (fl zqt) (vo (wX n m u (xf n u) (zh n l j) l j).1) (vO (wX n m u (xf n u) (zh n l j) l j).2.1) (wX n m u (xf n u) (zh n l j) l j).2.2 _
  by_cases hjc:j < zx n l
  ·have hpl:isS n l j=true:=qe.2 hjc
   have hj6:=(xg H.n24 hpl).2
   have hlt:=qY H.n24 hpl
   have hnj:zh n l (j + 1)=zh n l j + 1:=by rw[yp n (j + 1) l,yp n j l]; omega
   have hT:=fun hd=>ztN (u:=u) hpl hd
   have hF:=fun hd=>ztO (u:=u) hpl hd
   have hsl:=H.sl (zh n l j) (by omega)
   revert hlt hnj hT hF hsl
   generalize zh n l j=q
   intro hlt hnj hT hF hsl
   refine JL.all (n:=60) XA rfl (rOf 26) [1,3,4,5,6] (liA q) hN (by kernel_rfl) (zeZ q) (fun v=>False) (fun v tr zm nx h1 h2 h3 h4=>h1.elim) ?_
   show XB n m u (xf n u) q l j _ _
   rw[zD6 _ _ _ _ _ _ _ _ q (by omega)]
   refine⟨⟨H.n24,by omega⟩,?_⟩
   simp only[zo,xr,bf xr,zd,xM]
   refine⟨fun _=>⟨by omega,⟨(n,m,u,l,j),rfl,⟨by show n≤24; omega,by show l≤2; omega⟩,?_⟩⟩,fun h=>absurd hjc h⟩
   refine⟨fun hd=>⟨fun h1=>⟨?_,?_⟩,fun h1=>?_⟩,fun hd=>?_⟩
   ·rw[xb]
    show 1 - u.sl (Nat.add 0 q) < _
    omega
   ·refine zsG (by omega) ?_ ?_
    ·rw[hT hd,vb]; rfl
    ·intro tr zm ht hz hmb hi
     refine⟨j + 1,by omega,by omega,?_⟩
     show atS (mOf 26) (wX n m u (xf n u) (zh n l (j + 1)) l (j + 1)) tr zm
     rw[hnj]; exact ztQ q ht hz
   ·rw[vb] at h1
    have:Nat.ble (u.sl q) 1=true:=Nat.ble_eq_true_of_le hsl
    rw[this] at h1; cases h1
   ·refine zsG (by omega) ?_ ?_
    ·rw[hF hd,vb]
    ·intro tr zm ht hz hmb hi
     refine⟨j + 1,by omega,by omega,?_⟩
     show atS (mOf 26) (wX n m u (xf n u) (zh n l (j + 1)) l (j + 1)) tr zm
     rw[hnj]; exact ztQ q ht hz
  ·have hq:zh n l j=zh n (l + 1) 0:=by rw[←zrK,show j=zx n l by omega]
   have hq9:zh n (l + 1) 0≤9:=by
    have:∀ a,a≤hS n→zh n (a + 1) 0≤zi n:=fun a ha=>by
     by_cases e:a=hS n
     ·rw[e,←htot]; exact Nat.le_refl _
     ·have q1:isS n (a + 1) 0=true:=qe.2 (by
       have:=zrN (n:=n) H.n24 (l:=a + 1) (by omega); omega)
      exact Nat.le_of_lt (qY H.n24 q1)
    have:=this l hlh
    omega
   rw[hq]
   revert hq9
   generalize hq1:zh n (l + 1) 0=q
   intro hq9
   refine JL.all (n:=60) XA rfl (rOf 26) [1,3,4,5,6] (liA q) hN (by kernel_rfl) (zeZ q) (fun v=>False) (fun v tr zm nx h1 h2 h3 h4=>h1.elim) ?_
   show XB n m u (xf n u) q l j _ _
   rw[zD6 _ _ _ _ _ _ _ _ q (by omega)]
   refine⟨⟨H.n24,by omega⟩,?_⟩
   simp only[zo,xr,bf xr,zd,xM]
   refine⟨fun h=>absurd h hjc,fun _=>?_⟩
   intro tr zm ht hz hmb hi
   show (if (2:Nat)=2 then JL E26 B N (mOf 26) ((fl zcy).drop 2) tr zm (nxK q) _ else _)
   rw[if_pos rfl]
   refine zjb (by kernel_rfl) ?_
   show JL E26 B N (mOf 26) ((fl Yr).drop 3) tr zm (nxK q) _
   refine JL.preS XA (ztP (n:=n) (m:=m) (u:=u) q ht (zHc q hz)) (xL (by kernel_rfl)) ?_
   refine JL.all (n:=60) XA rfl (rOf 26) [1,3,4,5] (liB q) hN (by kernel_rfl) (zeZ q) (fun v=>False) (fun v tr zm nx h1 h2 h3 h4=>h1.elim) ?_
   show zD5 n m u (xf n u) q l j _ _
   rw[zIa]
   simp only[zd,xb]
   refine⟨by show l + 1 < _; omega,?_⟩
   intro tr zm ht hz hmb hi
   refine⟨l + 1,by omega,by omega,?_⟩
   rw[hq1]
   exact zrP q ht hz
 ·intro tr zm ht hz hmb hi
  show (if (0:Nat)=0 then JL E26 B N (mOf 26) (l26.drop 5) tr zm (nxK k) (Q26 n m u) else Q26 n m u (.exit 0) tr zm (nxK k))
  rw[if_pos rfl]
  refine JL.preS XA (zrP (n:=n) (m:=m) (u:=u) k ht hz) (xL (by kernel_rfl)) ?_
  have hkm:k=m:=by
   rw[hm,htot,←hk0,show l=hS n + 1 by omega]
  obtain⟨k',rfl⟩:∃ k',k=Nat.succ k':=⟨k - 1,by
   have:zi n=Nat.succ (zh n (hS n) 0):=by unfold zi; rfl
   omega⟩
  have:=JL.goR (B:=B) (N:=N) (mask:=mOf 26) (l1:=l26.drop 5) (l2:=[]) (Q:=Q26 n m u) (n:=60) XA rfl (rOf 26) [] (liB (Nat.succ k')) (lt0:=(s26 n m u (xf n u) (Nat.succ k') l).1) (lz0:=(s26 n m u (xf n u) (Nat.succ k') l).2.1) (n0:=(s26 n m u (xf n u) (Nat.succ k') l).2.2) hN (by kernel_rfl) (zrO (Nat.succ k')) ?_
  ·rwa [List.append_nil] at this
  ·show zD7 n m u (xf n u) (Nat.succ k') l _ _
   rw[zIb]
   intro tr zm hz hmb hi hr
   refine retJ.mk rfl zHa ?_ hr
   have h1:kb zm 1=some (zbd (xf n u) (Nat.succ k')):=congrArg (fun l=>l.getD 1 none) hz
   show FzP false zm (.row 1 .sc (Nat.succ k')) (.ro true false .sc 0 m (.fa m fun i=>nI (xf n u i)))
   rw[←hkm]
   refine FzP.row h1 rfl rfl fun i hi B C M h3 h4 mm hm=>?_
   have e:KV.atv (trI (xf n u) (Nat.succ k')) (enc i) (nI 0).v=(nI (xf n u i)).v:=vY (f:=fun i=>nI (xf n u i)) (z:=(nI 0).v) hi
   have hm':R C (KV.atv (trI (xf n u) (Nat.succ k')) (enc i) (nI 0).v) mm:=hm
   rw[e] at hm'
   exact R.noref _ rfl hm'
end
noncomputable def zBR:zf:=vp (fun x:Nat×Nat×Ud=>[uK x.1 x.2.1 x.2.2]) (fun x=>UOk x.1 x.2.1 x.2.2) fun x=>jc x.1 x.2.1 x.2.2
theorem zfz:KCS Tryz.prog 26 zBR:=vV ⟨Tryz.f26,Tryz.func26,by kernel_rfl,by kernel_rfl⟩ fun x h=>j26 h
end
end Go.K
set_option maxRecDepth 100000
namespace Go.K
open Go.Ab Go.RowKit Go.Y Go.Proofs
noncomputable section
attribute [local instance 10000] gO
noncomputable def emS (n:Nat) (rc:Nat→Rc) (l j:Nat):Bool:=@decide (¬ ∃ i,i < n∧xh i l=j∧(rc i).st≠0) (Classical.propDecidable _)
noncomputable def xU (n:Nat) (rc:Nat→Rc):KV:=roK xy n fun i=>(rc i).k
abbrev P4e:=Nat×(Nat→Rc)×Nat×Nat
noncomputable def zyC (x:P4e):List KV:=[xU x.1 x.2.1,nI x.2.2.1,nI x.2.2.2]
noncomputable def l46:List Code:=fl (cOf 46)
noncomputable def b46:Code:=lpB (blB (l46.getD 2 .skip))
noncomputable def zEW (n:Nat) (rc:Nat→Rc) (l j:Nat) (Q:QT) (R:zl):Prop:=pc E88 46 (l46.take 2) [0,1,2,7] [] (xd (mOf 46) 0 (zyC (n,rc,l,j)),[],0) Q fun v _ _=>R v
noncomputable def u46 (n:Nat) (rc:Nat→Rc) (l j k:Nat):List KV:=[xU n rc,nI l,nI j,nI k]
noncomputable def s46 (n:Nat) (rc:Nat→Rc) (l j k:Nat):LS:=([(0,xU n rc),(1,nI l),(2,nI j),(7,nI k)],[],0)
theorem zI2 (n:Nat) (rc:Nat→Rc) (l j:Nat) (Q:QT) (R:zl):zEW n rc l j Q R=Q .normal (u46 n rc l j 0) [] 0:=by kernel_rfl
noncomputable def zEX (n:Nat) (rc:Nat→Rc) (l j k:Nat) (Q:QT) (R:zl):Prop:=pc E88 46 (fl b46) [0,1,2,7] [] (s46 n rc l j k) Q fun v _ _=>R v
noncomputable def zyD (n:Nat) (rc:Nat→Rc) (l j k:Nat) (Q:QT):Prop:=cnd (b63 (Nat.add k 1)) (Q .normal (u46 n rc l j (Nat.add k 1)) [] 0)
theorem zI3 (n:Nat) (rc:Nat→Rc) (l j k:Nat) (Q:QT) (R:zl):zEX n rc l j k Q R=alt (ltN k n) ((k < 24∧l≤2)∧alt (eqN (xh k l) j) (cnd (ixB (.ofNat k) n) (alt (!eZ (rc (Nat.add 0 k)).st) (R (.bool false)) (zyD n rc l j k Q))) (zyD n rc l j k Q)) (Q (.exit 0) (u46 n rc l j k) [] 0):=by kernel_rfl
noncomputable def zEY (n:Nat) (rc:Nat→Rc) (l j k:Nat) (Q:QT) (R:zl):Prop:=pc E88 46 (l46.drop 3) [] [] (s46 n rc l j k) Q fun v _ _=>R v
theorem zI4 (n:Nat) (rc:Nat→Rc) (l j k:Nat) (Q:QT) (R:zl):zEY n rc l j k Q R=R (.bool true):=by kernel_rfl
attribute [local irreducible] kpre cOf mOf rOf JL zp l46 b46 zh hS zi zx xh
theorem zI5:Tryz.f46.ntmps=27:=by kernel_rfl
theorem zI6:Tryz.f46.results.toList=rOf 46:=by kernel_rfl
theorem zI7:fl (cOf 46)=l46:=by kernel_rfl
section
variable {n:Nat}{rc:Nat→Rc}{l j:Nat}{B N:Nat}{a:Bool}
noncomputable abbrev Q46 (a:Bool):K4:=retJ E88 Tryz.f46 false (.bool a)
theorem zlr (v:KV) (tr:KTm) (zm:KZ) (nx:Nat) (h:v=.bool a) (h1:MB (am zm) nx) (h2:INV (mOf 46) tr) (hr:RAll Tryz.prog (tv' (zn tr)) (am zm) (rOf 46) v.v):Q46 a .ret tr zm nx:=by
 subst h
 exact retJ.mk rfl zI6 (FzP.noref rfl) hr
theorem zyE {k:Nat}{tr:KTm}{zm:KZ}(ht:[0,1,2,7].map (zn tr)=u46 n rc l j k) (hz:([]:List Nat).map (kb zm)=[]):atS (mOf 46) (s46 n rc l j k) tr zm :=
 atS.of (s:=s46 n rc l j k) [] id ht hz (by kernel_rfl) ⟨zC _ rfl,zC _ rfl,zC _ rfl,zC _ rfl,trivial⟩ trivial
theorem j46 (hn:n≤24) (hl:l≤2):JFn Tryz.prog 46 false [xU n rc,nI l,nI j] (.bool (emS n rc l j)):=by
 refine JFn.of (P:=Tryz.prog) X1 rfl (c:=cOf 46) (mOf 46) Tryz.func46 (by kernel_rfl) fun B N hN=>?_
 rw[zI5] at hN
 rw[zI7]
 refine JL.stp (n:=60) (s:=(xd (mOf 46) 0 [xU n rc,nI l,nI j],[],0)) X1 rfl 2 (rOf 46) [0,1,2,7] [] hN (by kernel_rfl) (by kernel_rfl) (fun v=>v=.bool (emS n rc l j)) zlr ?_
 show zEW n rc l j _ _
 rw[zI2]
 intro tr zm ht hz hmb hi
 refine JL.loopT X1 (fun k=>s46 n rc l j k) (fun k=>n - k) (fun k=>k≤n∧∀ i,i < k→¬ (xh i l=j∧(rc i).st≠0)) (id:=0) (b:=b46) (l2:=l46.drop 3) (by kernel_rfl) (fun w=>by kernel_rfl) 0 ⟨by omega,fun i hi=>absurd hi (Nat.not_lt_zero i)⟩ (zyE ht hz) hmb hi ?_
 rintro k ⟨hk,hI⟩
 refine JL.all (n:=60) X1 rfl (rOf 46) [0,1,2,7] [] hN (by kernel_rfl) (by kernel_rfl) (fun v=>v=.bool (emS n rc l j)) (fun v tr zm nx h1 h2 h3 h4=>zlr v tr zm nx h1 h2 h3 h4) ?_
 show zEX n rc l j k _ _
 rw[zI3]
 have next:k < n→¬ (xh k l=j∧(rc k).st≠0)→∀ tr zm,[0,1,2,7].map (zn tr)=u46 n rc l j (k + 1)→([]:List Nat).map (kb zm)=[]→MB (am zm) 0→INV (mOf 46) tr→∃ s',n - s' < n - k∧(s'≤n∧∀ i,i < s'→¬ (xh i l=j∧(rc i).st≠0))∧atS (mOf 46) (s46 n rc l j s') tr zm:=by
  intro hkn hno tr zm ht hz hmb hi
  refine⟨k + 1,by omega,⟨by omega,fun i hi'=>?_⟩,zyE ht hz⟩
  by_cases e:i=k
  ·rw[e]; exact hno
  ·exact hI i (by omega)
 unfold zyD
 simp only[zo,xr,bf xr,zd,xb,xM,vb,j1,bf j1,Bool.not_eq_true',Bool.not_eq_false',bf jp,jp]
 refine⟨fun hkn=>⟨⟨by omega,hl⟩,fun e=>⟨hkn,fun hc=>?_,fun hc=>⟨by show k + 1 < _; omega,next hkn fun h=>h.2 hc⟩⟩,fun e=>⟨by show k + 1 < _; omega,next hkn fun h=>e h.1⟩⟩,fun hkn=>?_⟩
 ·congr 1
  exact (@decide_eq_false _ (Classical.propDecidable _) fun h=>h ⟨k,hkn,e,hc⟩).symm
 ·intro tr zm ht hz hmb hi
  show (if (0:Nat)=0 then JL E88 B N (mOf 46) (l46.drop 3) tr zm 0 (Q46 _) else Q46 _ (.exit 0) tr zm 0)
  rw[if_pos rfl]
  refine JL.preS X1 (zyE (n:=n) (rc:=rc) ht hz) (xL (by kernel_rfl)) ?_
  refine JL.all (n:=60) X1 rfl (rOf 46) [] [] hN (by kernel_rfl) (by kernel_rfl) (fun v=>v=.bool (emS n rc l j)) zlr ?_
  show zEY n rc l j k _ _
  rw[zI4]
  congr 1
  refine (@decide_eq_true _ (Classical.propDecidable _) ?_).symm
  rintro⟨i,q1,q2⟩
  exact hI i (by omega) q2
end
noncomputable def zyF:zf:=vp zyC (fun x=>x.1≤24∧x.2.2.1≤2) fun x=>.bool (emS x.1 x.2.1 x.2.2.1 x.2.2.2)
theorem zEZ:KCS Tryz.prog 46 zyF:=vV ⟨Tryz.f46,Tryz.func46,by kernel_rfl,by kernel_rfl⟩ fun x h=>j46 h.1 h.2
end
end Go.K
set_option maxRecDepth 100000
namespace Go.K
open Go.Ab Go.RowKit Go.Y Go.Proofs
noncomputable section
attribute [local instance 10000] gO
noncomputable def qz (m:Nat) (f:Nat→Nat):KV:=roK .sc m fun i=>nI (f i)
noncomputable def E44 (s:zf):KEnv:=EO0.tab [(117,zv4),(46,zyF),(82,zo4),(55,Q6),(44,s)]
noncomputable def r44 (s:zf) (n m:Nat) (rc:Nat→Rc) (now:Nat→Nat) (l j:Nat) (K:KV→Prop):Prop:=zk (E44 s) (zp (E44 s) 200) 0 44 [xU n rc,qz m now,nI l,nI j] .e 0 0 fun r _ _ _=>K r
noncomputable def z0N (j:Nat) (l:Nat) (T U:KV):KV:=.cons (kU8 l) (.cons (ZR j) (.cons (.ar 4 rcZ T) (.cons (.ar 4 enZ U) .nl)))
noncomputable def zH1 (n l j w:Nat) (e x:Prop):Prop:=(zD n=true∧isS n l j=true)∧alt (ltN w (zq n l j)) x e
noncomputable def tr0 (rc:Nat→Rc) (j w:Nat):KV:=@Nat.rec (fun _=>KV) .te (fun i t=>xk (rc (Nat.add 0 (Nat.add (Nat.mul 4 j) i))).k (enc i) t) w
noncomputable def st0 (n:Nat) (rc:Nat→Rc) (j:Nat) (K:KV→Prop) (w:Nat) (x:Prop):Prop:=zH1 n 0 j w (K (z0N j 0 (tr0 rc j w) .te)) (cnd (ixB (.ofNat (Nat.add (Nat.mul 4 j) w)) n) x)
noncomputable def za7 (n:Nat) (rc:Nat→Rc) (j:Nat) (K:KV→Prop):Prop:=st0 n rc j K 0 (st0 n rc j K 1 (st0 n rc j K 2 (st0 n rc j K 3 (st0 n rc j K 4 False))))
theorem zxi (s:zf) (n m:Nat) (rc:Nat→Rc) (now:Nat→Nat) (K:KV→Prop):r44 s n m rc now 0 0 K=za7 n rc 0 K:=by kernel_rfl
theorem zxj (s:zf) (n m:Nat) (rc:Nat→Rc) (now:Nat→Nat) (K:KV→Prop):r44 s n m rc now 0 1 K=za7 n rc 1 K:=by kernel_rfl
theorem zxk (s:zf) (n m:Nat) (rc:Nat→Rc) (now:Nat→Nat) (K:KV→Prop):r44 s n m rc now 0 2 K=za7 n rc 2 K:=by kernel_rfl
theorem zxl (s:zf) (n m:Nat) (rc:Nat→Rc) (now:Nat→Nat) (K:KV→Prop):r44 s n m rc now 0 3 K=za7 n rc 3 K:=by kernel_rfl
theorem zxm (s:zf) (n m:Nat) (rc:Nat→Rc) (now:Nat→Nat) (K:KV→Prop):r44 s n m rc now 0 4 K=za7 n rc 4 K:=by kernel_rfl
theorem zxn (s:zf) (n m:Nat) (rc:Nat→Rc) (now:Nat→Nat) (K:KV→Prop):r44 s n m rc now 0 5 K=za7 n rc 5 K:=by kernel_rfl
abbrev P6:=Nat×Nat×(Nat→Rc)×(Nat→Nat)×Nat×Nat
noncomputable def zxX (x:P6):List KV:=[xU x.1 x.2.2.1,qz x.2.1 x.2.2.2.1,nI x.2.2.2.2.1,nI x.2.2.2.2.2]
noncomputable def sNo (nd:P6→Nd) (pre:P6→Prop):zf:=vp zxX pre fun x=>(nd x).k
noncomputable def zIt (nd:P6→Nd) (pre:P6→Prop) (n m:Nat) (rc:Nat→Rc) (now:Nat→Nat) (k c w:Nat) (U:KV) (X:KV→Prop):Prop :=
 (zD n=true∧k≤2∧c < 4294967296)∧cnd (ixB (.ofNat (zh n k c)) m) (cnd (b63 (Nat.add (now (Nat.add 0 (zh n k c))) 1)) (∃ x:P6,[xU n rc,qz m now,nI k,nI c]=zxX x∧pre x∧(zlp (nd x).nf∧X (xk (.cons (kU8 (Nat.mod (Nat.add (now (Nat.add 0 (zh n k c))) 1) 256)) (.cons (kBy 32 (nN (nd x).nf.dg)) .nl)) (enc w) U))))
noncomputable def zbf (nd:P6→Nd) (pre:P6→Prop) (n m:Nat) (rc:Nat→Rc) (now:Nat→Nat) (k j p:Nat) (K:KV→Prop) (rem:Nat):Nat→KV→Prop :=
 @Nat.rec (fun _=>Nat→KV→Prop) (fun w U=>((zD n=true∧isS n (Nat.succ k) j=true)∧zq n (Nat.succ k) j=p)∧K (z0N j (Nat.succ k) .te U))
  (fun _ ih w U=>((zD n=true∧isS n (Nat.succ k) j=true)∧zq n (Nat.succ k) j=p)∧∃ x:P4e,[xU n rc,nI k,nI (Nat.add (Nat.mul 4 j) w)]=zyC x∧(x.1≤24∧x.2.2.1≤2)∧alt (!(emS x.1 x.2.1 x.2.2.1 x.2.2.2)) (zIt nd pre n m rc now k (Nat.add (Nat.mul 4 j) w) w U fun U'=>ih (Nat.succ w) U') (ih (Nat.succ w) U)) rem
noncomputable def zEm (p:Nat):zf:=fun l K=>on3 l fun n l i=>((zD n=true∧isS n l i=true)∧zq n l i=p)∧K (nI p)
theorem zIu (p:Nat):KCS Tryz.prog 117 (zEm p):=zw5.imp fun l K h=>by
 obtain⟨n,l,i,rfl,⟨h1,h2⟩,h4⟩:=Jv h
 subst h2
 exact⟨h1,h4⟩
noncomputable def zfF (p:Nat) (s:zf):KEnv:=EO0.tab [(117,zEm p),(46,zyF),(82,zo4),(55,Q6),(44,s)]
noncomputable def zfG (p:Nat) (s:zf) (n m:Nat) (rc:Nat→Rc) (now:Nat→Nat) (l j:Nat) (K:KV→Prop):Prop:=zk (zfF p s) (zp (zfF p s) 200) 0 44 [xU n rc,qz m now,nI l,nI j] .e 0 0 fun r _ _ _=>K r
theorem zoG (nd:P6→Nd) (pre:P6→Prop) (n m:Nat) (rc:Nat→Rc) (now:Nat→Nat) (K:KV→Prop):zfG 2 (sNo nd pre) n m rc now 1 0 K=zbf nd pre n m rc now 0 0 2 K 2 0 .te:=by kernel_rfl
theorem zoH (nd:P6→Nd) (pre:P6→Prop) (n m:Nat) (rc:Nat→Rc) (now:Nat→Nat) (K:KV→Prop):zfG 3 (sNo nd pre) n m rc now 1 0 K=zbf nd pre n m rc now 0 0 3 K 3 0 .te:=by kernel_rfl
theorem zoI (nd:P6→Nd) (pre:P6→Prop) (n m:Nat) (rc:Nat→Rc) (now:Nat→Nat) (K:KV→Prop):zfG 1 (sNo nd pre) n m rc now 1 1 K=zbf nd pre n m rc now 0 1 1 K 1 0 .te:=by kernel_rfl
end
end Go.K
