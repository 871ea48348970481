/- caissonref16.Node above the records: the runs. No condition. -/
import Derived.Test.YtkllahedaiddgaaGreatDoorPG2
set_option linter.unusedSimpArgs false
set_option linter.unusedVariables false
set_option maxRecDepth 100000
namespace Go.K
open Go.Ab Go.RowKit Go.Y Go.Proofs
noncomputable section
attribute [local instance 10000] gO
theorem zxQ (S:Nat→Prop) (c:Nat→Un) (a:Nat):j6 S 0 c a true=j6 S 0 c a false:=by kernel_rfl
theorem zyy (S:Nat→Prop) (c:Nat→Un) (a:Nat):j6 S 6 c a true=j6 S 6 c a false:=by kernel_rfl
theorem zxe (S:Nat→Prop) (c:Nat→Un) (a:Nat):j6 S 12 c a true=j6 S 12 c a false:=by kernel_rfl
theorem zyJ (S:Nat→Prop) (c:Nat→Un) (a:Nat):j6 S 18 c a true=j6 S 18 c a false:=by kernel_rfl
theorem ziQ (lay:KV) (a:Nat):rV lay a a:=by
 show tK (nd (nd (xq .i64 .i64) (Nat.beq a a)) true)
 rw[Nat.beq_refl]; trivial
theorem ziR {z:Int}:zfK z=true↔¬ (z=0∨z=1):=by
 unfold zfK zdp zgf
 rw[za,jx,jx]
 simp [not_or]
theorem zvt {n:Nat}{x:Nd}(h:x.fe n=0):x.ok:=by
 refine Classical.byContradiction fun hk=>?_
 unfold Nd.fe at h
 rw[if_neg hk] at h
 cases h
noncomputable def chQ (lay:KV) (n m:Nat) (c:Nat→Un) (a:Nat) (l:List (Nat×Nat)) (q:Prop):Prop:=@List.rec (Nat×Nat) (fun _=>Prop) q (fun p _ ih=>@Prod.rec Nat Nat (fun _=>Prop) (fun l j=>stV lay n m c a l j ih) p) l
theorem zcA (lay:KV) (n m:Nat) (c:Nat→Un) (a:Nat) (m':List (Nat×Nat)) (q:Prop):∀ l:List (Nat×Nat),chQ lay n m c a (apP l m') q=chQ lay n m c a l (chQ lay n m c a m' q)
 | []=>rfl
 | p::l=>by
  show (@Prod.rec Nat Nat (fun _=>Prop) (fun l' j=>stV lay n m c a l' j (chQ lay n m c a (apP l m') q)) p)=_
  rw[zcA lay n m c a m' q l]
  rfl
section
variable {n m a:Nat}{c:Nat→Un}
theorem zAz {q:Prop}(H:TrOk0 n m c) (hs:j9 m c) (hc:IsChk n m c a) {l j:Nat}(hp:isS n l j=true) (hu:zcO n c l j) (hq:xK n c l j=0→q):stV (yI n) n m c a l j q:=by
 have HT:=H.ok hs
 have hidx:=HT.inm l j hp
 have hb:bsC (n,m,c,l,j):=⟨H.n24,hp,H.tot⟩
 have bad:∀ e,xK n c l j=e→e≠0→rV (yI n) a e:=fun e h1 h2=>by
  have:=hc.fst hs l j hp hu (by rw[h1]; exact h2)
  rw[h1] at this
  rw[this]; exact ziQ _ _
 have kid:∀ k w,l=Nat.succ k→w < zw n l j→(vP n c k j w).nd.wl∧QH (vP n c k j w):=fun k w e hw=>by
  have hk:=JO H.n24 (by rw[←e]; exact hp) (by rw[←e]; exact hw)
  have h0:=hu k (j4 j w) hk (.inl (by show k < l; have:l=Nat.succ k:=e; omega))
  obtain⟨p1,p2,p3⟩:=X9 h0
  have hi:=HT.inm k (j4 j w) hk
  have hk2:=(xD H.n24 hk).1
  exact⟨HT.wl _ hi,zvt p3,by show (c (zi n k (j4 j w))).nd.lv≤2; rw[p1]; exact hk2,HT.sl _ hi⟩
 unfold stV
 refine⟨(n,m,c,l,j),rfl,⟨hb,HT.wl _ hidx,HT.wb _ hidx⟩,?_⟩
 by_cases hpl:yd n l j (c (zi n l j))
 ·have e1:Wo (n,m,c,l,j)=0:=if_pos hpl
  rw[e1]
  show _
  refine⟨(n,m,c,l,j),rfl,⟨hb,trivial⟩,?_⟩
  by_cases hm:mkP n c l j (c (zi n l j))
  ·have e2:XM (n,m,c,l,j)=0:=if_pos hm
   rw[e2]
   show _
   refine⟨(n,m,c,l,j),rfl,⟨hb,kid⟩,?_⟩
   by_cases he:jH n c l j (c (zi n l j)) (zw n l j)
   ·have e3:Wp (n,m,c,l,j)=0:=if_pos he
    rw[e3]
    show q
    exact hq (by unfold xK; rw[if_pos hpl,if_pos ⟨hm.1,hm.2,he⟩])
   ·have e3:Wp (n,m,c,l,j)=9:=if_neg he
    rw[e3]
    show rV (yI n) a 9
    exact bad 9 (by unfold xK; rw[if_pos hpl,if_neg fun h=>he h.2.2]) (by omega)
  ·have e2:XM (n,m,c,l,j)=9:=if_neg hm
   rw[e2]
   show rV (yI n) a 9
   exact bad 9 (by unfold xK; rw[if_pos hpl,if_neg fun h=>hm ⟨h.1,h.2.1⟩]) (by omega)
 ·have e1:Wo (n,m,c,l,j)=17:=if_neg hpl
  rw[e1]
  show rV (yI n) a 17
  exact bad 17 (by unfold xK; rw[if_neg hpl]) (by omega)
noncomputable def zAA (l k i:Nat):List (Nat×Nat):=@Nat.rec (fun _=>Nat→List (Nat×Nat)) (fun _=>[]) (fun _ ih i=>(l,i)::ih (Nat.succ i)) k i
theorem YE {q:Prop}(H:TrOk0 n m c) (hs:j9 m c) (hc:IsChk n m c a) {l:Nat}(hq:zcO n c (l + 1) 0→q):∀ k i,i + k=zQ n l→zcO n c l i→chQ (yI n) n m c a (zAA l k i) q
 | 0,i,e,hu=>hq fun l' j' q1 q2=>hu l' j' q1 (by
   unfold jC at q2 ⊢
   by_cases e':l'=l
   ·subst e'; have:=qa.1 q1; omega
   ·omega)
 | k + 1,i,e,hu=>by
  show stV (yI n) n m c a l i (chQ (yI n) n m c a (zAA l k (Nat.succ i)) q)
  have hp:isS n l i=true:=qa.2 (by omega)
  refine zAz H hs hc hp hu fun h0=>YE H hs hc hq k (Nat.succ i) (by show i + 1 + k=_; omega) fun l' j' q1 q2=>?_
  by_cases e':l'=l∧j'=i
  ·rw[e'.1,e'.2]; exact h0
  ·exact hu l' j' q1 (by unfold jC at q2 ⊢; simp only[Nat.succ_eq_add_one] at q2; omega)
theorem zsQ {q:Prop}(lay:KV) (h1:¬ j9 m c→a=1) (hq:j9 m c→q):∀ r,r≤m→(∀ i,i < m - r→(c i).sl=0∨(c i).sl=1)→slV lay a m c q r
 | 0,_,hI=>hq hI
 | r + 1,hr,hI=>by
  have ew:Nat.sub m (Nat.succ r)=m - (r + 1):=rfl
  show alt (zfK (c (Nat.sub m (Nat.succ r))).sl) (rV lay a 1) (slV lay a m c q r)
  rw[ew]
  simp only[zo,ziR,bf ziR]
  refine⟨fun hb=>?_,fun hb=>zsQ lay h1 hq r (by omega) fun i hi=>?_⟩
  ·rw[h1 fun hs=>hb (hs _ (by omega))]; exact ziQ _ _
  ·by_cases e:i=m - (r + 1)
   ·rw[e]; exact Classical.byContradiction hb
   ·exact hI i (by omega)
theorem zpY (H:TrOk0 n m c) (hc:IsChk n m c a):Wm n c a:=by
 unfold Wm
 rw[Xg,zy,←H.tot]
 refine⟨H.n24,zsQ (yI n) hc.bad (fun hs=>?_) m (Nat.le_refl m) fun i hi=>absurd hi (by omega)⟩
 show chQ (yI n) n m c a (apP (zfL n 0) (apP (zfL n 1) (zfL n 2))) (rV (yI n) a 0)
 rw[zcA,zcA]
 have last:zcO n c 3 0→rV (yI n) a 0:=fun hu=>by
  rw[hc.fine hs fun l j h=>hu l j h (.inl (by have:=(xD H.n24 h).1; omega))]; exact ziQ _ _
 exact YE (l:=0) H hs hc (fun u1=>YE (l:=1) H hs hc (fun u2=>YE (l:=2) H hs hc last (zQ n 2) 0 (by omega) u2) (zQ n 1) 0 (by omega) u1) (zQ n 0) 0 (by omega) fun l' j' _ hb=>by rcases hb with hb | hb<;>omega
end
theorem zAB {P:Program}{fid:FuncId}{s:zg}(hf:∃ fn,P.funcs[fid]?=some fn∧(fn.name == "runtime.NumGoroutine")=false∧fn.body.isNone=false)
  (h:∀ l K,s l K→∃ E:KEnv,KOk E∧E.P=P∧∃ n k w,K w∧zn E (zu E n) 0 fid l .e 0 0 fun r zm _ _=>tK (fzG true zm k r w)):Qv P fid s :=
 ⟨hf,fun l K hs=>by
  obtain⟨E,hE,rfl,n,k,w,h1,h2⟩:=h l K hs
  exact⟨w,h1,fun hb B μ nx mx=>zt3 hE (fun _=>qk hE n) h2 hb B μ nx mx⟩⟩
abbrev P4:=Nat×Nat×(Nat→Un)×Nat
noncomputable def zfO (x:P4):List KV:=[trK x.1 x.2.1 x.2.2.1]
noncomputable def zAC (x:P4):Prop:=TrOk0 x.1 x.2.1 x.2.2.1∧IsChk x.1 x.2.1 x.2.2.1 x.2.2.2
noncomputable def zEx:zg:=v3 zfO zAC fun x=>zva (yI x.1) x.2.2.2
theorem zAD {n a:Nat}{c:Nat→Un}(h:zT n=true) (hf:Wm n c a):zet n c a:=by
 obtain⟨n1,n2⟩:=xc h
 by_cases h6:n≤6
 ·exact yz (zxQ _ c a) (by omega) (by omega) hf
 by_cases h12:n≤12
 ·exact yz (zyy _ c a) (by omega) (by omega) hf
 by_cases h18:n≤18
 ·exact yz (zxe _ c a) (by omega) (by omega) hf
 ·exact yz (zyJ _ c a) (by omega) (by omega) hf
theorem zAE:Qv Tryz.prog 161 zEx:=zAB ⟨Tryz.f161,Tryz.func161,by kernel_rfl,by kernel_rfl⟩ fun l K hs=>by
 obtain⟨⟨n,m,c,a⟩,rfl,⟨H,hc⟩,hk⟩:=hs
 have h:=zAD H.n24 (zpY H hc)
 unfold zet at h
 rw[Xg,zy,←show m=zq n from H.tot] at h
 exact⟨zpF,zAl,rfl,200,30,_,hk,h⟩
noncomputable def zF6:zg:=v3 zfO zAC fun x=>nI x.2.2.2
theorem zF7:KCS Tryz.prog 39 zF6:=qs ⟨Tryz.f39,Tryz.func39,by kernel_rfl,by kernel_rfl⟩ fun x h=>j39 h.1 h.2
noncomputable def zgd (x:P4):Prop:=TrOk0 x.1 x.2.1 x.2.2.1∧IsChk x.1 x.2.1 x.2.2.1 (Nat.succ x.2.2.2)
noncomputable def erB (x:P4):KV:=nI (Nat.succ x.2.2.2)
noncomputable def ztC:zg:=v3 zfO zgd fun x=>zva (yI x.1) (Nat.succ x.2.2.2)
theorem zDj:Qv Tryz.prog 161 ztC:=⟨zAE.1,fun l K h=>zAE.2 l K (by
 obtain⟨⟨n,m,c,a⟩,h1,h2,h3⟩:=h
 exact⟨(n,m,c,Nat.succ a),h1,h2,h3⟩)⟩
noncomputable def EV:KEnv:=EO0.tabB [(161,ztC)]
theorem okV:KOk EV:=xA.tabB ⟨zDj,trivial⟩
noncomputable def Xi:KV:=.cons (.ar 32 (kU8 0) .te) (.cons (.int .u64 (.ofNat 0)) (.cons (.int .u64 (.ofNat 0)) .nl))
noncomputable def bdR (x:P4) (f:Nat) (l:List KV) (w:KV) (b:Bool):Prop:=@Bool.rec (fun _=>Prop) (∃ y:P4,zfO x=zfO y∧zgd y∧erB y=w) (zn EV (zu EV 60) 0 f l .e 0 0 fun r _ _ _=>r=w) b
theorem e94 (n m b:Nat) (c:Nat→Un) (w:KV):bdR (n,m,c,b) 94 [trK n m c] w true=bdR (n,m,c,b) 94 [trK n m c] w false:=by kernel_rfl
noncomputable def Wz (l:P4→List KV) (w:P4→KV):zg:=v3 l zgd w
theorem ze3 {f:Nat}(hf:∃ fn,Tryz.prog.funcs[f]?=some fn∧(fn.name == "runtime.NumGoroutine")=false∧fn.body.isNone=false) {E:KEnv}(hE:KOk E) (hP:E.P=Tryz.prog) {l:P4→List KV}{w:P4→KV}(hn:∀ x,xl (w x).v=true)
  (h:∀ x,zgd x→zn E (zu E 60) 0 f (l x) .e 0 0 fun r _ _ _=>r=w x):KCS Tryz.prog f (Wz l w):=ZV hf fun l' K hs=>by
 obtain⟨x,rfl,h1,h2⟩:=hs
 exact⟨E,hE,hP,60,fun r=>r=w x,w x,h2,hn x,fun r hr=>by rw[hr]; exact Imp.refl _,h x h1⟩
noncomputable def l1A (x:P4):List KV:=[trK x.1 x.2.1 x.2.2.1]
theorem k94:KCS Tryz.prog 94 (Wz l1A erB):=ze3 ⟨Tryz.f94,Tryz.func94,by kernel_rfl,by kernel_rfl⟩ okV rfl (fun x=>rfl) fun x h=>by
 obtain⟨n,m,c,b⟩:=x
 exact Eq.mpr (e94 n m b c (erB (n,m,c,b))) ⟨(n,m,c,b),rfl,h,rfl⟩
noncomputable def EW:KEnv:=EO0.tab [(94,Wz l1A erB)]
theorem okW:KOk EW:=xA.tab ⟨k94,trivial⟩
noncomputable def l18 (x:P4):List KV:=[trK x.1 x.2.1 x.2.2.1,Xi]
noncomputable def w18 (x:P4):KV:=.tup (.cons .nils (.cons Xi (.cons (erB x) .nl)))
noncomputable def w19 (x:P4):KV:=.tup (.cons .nils (.cons (erB x) .nl))
noncomputable def bdW (x:P4) (f:Nat) (l:List KV) (g:P4→KV) (w:KV) (b:Bool):Prop:=@Bool.rec (fun _=>Prop) (∃ y:P4,l1A x=l1A y∧zgd y∧g y=w) (zn EW (zu EW 60) 0 f l .e 0 0 fun r _ _ _=>r=w) b
theorem e18 (n m b:Nat) (c:Nat→Un) (w:KV):bdW (n,m,c,b) 18 (l18 (n,m,c,b)) w18 w true=bdW (n,m,c,b) 18 (l18 (n,m,c,b)) w18 w false:=by kernel_rfl
theorem e19 (n m b:Nat) (c:Nat→Un) (w:KV):bdW (n,m,c,b) 19 (l1A (n,m,c,b)) w19 w true=bdW (n,m,c,b) 19 (l1A (n,m,c,b)) w19 w false:=by kernel_rfl
theorem k18:KCS Tryz.prog 18 (Wz l18 w18):=ze3 ⟨Tryz.f18,Tryz.func18,by kernel_rfl,by kernel_rfl⟩ okW rfl (fun x=>rfl) fun x h=>by
 obtain⟨n,m,c,b⟩:=x
 exact Eq.mpr (e18 n m b c (w18 (n,m,c,b))) ⟨(n,m,c,b),rfl,h,rfl⟩
theorem k19:KCS Tryz.prog 19 (Wz l1A w19):=ze3 ⟨Tryz.f19,Tryz.func19,by kernel_rfl,by kernel_rfl⟩ okW rfl (fun x=>rfl) fun x h=>by
 obtain⟨n,m,c,b⟩:=x
 exact Eq.mpr (e19 n m b c (w19 (n,m,c,b))) ⟨(n,m,c,b),rfl,h,rfl⟩
noncomputable def J2:KV:=.cons (.ar 16 (kU8 0) .te) (.cons (.ar 32 (kU8 0) .te) .nl)
noncomputable def Zr:KV:=.cons (yH 0) (.cons (YA 0) .nl)
noncomputable def l32 (x:P4):List KV:=[trK x.1 x.2.1 x.2.2.1,J2,nI 0,Zr,.ar 32 (kU8 0) .te]
noncomputable def w32 (x:P4):KV:=.tup (.cons (.cons (nI 0) (.cons .nils .nl)) (.cons (.cons (nI 0) (.cons .nils .nl)) (.cons (erB x) .nl)))
noncomputable def bdV (x:P4) (f:Nat) (l:List KV) (g:P4→KV) (w:KV) (b:Bool):Prop:=@Bool.rec (fun _=>Prop) (∃ y:P4,l1A x=zfO y∧zgd y∧g y=w) (zn EV (zu EV 60) 0 f l .e 0 0 fun r _ _ _=>r=w) b
theorem e32 (n m b:Nat) (c:Nat→Un) (w:KV):bdV (n,m,c,b) 32 (l32 (n,m,c,b)) w32 w true=bdV (n,m,c,b) 32 (l32 (n,m,c,b)) w32 w false:=by kernel_rfl
theorem k32:KCS Tryz.prog 32 (Wz l32 w32):=ze3 ⟨Tryz.f32,Tryz.func32,by kernel_rfl,by kernel_rfl⟩ okV rfl (fun x=>rfl) fun x h=>by
 obtain⟨n,m,c,b⟩:=x
 exact Eq.mpr (e32 n m b c (w32 (n,m,c,b))) ⟨(n,m,c,b),rfl,h,rfl⟩
noncomputable def jP (i l:Nat):Nat:=@Nat.rec (fun _=>Nat) (Nat.div i 4) (fun _ x=>Nat.div x 4) l
noncomputable def zC0:zg:=fun l K=>la2 l fun a b=>jg a fun i=>jg b fun l=>(i < 24∧l≤2)∧K (nI (jP i l))
noncomputable def zC1 (i l:Nat):Prop:=zn EO0 (zu EO0 200) 0 45 [nI i,nI l] .e 0 0 fun r _ _ _=>tK (kvb r (nI (jP i l)))
noncomputable def znR (q:Bool):Prop:=jL (fun i=>jL (fun l=>@Bool.rec (fun _=>Prop) True (zC1 i l) q) 3) 24
theorem zFW:znR true=znR false:=by kernel_rfl
theorem zFX:KCS Tryz.prog 45 zC0:=ZV ⟨Tryz.f45,Tryz.func45,by kernel_rfl,by kernel_rfl⟩ fun l K hs=>by
  obtain⟨a,b,rfl,h1⟩:=X4 hs
  obtain⟨i,rfl,h2⟩:=xz h1
  obtain⟨l,rfl,⟨h3,h4⟩,hk⟩:=xz h2
  exact⟨EO0,xA,rfl,200,_,_,hk,rfl,fun r hr=>by rw[qN (za2 hr)]; exact Imp.refl _,xC (xC (Eq.mpr zFW (vu (fun i=>vu (fun l=>trivial) 3) 24):znR true) i h3) l (by omega)⟩
structure Ud where
 rc:Nat→Rc
 ch:Nat→Bool
 sl:Nat→Nat
noncomputable def roK (s:Shape) (n:Nat) (f:Nat→KV):KV:=.ro true false s 0 n (.fa n f)
noncomputable def uK (n m:Nat) (u:Ud):KV:=.cons (roK xv n fun i=>(u.rc i).k) (.cons (roK .sc n fun i=>.bool (u.ch i)) (.cons (roK .sc m fun i=>nI (u.sl i)) .nl))
structure UOk (n m:Nat) (u:Ud):Prop where
 n24:zT n=true
 tot:m=zq n
 wl:∀ i,i < n→(u.rc i).tg.length=32
 wb:∀ i,i < n→(u.rc i).wb
 sl:∀ i,i < m→u.sl i≤1
 st:∀ i,i < n→(u.rc i).st≤2
noncomputable def Vi (n:Nat) (u:Ud) (l j:Nat):Bool:=@decide (∃ i,i < n∧u.ch i=true∧jP i l=j) (Classical.propDecidable _)
abbrev P5u:=Nat×Nat×Ud×Nat×Nat
noncomputable def zx2 (x:P5u):List KV:=[uK x.1 x.2.1 x.2.2.1,nI x.2.2.2.1,nI x.2.2.2.2]
noncomputable def shU:Shape:=.cons .sc (.cons .sc (.cons .sc .nl))
noncomputable def pUd:KV:=.ptr 0 [] shU
noncomputable def zU (n m:Nat) (u:Ud):KBlk:=bx 33 shU (uK n m u)
noncomputable def E88:KEnv:=EO0.tab [(45,zC0)]
theorem Vj:KOk E88:=xA.tab ⟨zFX,trivial⟩
noncomputable def l88:List Code:=fl (cOf 88)
noncomputable def b88:Code:=lpB (blB (l88.getD 2 .skip))
noncomputable def zC2 (n m:Nat) (u:Ud) (l j:Nat) (Q:QT) (R:zj):Prop:=pc E88 88 (l88.take 2) [1,2,3,7] [0] (vy (mOf 88) 0 (zx2 (n,m,u,l,j)),[],0) Q fun v _ _=>R v
noncomputable def u88 (l j k:Nat):List KV:=[nI l,nI j,pUd,nI k]
noncomputable def s88 (n m:Nat) (u:Ud) (l j k:Nat):LS:=([(1,nI l),(2,nI j),(3,pUd),(7,nI k)],[(0,zU n m u)],1)
theorem zFY (n m:Nat) (u:Ud) (l j:Nat) (Q:QT) (R:zj):zC2 n m u l j Q R=Q .normal (u88 l j 0) [some (zU n m u)] 1:=by kernel_rfl
noncomputable def zC3 (n m:Nat) (u:Ud) (l j k:Nat) (Q:QT) (R:zj):Prop:=pc E88 88 (fl b88) [1,2,3,7] [0] (s88 n m u l j k) Q fun v _ _=>R v
noncomputable def zx3 (n m:Nat) (u:Ud) (l j k:Nat) (Q:QT):Prop:=cnd (b63 (Nat.add k 1)) (Q .normal (u88 l j (Nat.add k 1)) [some (zU n m u)] 1)
theorem zFZ (n m:Nat) (u:Ud) (l j k:Nat) (Q:QT) (R:zj):zC3 n m u l j k Q R=alt (ltN k n) (cnd (ixB (.ofNat k) n) (alt (u.ch (Nat.add 0 k)) ((k < 24∧l≤2)∧alt (eqN (jP k l) j) (R (.bool true)) (zx3 n m u l j k Q)) (zx3 n m u l j k Q))) (Q (.exit 0) (u88 l j k) [some (zU n m u)] 1):=by kernel_rfl
noncomputable def zC4 (n m:Nat) (u:Ud) (l j k:Nat) (Q:QT) (R:zj):Prop:=pc E88 88 (l88.drop 3) [] [] (s88 n m u l j k) Q fun v _ _=>R v
theorem zF0 (n m:Nat) (u:Ud) (l j k:Nat) (Q:QT) (R:zj):zC4 n m u l j k Q R=R (.bool false):=by kernel_rfl
attribute [local irreducible] kpre cOf mOf rOf JL zu l88 b88 zi hS zq zQ jP
theorem zGs:Tryz.f88.ntmps=27:=by kernel_rfl
theorem zGt:Tryz.f88.results.toList=rOf 88:=by kernel_rfl
theorem zGu:fl (cOf 88)=l88:=by kernel_rfl
section
variable {n m:Nat}{u:Ud}{l j:Nat}{B N:Nat}{a:Bool}
noncomputable abbrev Q88 (a:Bool):K4:=retJ E88 Tryz.f88 false (.bool a)
theorem zog (v:KV) (tr:KTm) (zm:KZ) (nx:Nat) (h:v=.bool a) (h1:MB (am zm) nx) (h2:INV (mOf 88) tr) (hr:RAll Tryz.prog (tv' (zp tr)) (am zm) (rOf 88) v.v):Q88 a .ret tr zm nx:=by
 subst h
 exact retJ.mk rfl zGt (FzP.noref rfl) hr
theorem kbU (n m:Nat) (u:Ud):xQ 0 (zU n m u).v=true:=by kernel_rfl
theorem zyM {k:Nat}{tr:KTm}{zm:KZ}(ht:[1,2,3,7].map (zp tr)=u88 l j k) (hz:[0].map (kb zm)=[some (zU n m u)]):atS (mOf 88) (s88 n m u l j k) tr zm :=
 atS.of (s:=s88 n m u l j k) [] id ht hz (by kernel_rfl) ⟨zC _ rfl,zC _ rfl,vc (ltk rfl),zC _ rfl,trivial⟩ ⟨RnK.nf (kbU n m u),trivial⟩
theorem j88 (hn:n≤24) (hl:l≤2):JFn Tryz.prog 88 false [uK n m u,nI l,nI j] (.bool (Vi n u l j)):=by
 refine JFn.of (P:=Tryz.prog) Vj rfl (c:=cOf 88) (mOf 88) Tryz.func88 (by kernel_rfl) fun B N hN=>?_
 rw[zGs] at hN
 rw[zGu]
 refine JL.stp (n:=60) (s:=(vy (mOf 88) 0 [uK n m u,nI l,nI j],[],0)) Vj rfl 2 (rOf 88) [1,2,3,7] [0] hN (by kernel_rfl) (by kernel_rfl) (fun v=>v=.bool (Vi n u l j)) zog ?_
 show zC2 n m u l j _ _
 rw[zFY]
 intro tr zm ht hz hmb hi
 refine JL.loopT Vj (fun k=>s88 n m u l j k) (fun k=>n - k) (fun k=>k≤n∧∀ i,i < k→¬ (u.ch i=true∧jP i l=j)) (id:=0) (b:=b88) (l2:=l88.drop 3) (by kernel_rfl) (fun w=>by kernel_rfl) 0 ⟨by omega,fun i hi=>absurd hi (Nat.not_lt_zero i)⟩ (zyM ht hz) hmb hi ?_
 rintro k ⟨hk,hI⟩
 refine JL.all (n:=60) Vj rfl (rOf 88) [1,2,3,7] [0] hN (by kernel_rfl) (by kernel_rfl) (fun v=>v=.bool (Vi n u l j)) (fun v tr zm nx h1 h2 h3 h4=>zog v tr zm nx h1 h2 h3 h4) ?_
 show zC3 n m u l j k _ _
 rw[zFZ]
 have next:k < n→¬ (u.ch k=true∧jP k l=j)→∀ tr zm,[1,2,3,7].map (zp tr)=u88 l j (k + 1)→[0].map (kb zm)=[some (zU n m u)]→MB (am zm) 1→INV (mOf 88) tr→∃ s',n - s' < n - k∧(s'≤n∧∀ i,i < s'→¬ (u.ch i=true∧jP i l=j))∧atS (mOf 88) (s88 n m u l j s') tr zm:=by
  intro hkn hno tr zm ht hz hmb hi
  refine⟨k + 1,by omega,⟨by omega,fun i hi'=>?_⟩,zyM ht hz⟩
  by_cases e:i=k
  ·rw[e]; exact hno
  ·exact hI i (by omega)
 unfold zx3
 simp only[zo,xo,bf xo,ze,xB,vm,qv,jI,bf jI]
 refine⟨fun hkn=>⟨hkn,fun hc=>⟨⟨by omega,hl⟩,fun e=>?_,fun e=>⟨by show k + 1 < _; omega,next hkn fun h=>e h.2⟩⟩,fun hc=>⟨by show k + 1 < _; omega,next hkn fun h=>by rw[h.1] at hc; cases hc⟩⟩,fun hkn=>?_⟩
 ·congr 1
  exact (@decide_eq_true _ (Classical.propDecidable _) ⟨k,hkn,hc,e⟩).symm
 ·intro tr zm ht hz hmb hi
  show (if (0:Nat)=0 then JL E88 B N (mOf 88) (l88.drop 3) tr zm 1 (Q88 _) else Q88 _ (.exit 0) tr zm 1)
  rw[if_pos rfl]
  refine JL.preS Vj (zyM (n:=n) (m:=m) (u:=u) ht hz) (vS (by kernel_rfl)) ?_
  refine JL.all (n:=60) Vj rfl (rOf 88) [] [] hN (by kernel_rfl) (by kernel_rfl) (fun v=>v=.bool (Vi n u l j)) zog ?_
  show zC4 n m u l j k _ _
  rw[zF0]
  congr 1
  refine (@decide_eq_false _ (Classical.propDecidable _) ?_).symm
  rintro⟨i,q1,q2⟩
  exact hI i (by omega) q2
end
noncomputable def zDy:zg:=v3 zx2 (fun x=>x.1≤24∧x.2.2.2.1≤2) fun x=>.bool (Vi x.1 x.2.2.1 x.2.2.2.1 x.2.2.2.2)
theorem zyN:KCS Tryz.prog 88 zDy:=qs ⟨Tryz.f88,Tryz.func88,by kernel_rfl,by kernel_rfl⟩ fun x h=>j88 h.1 h.2
end
end Go.K
set_option maxRecDepth 100000
namespace Go.K
open Go.Ab Go.RowKit Go.Y Go.Proofs
noncomputable section
attribute [local instance 10000] gO
noncomputable def l26:List Code:=fl (cOf 26)
noncomputable def YP:Code:=lpB (blB (l26.getD 4 .skip))
noncomputable def zcT:Code:=blB ((fl YP).getD 2 .skip)
noncomputable def zqW:Code:=lpB (blB ((fl zcT).getD 1 .skip))
noncomputable def E26:KEnv:=EO0.tab [(28,sHt),(81,zyA),(88,zDy)]
theorem XP:KOk E26:=xA.tab ⟨kHt,zrQ,zyN,trivial⟩
noncomputable def xY (k:Nat):KV:=@Nat.rec (fun _=>KV) .nils (fun k _=>.row 1 .sc (Nat.succ k)) k
noncomputable def zbs (f:Nat→Nat) (k:Nat):KBlk:=⟨.row 3,.arr k .sc,kAr k (nI 0) fun i=>nI (f i)⟩
noncomputable def zBX (z:KBlk) (f:Nat→Nat) (k:Nat):List (Nat×KBlk):=@Nat.rec (fun _=>List (Nat×KBlk)) [(0,z)] (fun k _=>[(0,z),(1,zbs f (Nat.succ k))]) k
noncomputable def nxK (k:Nat):Nat:=@Nat.rec (fun _=>Nat) 1 (fun _ _=>2) k
noncomputable def s26 (n m:Nat) (u:Ud) (f:Nat→Nat) (k l:Nat):LS:=([(1,pUd),(3,nI n),(4,xY k),(5,nI l)],zBX (zU n m u) f k,nxK k)
noncomputable def yf (n m:Nat) (u:Ud) (f:Nat→Nat) (k l j:Nat):LS:=([(1,pUd),(3,nI n),(4,xY k),(5,nI l),(6,nI j)],zBX (zU n m u) f k,nxK k)
noncomputable def idA (k:Nat):Nat:=@Nat.rec (fun _=>Nat) 2 (fun _ _=>3) k
noncomputable def liA (k:Nat):List Nat:=@Nat.rec (fun _=>List Nat) [0,2] (fun _ _=>[0,1,3]) k
noncomputable def trI (f:Nat→Nat) (k:Nat):KV:=@Nat.rec (fun _=>KV) .te (fun i t=>x6 (nI (f i)) (enc i) t) k
noncomputable def zwU (f:Nat→Nat) (k:Nat) (x:KV):KBlk:=⟨.row 3,.arr (Nat.succ k) .sc,.ar (Nat.succ k) (nI 0) (x6 x (enc k) (trI f k))⟩
noncomputable def zN (z:KBlk) (f:Nat→Nat) (k:Nat) (x:KV):List (Option KBlk):=@Nat.rec (fun _=>List (Option KBlk)) [some z,some (zwU f k x)] (fun k' _=>[some z,some ⟨.dead,.arr (Nat.succ k') .sc,.unk⟩,some (zwU f k x)]) k
noncomputable def zE (z:KBlk) (f:Nat→Nat) (k:Nat):List (Option KBlk):=@Nat.rec (fun _=>List (Option KBlk)) [some z,none] (fun k' _=>[some z,some (zbs f (Nat.succ k')),none]) k
noncomputable def liB (k:Nat):List Nat:=@Nat.rec (fun _=>List Nat) [0] (fun _ _=>[0,1]) k
noncomputable def zBk (z:KBlk) (f:Nat→Nat) (k:Nat):List (Option KBlk):=@Nat.rec (fun _=>List (Option KBlk)) [some z] (fun k' _=>[some z,some (zbs f (Nat.succ k'))]) k
noncomputable def zBY (n m:Nat) (u:Ud) (Q:QT) (R:zj):Prop:=pc E26 26 (l26.take 4) [1,3,4,5] [0] (vy (mOf 26) 0 [uK n m u],[],0) Q fun v _ _=>R v
theorem zFb (n m:Nat) (u:Ud) (Q:QT) (R:zj):zBY n m u Q R=Q .normal [pUd,nI n,.nils,nI 0] [some (zU n m u)] 1:=by kernel_rfl
noncomputable def v26 (n k l:Nat):List KV:=[pUd,nI n,xY k,nI l]
noncomputable def zwV (n k l j:Nat):List KV:=[pUd,nI n,xY k,nI l,nI j]
noncomputable def zBZ (n m:Nat) (u:Ud) (f:Nat→Nat) (k l:Nat) (Q:QT) (R:zj):Prop:=pc E26 26 ((fl YP).take 2) [1,3,4,5] (liB k) (s26 n m u f k l) Q fun v _ _=>R v
theorem zFc (n m:Nat) (u:Ud) (f:Nat→Nat) (l:Nat) (Q:QT) (R:zj):∀ k,zBZ n m u f k l Q R=(zT n=true∧alt (leN l (hS n)) (Q .normal (v26 n k l) (zBk (zU n m u) f k) (nxK k)) (Q (.exit 0) (v26 n k l) (zBk (zU n m u) f k) (nxK k)))
 | 0=>by kernel_rfl
 | Nat.succ k=>by kernel_rfl
noncomputable def zB0 (n m:Nat) (u:Ud) (f:Nat→Nat) (k l:Nat) (Q:QT) (R:zj):Prop:=pc E26 26 ((fl zcT).take 1) [1,3,4,5,6] (liB k) (s26 n m u f k l) Q fun v _ _=>R v
theorem zFd (n m:Nat) (u:Ud) (f:Nat→Nat) (l:Nat) (Q:QT) (R:zj):∀ k,zB0 n m u f k l Q R=Q .normal (zwV n k l 0) (zBk (zU n m u) f k) (nxK k)
 | 0=>by kernel_rfl
 | Nat.succ k=>by kernel_rfl
noncomputable def zB1 (n m:Nat) (u:Ud) (f:Nat→Nat) (k l j:Nat) (Q:QT) (R:zj):Prop:=pc E26 26 ((fl YP).drop 3) [1,3,4,5] (liB k) (yf n m u f k l j) Q fun v _ _=>R v
theorem zFe (n m:Nat) (u:Ud) (f:Nat→Nat) (l j:Nat) (Q:QT) (R:zj):∀ k,zB1 n m u f k l j Q R=cnd (b63 (Nat.add l 1)) (Q .normal (v26 n k (Nat.add l 1)) (zBk (zU n m u) f k) (nxK k))
 | 0=>by kernel_rfl
 | Nat.succ k=>by kernel_rfl
noncomputable def XQ (n m:Nat) (u:Ud) (f:Nat→Nat) (k l j:Nat) (Q:QT) (R:zj):Prop:=pc E26 26 (fl zqW) [1,3,4,5,6] (liA k) (yf n m u f k l j) Q fun v _ _=>R v
noncomputable def w26 (n m:Nat) (u:Ud) (f:Nat→Nat) (k l j:Nat) (Q:QT) (x:KV):Prop:=cnd (b63 (Nat.add j 1)) (Q .normal [pUd,nI n,.row (idA k) .sc (Nat.succ k),nI l,nI (Nat.add j 1)] (zN (zU n m u) f k x) (Nat.succ (idA k)))
noncomputable def f26 (n m:Nat) (u:Ud) (f:Nat→Nat) (k l j:Nat) (Q:QT):Prop:=(zT n=true∧l≤2)∧alt (ltN j (zQ n l)) (cnd (ixB (.ofNat k) m) (∃ x:P5u,[uK n m u,nI l,nI j]=zx2 x∧(x.1≤24∧x.2.2.2.1≤2)∧alt (Vi x.1 x.2.2.1 x.2.2.2.1 x.2.2.2.2) (alt (Nat.ble (u.sl (Nat.add 0 k)) 1) (cnd (b63 (Nat.sub 1 (u.sl (Nat.add 0 k)))) (w26 n m u f k l j Q (nI (Nat.sub 1 (u.sl (Nat.add 0 k)))))) (w26 n m u f k l j Q (.int .i64 (Vc .i64 (.ofNat 1) (.ofNat (u.sl (Nat.add 0 k))))))) (w26 n m u f k l j Q (nI (u.sl (Nat.add 0 k)))))) (Q (.exit 2) (zwV n k l j) (zE (zU n m u) f k) (nxK k))
theorem zwW (n m:Nat) (u:Ud) (f:Nat→Nat) (l j:Nat) (Q:QT) (R:zj):XQ n m u f 0 l j Q R=f26 n m u f 0 l j Q:=by kernel_rfl
theorem zwX (n m:Nat) (u:Ud) (f:Nat→Nat) (l j:Nat) (Q:QT) (R:zj):XQ n m u f 1 l j Q R=f26 n m u f 1 l j Q:=by kernel_rfl
theorem zwY (n m:Nat) (u:Ud) (f:Nat→Nat) (l j:Nat) (Q:QT) (R:zj):XQ n m u f 2 l j Q R=f26 n m u f 2 l j Q:=by kernel_rfl
theorem zwZ (n m:Nat) (u:Ud) (f:Nat→Nat) (l j:Nat) (Q:QT) (R:zj):XQ n m u f 3 l j Q R=f26 n m u f 3 l j Q:=by kernel_rfl
theorem zw0 (n m:Nat) (u:Ud) (f:Nat→Nat) (l j:Nat) (Q:QT) (R:zj):XQ n m u f 4 l j Q R=f26 n m u f 4 l j Q:=by kernel_rfl
theorem zw1 (n m:Nat) (u:Ud) (f:Nat→Nat) (l j:Nat) (Q:QT) (R:zj):XQ n m u f 5 l j Q R=f26 n m u f 5 l j Q:=by kernel_rfl
theorem zw2 (n m:Nat) (u:Ud) (f:Nat→Nat) (l j:Nat) (Q:QT) (R:zj):XQ n m u f 6 l j Q R=f26 n m u f 6 l j Q:=by kernel_rfl
theorem zw3 (n m:Nat) (u:Ud) (f:Nat→Nat) (l j:Nat) (Q:QT) (R:zj):XQ n m u f 7 l j Q R=f26 n m u f 7 l j Q:=by kernel_rfl
theorem zw4 (n m:Nat) (u:Ud) (f:Nat→Nat) (l j:Nat) (Q:QT) (R:zj):XQ n m u f 8 l j Q R=f26 n m u f 8 l j Q:=by kernel_rfl
theorem zw5 (n m:Nat) (u:Ud) (f:Nat→Nat) (l j:Nat) (Q:QT) (R:zj):XQ n m u f 9 l j Q R=f26 n m u f 9 l j Q:=by kernel_rfl
theorem zB3 (n m:Nat) (u:Ud) (f:Nat→Nat) (l j:Nat) (Q:QT) (R:zj):∀ k,k < 10→XQ n m u f k l j Q R=f26 n m u f k l j Q
 | 0,_=>zwW n m u f l j Q R
 | 1,_=>zwX n m u f l j Q R
 | 2,_=>zwY n m u f l j Q R
 | 3,_=>zwZ n m u f l j Q R
 | 4,_=>zw0 n m u f l j Q R
 | 5,_=>zw1 n m u f l j Q R
 | 6,_=>zw2 n m u f l j Q R
 | 7,_=>zw3 n m u f l j Q R
 | 8,_=>zw4 n m u f l j Q R
 | 9,_=>zw5 n m u f l j Q R
 | k + 10,h=>absurd h (by omega)
noncomputable def zB4 (n m:Nat) (u:Ud) (f:Nat→Nat) (k l:Nat) (Q:QT) (R:RT):Prop:=pc E26 26 (l26.drop 5) [] (liB k) (s26 n m u f k l) Q R
theorem zFf (n m:Nat) (u:Ud) (f:Nat→Nat) (l:Nat) (Q:QT) (R:RT):∀ k,zB4 n m u f k l Q R=R (xY k) (zBk (zU n m u) f k) (nxK k)
 | 0=>by kernel_rfl
 | Nat.succ k=>by kernel_rfl
end
end Go.K
set_option maxRecDepth 100000
namespace Go.K
open Go.Ab Go.RowKit Go.Y Go.Proofs
noncomputable section
attribute [local instance 10000] gO
theorem yB (n j:Nat):∀ l,zi n l j=j + zi n l 0
 | 0=>rfl
 | l + 1=>by
  show Nat.add (zi n l j) (zQ n l)=j + Nat.add (zi n l 0) (zQ n l)
  rw[yB n j l]
  show j + zi n l 0 + zQ n l=j + (zi n l 0 + zQ n l)
  omega
theorem Xj (n l:Nat):zi n (l + 1) 0=zi n l 0 + zQ n l:=rfl
theorem zrU (n l:Nat):zi n l (zQ n l)=zi n (l + 1) 0:=by rw[yB,Xj]; omega
theorem zrV {n l j l' j':Nat}(h:isS n l j=true) (h':isS n l' j'=true) (e:zi n l j=zi n l' j'):l=l'∧j=j':=by
 have mono:∀ a b,a≤b→zi n a 0≤zi n b 0:=fun a b hab=>by
  induction b with
  | zero =>
    have:a=0:=by omega
    rw[this]; exact Nat.le_refl _
  | succ b ih =>
   by_cases q:a=b + 1
   ·rw[q]; exact Nat.le_refl _
   ·have:=ih (by omega)
    rw[Xj]; omega
 have h1:=qa.1 h
 have h2:=qa.1 h'
 rw[yB n j l,yB n j' l'] at e
 rcases Nat.lt_trichotomy l l' with q | q | q
 ·have:=mono (l + 1) l' q
  rw[Xj] at this; omega
 ·subst q; exact⟨rfl,by omega⟩
 ·have:=mono (l' + 1) l q
  rw[Xj] at this; omega
theorem zrW {n:Nat}(hn:zT n=true):zq n=zi n (hS n + 1) 0:=by
 show Nat.succ (zi n (hS n) 0)=_
 rw[Xj,(zeL hn).2.1]
theorem yD {n:Nat}(hn:zT n=true):zq n≤9:=by
 obtain⟨n1,n2⟩:=xc hn
 obtain⟨k,rfl⟩:∃ k,n=Nat.succ k:=⟨n - 1,by omega⟩
 have hd:∀ m:Fin 24,zq (Nat.succ m.1)≤9:=by decide
 exact hd ⟨k,by omega⟩
theorem zrX {n l:Nat}(hn:zT n=true) (hl:l≤hS n):0 < zQ n l:=by
 obtain⟨n1,n2⟩:=xc hn
 obtain⟨k,rfl⟩:∃ k,n=Nat.succ k:=⟨n - 1,by omega⟩
 have hd:∀ m:Fin 24,∀ l:Fin 3,l.1≤hS (Nat.succ m.1)→0 < zQ (Nat.succ m.1) l.1:=by decide
 exact hd ⟨k,by omega⟩ ⟨l,by have:=(zeL hn).1; omega⟩ hl
noncomputable def xR (n:Nat) (u:Ud) (k:Nat):Nat:=@ite Nat (∃ l j,isS n l j=true∧zi n l j=k∧Vi n u l j=true) (Classical.propDecidable _) (1 - u.sl k) (u.sl k)
theorem zDz {n l j:Nat}{u:Ud}(h:isS n l j=true) (hd:Vi n u l j=true):xR n u (zi n l j)=1 - u.sl (zi n l j):=by
 unfold xR
 rw[if_pos ⟨l,j,h,rfl,hd⟩]
theorem zDA {n l j:Nat}{u:Ud}(h:isS n l j=true) (hd:Vi n u l j=false):xR n u (zi n l j)=u.sl (zi n l j):=by
 unfold xR
 rw[if_neg]
 rintro⟨l',j',q1,q2,q3⟩
 obtain⟨rfl,rfl⟩:=zrV q1 h q2
 rw[hd] at q3; cases q3
theorem zoh {n k:Nat}{u:Ud}(h:u.sl k≤1):xR n u k≤1:=by
 unfold xR
 split<;>omega
section
variable {n m:Nat}{u:Ud}{f:Nat→Nat}{l j:Nat}
theorem rnI {F:List Nat}{ρ:Nat→Nat}{nx k:Nat}{zm:KZ}:RnK F ρ nx zm (some (zbs f k)) (zbs f k) :=
 RnK.mk' rfl rfl (RnB.arr fun i hi=>by
  have e:KV.atv (trI f k) (enc i) (nI 0).v=(nI (f i)).v:=wu (f:=fun i=>nI (f i)) (z:=(nI 0).v) hi
  show RnB _ _ _ _ (KV.atv (trI f k) (enc i) (nI 0).v) (KV.atv (trI f k) (enc i) (nI 0).v)
  rw[e]; exact nfB rfl)
theorem zrY:∀ k,nd (ltL (s26 n m u f k l).2.2 (s26 n m u f k l).2.1) (jE (mOf 26) (s26 n m u f k l).1)=true
 | 0=>by kernel_rfl
 | Nat.succ k=>by kernel_rfl
theorem ze5:∀ k,nd (ltL (yf n m u f k l j).2.2 (yf n m u f k l j).2.1) (jE (mOf 26) (yf n m u f k l j).1)=true
 | 0=>by kernel_rfl
 | Nat.succ k=>by kernel_rfl
theorem zrZ {tr:KTm}{zm:KZ}:∀ k,[1,3,4,5].map (zp tr)=v26 n k l→(liB k).map (kb zm)=zBk (zU n m u) f k→atS (mOf 26) (s26 n m u f k l) tr zm
 | 0,ht,hz=>atS.of (s:=s26 n m u f 0 l) [] id ht hz (by kernel_rfl) ⟨vc (ltk rfl),zC _ rfl,zC _ rfl,zC _ rfl,trivial⟩ ⟨RnK.nf (kbU n m u),trivial⟩
 | Nat.succ k,ht,hz=>atS.of (s:=s26 n m u f (Nat.succ k) l) [] id ht hz (by kernel_rfl) ⟨vc (ltk rfl),zC _ rfl,(RnB.row rfl (ltk rfl)).v,zC _ rfl,trivial⟩ ⟨RnK.nf (kbU n m u),rnI,trivial⟩
theorem ztF {tr:KTm}{zm:KZ}:∀ k,[1,3,4,5,6].map (zp tr)=zwV n k l j→(liB k).map (kb zm)=zBk (zU n m u) f k→atS (mOf 26) (yf n m u f k l j) tr zm
 | 0,ht,hz=>atS.of (s:=yf n m u f 0 l j) [] id ht hz (by kernel_rfl) ⟨vc (ltk rfl),zC _ rfl,zC _ rfl,zC _ rfl,zC _ rfl,trivial⟩ ⟨RnK.nf (kbU n m u),trivial⟩
 | Nat.succ k,ht,hz=>atS.of (s:=yf n m u f (Nat.succ k) l j) [] id ht hz (by kernel_rfl) ⟨vc (ltk rfl),zC _ rfl,(RnB.row rfl (ltk rfl)).v,zC _ rfl,zC _ rfl,trivial⟩ ⟨RnK.nf (kbU n m u),rnI,trivial⟩
noncomputable def zgj (k i:Nat):Nat:=@Nat.rec (fun _=>Nat) 0 (fun _ _=>idA k) i
theorem ztG {tr:KTm}{zm:KZ}:∀ k,[1,3,4,5,6].map (zp tr)=[pUd,nI n,.row (idA k) .sc (Nat.succ k),nI l,nI j]→(liA k).map (kb zm)=zN (zU n m u) f k (nI (f k))→atS (mOf 26) (yf n m u f (Nat.succ k) l j) tr zm
 | 0,ht,hz=>atS.of (s:=yf n m u f 1 l j) [] (zgj 0) ht hz (by kernel_rfl) ⟨(show RnB (am zm) [] (zgj 0) 2 (V.ptr 0 [] shU) (V.ptr 0 [] shU) from RnB.ptr rfl (ltk rfl)).v,(nfB rfl).v,(show RnB (am zm) [] (zgj 0) 2 (V.row 2 .sc _) (V.row 1 .sc _) from RnB.row rfl (ltk rfl)).v,(nfB rfl).v,(nfB rfl).v,trivial⟩ ⟨RnK.nf (kbU n m u),rnI,trivial⟩
 | Nat.succ k,ht,hz=>atS.of (s:=yf n m u f (Nat.succ (Nat.succ k)) l j) [] (zgj (Nat.succ k)) (os:=[some (zU n m u),some (zbs f (Nat.succ (Nat.succ k)))]) ht (by
   have h0:kb zm 0=some (zU n m u):=congrArg (fun l=>l.getD 0 none) hz
   have h2:kb zm 3=some (zwU f (Nat.succ k) (nI (f (Nat.succ k)))):=congrArg (fun l=>l.getD 2 none) hz
   show [kb zm 0,kb zm 3]=_
   rw[h0,h2]; rfl) (by kernel_rfl) ⟨(show RnB (am zm) [] (zgj (Nat.succ k)) 2 (V.ptr 0 [] shU) (V.ptr 0 [] shU) from RnB.ptr rfl (ltk rfl)).v,(nfB rfl).v,(show RnB (am zm) [] (zgj (Nat.succ k)) 2 (V.row 3 .sc _) (V.row 1 .sc _) from RnB.row rfl (ltk rfl)).v,(nfB rfl).v,(nfB rfl).v,trivial⟩ ⟨RnK.nf (kbU n m u),rnI,trivial⟩
end
end
end Go.K
set_option maxRecDepth 100000
namespace Go.K
open Go.Ab Go.RowKit Go.Y Go.Proofs
noncomputable section
attribute [local instance 10000] gO
attribute [local irreducible] kpre cOf mOf rOf JL zu l26 YP zcT zqW zi hS zq zQ jP
theorem zEq:Tryz.f26.ntmps=41:=by kernel_rfl
theorem zEr:Tryz.f26.results.toList=rOf 26:=by kernel_rfl
theorem zEs:fl (cOf 26)=l26:=by kernel_rfl
noncomputable def zcx (n m:Nat) (u:Ud):KV:=roK .sc m fun i=>nI (xR n u i)
section
variable {n m:Nat}{u:Ud}{B N:Nat}
noncomputable abbrev Q26 (n m:Nat) (u:Ud):K4:=retJ E26 Tryz.f26 false (zcx n m u)
theorem zAr (v:KV) (tr:KTm) (zm:KZ) (nx:Nat) (h:False) (h1:MB (am zm) nx) (h2:INV (mOf 26) tr) (hr:RAll Tryz.prog (tv' (zp tr)) (am zm) (rOf 26) v.v):Q26 n m u .ret tr zm nx:=h.elim
theorem zEt {z:KBlk}{f:Nat→Nat}{zm:KZ}:∀ k,(liA k).map (kb zm)=zE z f k→(liB k).map (kb zm)=zBk z f k
 | 0,h=>by
  have h0:kb zm 0=some z:=congrArg (fun l=>l.getD 0 none) h
  show [kb zm 0]=_
  rw[h0]; rfl
 | Nat.succ k,h=>by
  have h0:kb zm 0=some z:=congrArg (fun l=>l.getD 0 none) h
  have h1:kb zm 1=some (zbs f (Nat.succ k)):=congrArg (fun l=>l.getD 1 none) h
  show [kb zm 0,kb zm 1]=_
  rw[h0,h1]; rfl
theorem zsL {f:Nat→Nat}{q l j:Nat}{Q:QT}{x:KV}(hj:j + 1 < 9223372036854775808) (hx:x=nI (f q)) (h:Q .normal [pUd,nI n,.row (idA q) .sc (Nat.succ q),nI l,nI (Nat.add j 1)] (zN (zU n m u) f q (nI (f q))) (Nat.succ (idA q))):w26 n m u f q l j Q x:=by
 subst hx
 exact ze.2 ⟨xB.2 hj,h⟩
theorem j26 (H:UOk n m u):JFn Tryz.prog 26 false [uK n m u] (zcx n m u):=by
 have leN_t:∀ {a b:Nat},leN a b=true↔a≤b:=wA
 have hh:=zeL H.n24
 have h9:=yD H.n24
 have htot:=zrW H.n24
 have hm:m=zq n:=H.tot
 obtain⟨n1,n2⟩:=xc H.n24
 refine JFn.of (P:=Tryz.prog) XP rfl (c:=cOf 26) (mOf 26) Tryz.func26 (by kernel_rfl) fun B N hN=>?_
 rw[zEq] at hN
 rw[zEs]
 refine JL.stp (n:=60) (s:=(vy (mOf 26) 0 [uK n m u],[],0)) XP rfl 4 (rOf 26) [1,3,4,5] [0] hN (by kernel_rfl) (by kernel_rfl) (fun v=>False) zAr ?_
 show zBY n m u _ _
 rw[zFb]
 intro tr zm ht hz hmb hi
 refine JL.loopT XP (fun l=>s26 n m u (xR n u) (zi n l 0) l) (fun l=>4 - l) (fun l=>l≤hS n + 1) (id:=0) (b:=YP) (l2:=l26.drop 5) (by kernel_rfl) (fun w=>zrY _) 0 (Nat.zero_le _) ?_ hmb hi ?_
 ·have e0:zi n 0 0=0:=by unfold zi; rfl
  rw[e0]
  exact zrZ 0 ht hz
 intro l hl
 show JL E26 B N (mOf 26) (fl YP) (vE (s26 n m u (xR n u) (zi n l 0) l).1) (vZ (s26 n m u (xR n u) (zi n l 0) l).2.1) (s26 n m u (xR n u) (zi n l 0) l).2.2 _
 generalize hk0:zi n l 0=k
 refine JL.stp (n:=60) XP rfl 2 (rOf 26) [1,3,4,5] (liB k) hN (by kernel_rfl) (zrY k) (fun v=>False) (fun v tr zm nx h1 h2 h3 h4=>h1.elim) ?_
 show zBZ n m u (xR n u) k l _ _
 rw[zFc]
 refine⟨H.n24,?_⟩
 simp only[zo,leN_t,bf leN_t]
 refine⟨fun hlh=>?_,fun hlh=>?_⟩
 ·intro tr zm ht hz hmb hi
  show JL E26 B N (mOf 26) ((fl YP).drop 2) tr zm (nxK k) _
  refine JL.blk (id:=1) (X:=zcT) (l2:=(fl YP).drop 3) (by kernel_rfl) hmb hi ?_
  refine JL.preS XP (zrZ (n:=n) (m:=m) (u:=u) k ht hz) (vS (by kernel_rfl)) ?_
  refine JL.stp (n:=60) XP rfl 1 (rOf 26) [1,3,4,5,6] (liB k) hN (by kernel_rfl) (zrY k) (fun v=>False) (fun v tr zm nx h1 h2 h3 h4=>h1.elim) ?_
  show zB0 n m u (xR n u) k l _ _
  rw[zFd]
  intro tr zm ht hz hmb hi
  show JL E26 B N (mOf 26) ((fl zcT).drop 1) tr zm (nxK k) _
  refine JL.loopT XP (fun j=>yf n m u (xR n u) (zi n l j) l j) (fun j=>zQ n l - j) (fun j=>j≤zQ n l) (id:=2) (b:=zqW) (l2:=(fl zcT).drop 2) (by kernel_rfl) (fun w=>ze5 _) 0 (Nat.zero_le _) ?_ hmb hi ?_
  ·rw[hk0]
   exact ztF k ht hz
  intro j hj
  show JL E26 B N (mOf 26) (fl zqW) (vE (yf n m u (xR n u) (zi n l j) l j).1) (vZ (yf n m u (xR n u) (zi n l j) l j).2.1) (yf n m u (xR n u) (zi n l j) l j).2.2 _
  by_cases hjc:j < zQ n l
  ·have hpl:isS n l j=true:=qa.2 hjc
   have hj6:=(xD H.n24 hpl).2
   have hlt:=YN H.n24 hpl
   have hnj:zi n l (j + 1)=zi n l j + 1:=by rw[yB n (j + 1) l,yB n j l]; omega
   have hT:=fun hd=>zDz (u:=u) hpl hd
   have hF:=fun hd=>zDA (u:=u) hpl hd
   have hsl:=H.sl (zi n l j) (by omega)
   revert hlt hnj hT hF hsl
   generalize zi n l j=q
   intro hlt hnj hT hF hsl
   refine JL.all (n:=60) XP rfl (rOf 26) [1,3,4,5,6] (liA q) hN (by kernel_rfl) (ze5 q) (fun v=>False) (fun v tr zm nx h1 h2 h3 h4=>h1.elim) ?_
   show XQ n m u (xR n u) q l j _ _
   rw[zB3 _ _ _ _ _ _ _ _ q (by omega)]
   refine⟨⟨H.n24,by omega⟩,?_⟩
   simp only[zo,xo,bf xo,ze,vm]
   refine⟨fun _=>⟨by omega,⟨(n,m,u,l,j),rfl,⟨by show n≤24; omega,by show l≤2; omega⟩,?_⟩⟩,fun h=>absurd hjc h⟩
   refine⟨fun hd=>⟨fun h1=>⟨?_,?_⟩,fun h1=>?_⟩,fun hd=>?_⟩
   ·rw[xB]
    show 1 - u.sl (Nat.add 0 q) < _
    omega
   ·refine zsL (by omega) ?_ ?_
    ·rw[hT hd,qv]; rfl
    ·intro tr zm ht hz hmb hi
     refine⟨j + 1,by omega,by omega,?_⟩
     show atS (mOf 26) (yf n m u (xR n u) (zi n l (j + 1)) l (j + 1)) tr zm
     rw[hnj]; exact ztG q ht hz
   ·rw[qv] at h1
    have:Nat.ble (u.sl q) 1=true:=Nat.ble_eq_true_of_le hsl
    rw[this] at h1; cases h1
   ·refine zsL (by omega) ?_ ?_
    ·rw[hF hd,qv]
    ·intro tr zm ht hz hmb hi
     refine⟨j + 1,by omega,by omega,?_⟩
     show atS (mOf 26) (yf n m u (xR n u) (zi n l (j + 1)) l (j + 1)) tr zm
     rw[hnj]; exact ztG q ht hz
  ·have hq:zi n l j=zi n (l + 1) 0:=by rw[←zrU,show j=zQ n l by omega]
   have hq9:zi n (l + 1) 0≤9:=by
    have:∀ a,a≤hS n→zi n (a + 1) 0≤zq n:=fun a ha=>by
     by_cases e:a=hS n
     ·rw[e,←htot]; exact Nat.le_refl _
     ·have q1:isS n (a + 1) 0=true:=qa.2 (by
       have:=zrX (n:=n) H.n24 (l:=a + 1) (by omega); omega)
      exact Nat.le_of_lt (YN H.n24 q1)
    have:=this l hlh
    omega
   rw[hq]
   revert hq9
   generalize hq1:zi n (l + 1) 0=q
   intro hq9
   refine JL.all (n:=60) XP rfl (rOf 26) [1,3,4,5,6] (liA q) hN (by kernel_rfl) (ze5 q) (fun v=>False) (fun v tr zm nx h1 h2 h3 h4=>h1.elim) ?_
   show XQ n m u (xR n u) q l j _ _
   rw[zB3 _ _ _ _ _ _ _ _ q (by omega)]
   refine⟨⟨H.n24,by omega⟩,?_⟩
   simp only[zo,xo,bf xo,ze,vm]
   refine⟨fun h=>absurd h hjc,fun _=>?_⟩
   intro tr zm ht hz hmb hi
   show (if (2:Nat)=2 then JL E26 B N (mOf 26) ((fl zcT).drop 2) tr zm (nxK q) _ else _)
   rw[if_pos rfl]
   refine zkg (by kernel_rfl) ?_
   show JL E26 B N (mOf 26) ((fl YP).drop 3) tr zm (nxK q) _
   refine JL.preS XP (ztF (n:=n) (m:=m) (u:=u) q ht (zEt q hz)) (vS (by kernel_rfl)) ?_
   refine JL.all (n:=60) XP rfl (rOf 26) [1,3,4,5] (liB q) hN (by kernel_rfl) (ze5 q) (fun v=>False) (fun v tr zm nx h1 h2 h3 h4=>h1.elim) ?_
   show zB1 n m u (xR n u) q l j _ _
   rw[zFe]
   simp only[ze,xB]
   refine⟨by show l + 1 < _; omega,?_⟩
   intro tr zm ht hz hmb hi
   refine⟨l + 1,by omega,by omega,?_⟩
   rw[hq1]
   exact zrZ q ht hz
 ·intro tr zm ht hz hmb hi
  show (if (0:Nat)=0 then JL E26 B N (mOf 26) (l26.drop 5) tr zm (nxK k) (Q26 n m u) else Q26 n m u (.exit 0) tr zm (nxK k))
  rw[if_pos rfl]
  refine JL.preS XP (zrZ (n:=n) (m:=m) (u:=u) k ht hz) (vS (by kernel_rfl)) ?_
  have hkm:k=m:=by
   rw[hm,htot,←hk0,show l=hS n + 1 by omega]
  obtain⟨k',rfl⟩:∃ k',k=Nat.succ k':=⟨k - 1,by
   have:zq n=Nat.succ (zi n (hS n) 0):=by unfold zq; rfl
   omega⟩
  have:=JL.goR (B:=B) (N:=N) (mask:=mOf 26) (l1:=l26.drop 5) (l2:=[]) (Q:=Q26 n m u) (n:=60) XP rfl (rOf 26) [] (liB (Nat.succ k')) (lt0:=(s26 n m u (xR n u) (Nat.succ k') l).1) (lz0:=(s26 n m u (xR n u) (Nat.succ k') l).2.1) (n0:=(s26 n m u (xR n u) (Nat.succ k') l).2.2) hN (by kernel_rfl) (zrY (Nat.succ k')) ?_
  ·rwa [List.append_nil] at this
  ·show zB4 n m u (xR n u) (Nat.succ k') l _ _
   rw[zFf]
   intro tr zm hz hmb hi hr
   refine retJ.mk rfl zEr ?_ hr
   have h1:kb zm 1=some (zbs (xR n u) (Nat.succ k')):=congrArg (fun l=>l.getD 1 none) hz
   show FzP false zm (.row 1 .sc (Nat.succ k')) (.ro true false .sc 0 m (.fa m fun i=>nI (xR n u i)))
   rw[←hkm]
   refine FzP.row h1 rfl rfl fun i hi B C M h3 h4 mm hm=>?_
   have e:KV.atv (trI (xR n u) (Nat.succ k')) (enc i) (nI 0).v=(nI (xR n u i)).v:=wu (f:=fun i=>nI (xR n u i)) (z:=(nI 0).v) hi
   have hm':R C (KV.atv (trI (xR n u) (Nat.succ k')) (enc i) (nI 0).v) mm:=hm
   rw[e] at hm'
   exact R.noref _ rfl hm'
end
noncomputable def zAs:zg:=v3 (fun x:Nat×Nat×Ud=>[uK x.1 x.2.1 x.2.2]) (fun x=>UOk x.1 x.2.1 x.2.2) fun x=>zcx x.1 x.2.1 x.2.2
theorem zpO:KCS Tryz.prog 26 zAs:=qs ⟨Tryz.f26,Tryz.func26,by kernel_rfl,by kernel_rfl⟩ fun x h=>j26 h
end
end Go.K
set_option maxRecDepth 100000
namespace Go.K
open Go.Ab Go.RowKit Go.Y Go.Proofs
noncomputable section
attribute [local instance 10000] gO
noncomputable def emS (n:Nat) (rc:Nat→Rc) (l j:Nat):Bool:=@decide (¬ ∃ i,i < n∧jP i l=j∧(rc i).st≠0) (Classical.propDecidable _)
noncomputable def jN (n:Nat) (rc:Nat→Rc):KV:=roK xv n fun i=>(rc i).k
abbrev P4e:=Nat×(Nat→Rc)×Nat×Nat
noncomputable def zxJ (x:P4e):List KV:=[jN x.1 x.2.1,nI x.2.2.1,nI x.2.2.2]
noncomputable def l46:List Code:=fl (cOf 46)
noncomputable def b46:Code:=lpB (blB (l46.getD 2 .skip))
noncomputable def zCK (n:Nat) (rc:Nat→Rc) (l j:Nat) (Q:QT) (R:zj):Prop:=pc E88 46 (l46.take 2) [0,1,2,7] [] (vy (mOf 46) 0 (zxJ (n,rc,l,j)),[],0) Q fun v _ _=>R v
noncomputable def u46 (n:Nat) (rc:Nat→Rc) (l j k:Nat):List KV:=[jN n rc,nI l,nI j,nI k]
noncomputable def s46 (n:Nat) (rc:Nat→Rc) (l j k:Nat):LS:=([(0,jN n rc),(1,nI l),(2,nI j),(7,nI k)],[],0)
theorem zFL (n:Nat) (rc:Nat→Rc) (l j:Nat) (Q:QT) (R:zj):zCK n rc l j Q R=Q .normal (u46 n rc l j 0) [] 0:=by kernel_rfl
noncomputable def zCL (n:Nat) (rc:Nat→Rc) (l j k:Nat) (Q:QT) (R:zj):Prop:=pc E88 46 (fl b46) [0,1,2,7] [] (s46 n rc l j k) Q fun v _ _=>R v
noncomputable def zxK (n:Nat) (rc:Nat→Rc) (l j k:Nat) (Q:QT):Prop:=cnd (b63 (Nat.add k 1)) (Q .normal (u46 n rc l j (Nat.add k 1)) [] 0)
theorem zFM (n:Nat) (rc:Nat→Rc) (l j k:Nat) (Q:QT) (R:zj):zCL n rc l j k Q R=alt (ltN k n) ((k < 24∧l≤2)∧alt (eqN (jP k l) j) (cnd (ixB (.ofNat k) n) (alt (!eZ (rc (Nat.add 0 k)).st) (R (.bool false)) (zxK n rc l j k Q))) (zxK n rc l j k Q)) (Q (.exit 0) (u46 n rc l j k) [] 0):=by kernel_rfl
noncomputable def zCM (n:Nat) (rc:Nat→Rc) (l j k:Nat) (Q:QT) (R:zj):Prop:=pc E88 46 (l46.drop 3) [] [] (s46 n rc l j k) Q fun v _ _=>R v
theorem zFN (n:Nat) (rc:Nat→Rc) (l j k:Nat) (Q:QT) (R:zj):zCM n rc l j k Q R=R (.bool true):=by kernel_rfl
attribute [local irreducible] kpre cOf mOf rOf JL zu l46 b46 zi hS zq zQ jP
theorem zFO:Tryz.f46.ntmps=27:=by kernel_rfl
theorem zFP:Tryz.f46.results.toList=rOf 46:=by kernel_rfl
theorem zFQ:fl (cOf 46)=l46:=by kernel_rfl
section
variable {n:Nat}{rc:Nat→Rc}{l j:Nat}{B N:Nat}{a:Bool}
noncomputable abbrev Q46 (a:Bool):K4:=retJ E88 Tryz.f46 false (.bool a)
theorem znC (v:KV) (tr:KTm) (zm:KZ) (nx:Nat) (h:v=.bool a) (h1:MB (am zm) nx) (h2:INV (mOf 46) tr) (hr:RAll Tryz.prog (tv' (zp tr)) (am zm) (rOf 46) v.v):Q46 a .ret tr zm nx:=by
 subst h
 exact retJ.mk rfl zFP (FzP.noref rfl) hr
theorem zxL {k:Nat}{tr:KTm}{zm:KZ}(ht:[0,1,2,7].map (zp tr)=u46 n rc l j k) (hz:([]:List Nat).map (kb zm)=[]):atS (mOf 46) (s46 n rc l j k) tr zm :=
 atS.of (s:=s46 n rc l j k) [] id ht hz (by kernel_rfl) ⟨zC _ rfl,zC _ rfl,zC _ rfl,zC _ rfl,trivial⟩ trivial
theorem j46 (hn:n≤24) (hl:l≤2):JFn Tryz.prog 46 false [jN n rc,nI l,nI j] (.bool (emS n rc l j)):=by
 refine JFn.of (P:=Tryz.prog) Vj rfl (c:=cOf 46) (mOf 46) Tryz.func46 (by kernel_rfl) fun B N hN=>?_
 rw[zFO] at hN
 rw[zFQ]
 refine JL.stp (n:=60) (s:=(vy (mOf 46) 0 [jN n rc,nI l,nI j],[],0)) Vj rfl 2 (rOf 46) [0,1,2,7] [] hN (by kernel_rfl) (by kernel_rfl) (fun v=>v=.bool (emS n rc l j)) znC ?_
 show zCK n rc l j _ _
 rw[zFL]
 intro tr zm ht hz hmb hi
 refine JL.loopT Vj (fun k=>s46 n rc l j k) (fun k=>n - k) (fun k=>k≤n∧∀ i,i < k→¬ (jP i l=j∧(rc i).st≠0)) (id:=0) (b:=b46) (l2:=l46.drop 3) (by kernel_rfl) (fun w=>by kernel_rfl) 0 ⟨by omega,fun i hi=>absurd hi (Nat.not_lt_zero i)⟩ (zxL ht hz) hmb hi ?_
 rintro k ⟨hk,hI⟩
 refine JL.all (n:=60) Vj rfl (rOf 46) [0,1,2,7] [] hN (by kernel_rfl) (by kernel_rfl) (fun v=>v=.bool (emS n rc l j)) (fun v tr zm nx h1 h2 h3 h4=>znC v tr zm nx h1 h2 h3 h4) ?_
 show zCL n rc l j k _ _
 rw[zFM]
 have next:k < n→¬ (jP k l=j∧(rc k).st≠0)→∀ tr zm,[0,1,2,7].map (zp tr)=u46 n rc l j (k + 1)→([]:List Nat).map (kb zm)=[]→MB (am zm) 0→INV (mOf 46) tr→∃ s',n - s' < n - k∧(s'≤n∧∀ i,i < s'→¬ (jP i l=j∧(rc i).st≠0))∧atS (mOf 46) (s46 n rc l j s') tr zm:=by
  intro hkn hno tr zm ht hz hmb hi
  refine⟨k + 1,by omega,⟨by omega,fun i hi'=>?_⟩,zxL ht hz⟩
  by_cases e:i=k
  ·rw[e]; exact hno
  ·exact hI i (by omega)
 unfold zxK
 simp only[zo,xo,bf xo,ze,xB,vm,qv,jI,bf jI,Bool.not_eq_true',Bool.not_eq_false',bf vV,vV]
 refine⟨fun hkn=>⟨⟨by omega,hl⟩,fun e=>⟨hkn,fun hc=>?_,fun hc=>⟨by show k + 1 < _; omega,next hkn fun h=>h.2 hc⟩⟩,fun e=>⟨by show k + 1 < _; omega,next hkn fun h=>e h.1⟩⟩,fun hkn=>?_⟩
 ·congr 1
  exact (@decide_eq_false _ (Classical.propDecidable _) fun h=>h ⟨k,hkn,e,hc⟩).symm
 ·intro tr zm ht hz hmb hi
  show (if (0:Nat)=0 then JL E88 B N (mOf 46) (l46.drop 3) tr zm 0 (Q46 _) else Q46 _ (.exit 0) tr zm 0)
  rw[if_pos rfl]
  refine JL.preS Vj (zxL (n:=n) (rc:=rc) ht hz) (vS (by kernel_rfl)) ?_
  refine JL.all (n:=60) Vj rfl (rOf 46) [] [] hN (by kernel_rfl) (by kernel_rfl) (fun v=>v=.bool (emS n rc l j)) znC ?_
  show zCM n rc l j k _ _
  rw[zFN]
  congr 1
  refine (@decide_eq_true _ (Classical.propDecidable _) ?_).symm
  rintro⟨i,q1,q2⟩
  exact hI i (by omega) q2
end
noncomputable def zxM:zg:=v3 zxJ (fun x=>x.1≤24∧x.2.2.1≤2) fun x=>.bool (emS x.1 x.2.1 x.2.2.1 x.2.2.2)
theorem zCN:KCS Tryz.prog 46 zxM:=qs ⟨Tryz.f46,Tryz.func46,by kernel_rfl,by kernel_rfl⟩ fun x h=>j46 h.1 h.2
end
end Go.K
set_option maxRecDepth 100000
namespace Go.K
open Go.Ab Go.RowKit Go.Y Go.Proofs
noncomputable section
attribute [local instance 10000] gO
noncomputable def qU (m:Nat) (f:Nat→Nat):KV:=roK .sc m fun i=>nI (f i)
noncomputable def E44 (s:zg):KEnv:=EO0.tab [(117,zvR),(46,zxM),(82,zql),(55,zeW),(44,s)]
noncomputable def r44 (s:zg) (n m:Nat) (rc:Nat→Rc) (now:Nat→Nat) (l j:Nat) (K:KV→Prop):Prop:=zn (E44 s) (zu (E44 s) 200) 0 44 [jN n rc,qU m now,nI l,nI j] .e 0 0 fun r _ _ _=>K r
noncomputable def z0N (j:Nat) (l:Nat) (T U:KV):KV:=.cons (kU8 l) (.cons (yH j) (.cons (.ar 4 rcZ T) (.cons (.ar 4 enZ U) .nl)))
noncomputable def zE8 (n l j w:Nat) (e x:Prop):Prop:=(zT n=true∧isS n l j=true)∧alt (ltN w (zw n l j)) x e
noncomputable def tr0 (rc:Nat→Rc) (j w:Nat):KV:=@Nat.rec (fun _=>KV) .te (fun i t=>x6 (rc (Nat.add 0 (Nat.add (Nat.mul 4 j) i))).k (enc i) t) w
noncomputable def st0 (n:Nat) (rc:Nat→Rc) (j:Nat) (K:KV→Prop) (w:Nat) (x:Prop):Prop:=zE8 n 0 j w (K (z0N j 0 (tr0 rc j w) .te)) (cnd (ixB (.ofNat (Nat.add (Nat.mul 4 j) w)) n) x)
noncomputable def zbq (n:Nat) (rc:Nat→Rc) (j:Nat) (K:KV→Prop):Prop:=st0 n rc j K 0 (st0 n rc j K 1 (st0 n rc j K 2 (st0 n rc j K 3 (st0 n rc j K 4 False))))
theorem zwM (s:zg) (n m:Nat) (rc:Nat→Rc) (now:Nat→Nat) (K:KV→Prop):r44 s n m rc now 0 0 K=zbq n rc 0 K:=by kernel_rfl
theorem zwN (s:zg) (n m:Nat) (rc:Nat→Rc) (now:Nat→Nat) (K:KV→Prop):r44 s n m rc now 0 1 K=zbq n rc 1 K:=by kernel_rfl
theorem zwO (s:zg) (n m:Nat) (rc:Nat→Rc) (now:Nat→Nat) (K:KV→Prop):r44 s n m rc now 0 2 K=zbq n rc 2 K:=by kernel_rfl
theorem zwP (s:zg) (n m:Nat) (rc:Nat→Rc) (now:Nat→Nat) (K:KV→Prop):r44 s n m rc now 0 3 K=zbq n rc 3 K:=by kernel_rfl
theorem zwQ (s:zg) (n m:Nat) (rc:Nat→Rc) (now:Nat→Nat) (K:KV→Prop):r44 s n m rc now 0 4 K=zbq n rc 4 K:=by kernel_rfl
theorem zwR (s:zg) (n m:Nat) (rc:Nat→Rc) (now:Nat→Nat) (K:KV→Prop):r44 s n m rc now 0 5 K=zbq n rc 5 K:=by kernel_rfl
abbrev P6:=Nat×Nat×(Nat→Rc)×(Nat→Nat)×Nat×Nat
noncomputable def zxd (x:P6):List KV:=[jN x.1 x.2.2.1,qU x.2.1 x.2.2.2.1,nI x.2.2.2.2.1,nI x.2.2.2.2.2]
noncomputable def sNo (nd:P6→Nd) (pre:P6→Prop):zg:=v3 zxd pre fun x=>(nd x).k
noncomputable def zFs (nd:P6→Nd) (pre:P6→Prop) (n m:Nat) (rc:Nat→Rc) (now:Nat→Nat) (k c w:Nat) (U:KV) (X:KV→Prop):Prop :=
 (zT n=true∧k≤2∧c < 4294967296)∧cnd (ixB (.ofNat (zi n k c)) m) (cnd (b63 (Nat.add (now (Nat.add 0 (zi n k c))) 1)) (∃ x:P6,[jN n rc,qU m now,nI k,nI c]=zxd x∧pre x∧(zrl (nd x).nf∧X (x6 (.cons (kU8 (Nat.mod (Nat.add (now (Nat.add 0 (zi n k c))) 1) 256)) (.cons (kBy 32 (nN (nd x).nf.dg)) .nl)) (enc w) U))))
noncomputable def zbt (nd:P6→Nd) (pre:P6→Prop) (n m:Nat) (rc:Nat→Rc) (now:Nat→Nat) (k j p:Nat) (K:KV→Prop) (rem:Nat):Nat→KV→Prop :=
 @Nat.rec (fun _=>Nat→KV→Prop) (fun w U=>((zT n=true∧isS n (Nat.succ k) j=true)∧zw n (Nat.succ k) j=p)∧K (z0N j (Nat.succ k) .te U))
  (fun _ ih w U=>((zT n=true∧isS n (Nat.succ k) j=true)∧zw n (Nat.succ k) j=p)∧∃ x:P4e,[jN n rc,nI k,nI (Nat.add (Nat.mul 4 j) w)]=zxJ x∧(x.1≤24∧x.2.2.1≤2)∧alt (!(emS x.1 x.2.1 x.2.2.1 x.2.2.2)) (zFs nd pre n m rc now k (Nat.add (Nat.mul 4 j) w) w U fun U'=>ih (Nat.succ w) U') (ih (Nat.succ w) U)) rem
noncomputable def zCe (p:Nat):zg:=fun l K=>on3 l fun n l i=>((zT n=true∧isS n l i=true)∧zw n l i=p)∧K (nI p)
theorem zFt (p:Nat):KCS Tryz.prog 117 (zCe p):=zwF.imp fun l K h=>by
 obtain⟨n,l,i,rfl,⟨h1,h2⟩,h4⟩:=JN h
 subst h2
 exact⟨h1,h4⟩
noncomputable def zfZ (p:Nat) (s:zg):KEnv:=EO0.tab [(117,zCe p),(46,zxM),(82,zql),(55,zeW),(44,s)]
noncomputable def zf0 (p:Nat) (s:zg) (n m:Nat) (rc:Nat→Rc) (now:Nat→Nat) (l j:Nat) (K:KV→Prop):Prop:=zn (zfZ p s) (zu (zfZ p s) 200) 0 44 [jN n rc,qU m now,nI l,nI j] .e 0 0 fun r _ _ _=>K r
theorem zpB (nd:P6→Nd) (pre:P6→Prop) (n m:Nat) (rc:Nat→Rc) (now:Nat→Nat) (K:KV→Prop):zf0 2 (sNo nd pre) n m rc now 1 0 K=zbt nd pre n m rc now 0 0 2 K 2 0 .te:=by kernel_rfl
theorem zpC (nd:P6→Nd) (pre:P6→Prop) (n m:Nat) (rc:Nat→Rc) (now:Nat→Nat) (K:KV→Prop):zf0 3 (sNo nd pre) n m rc now 1 0 K=zbt nd pre n m rc now 0 0 3 K 3 0 .te:=by kernel_rfl
theorem zpD (nd:P6→Nd) (pre:P6→Prop) (n m:Nat) (rc:Nat→Rc) (now:Nat→Nat) (K:KV→Prop):zf0 1 (sNo nd pre) n m rc now 1 1 K=zbt nd pre n m rc now 0 1 1 K 1 0 .te:=by kernel_rfl
end
end Go.K
