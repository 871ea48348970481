/- CommitsApply: the law walked. No condition. -/
import Derived.Test.YtkllahedaiddgaaGreatDoorZD0
import Derived.Lib.LazyBuf
set_option linter.unusedSimpArgs false
set_option linter.unusedVariables false
set_option maxRecDepth 100000
namespace Go.Proofs
open Go.RowKit
theorem Tryz.info5':(Tryz.prog.info? 5).map (fun i=>(i.zero,i.size,i.bytes))=some (some (.int .u8 0),1,1):=by kernel_rfl
theorem zbz (a:Option Addr) (cap:Nat) (w:World) :
  Calls Tryz.prog 183 #[.slice a 0 cap] w fun e w'=>∃ a' c',e=.returned (.slice a' 0 c')∧Below w.heap.size w w':=by
 obtain⟨i0,hi,hz0,hz1,hz2⟩:=info_parts Tryz.info5'
 have he:∀(w:World) (a:Option Addr) (c:Nat),(binOp .eql 23 (.slice a 0 c) (.slice none 0 0)).run Tryz.prog w=.ok (.bool a.isNone) w:=fun w a c=>run_eql_slice_nil w 23 5 a 0 c Tryz.underlying23
 go_enter Tryz.func183,Tryz.ntmps183
 cases a with
 | none =>
  go_wp2
  go_ret
  exact⟨none,0,rfl,Below.refl _ _⟩
 | some a =>
  go_wp2_with (first
   | (at_builtin; refine wpList_append_own _ rfl _ _ 23 rfl w.heap.size 5 i0 (.int .u8 0) 1 1 Tryz.underlying23 hi hz0 hz1 hz2 rfl (by decide) _ 0 [] rfl (World.ownsRow_made _ _ _ (Nat.le_refl _) (Nat.zero_le _) (by simp)) a 0 cap [] rfl rfl (by simp) (by simp) (by simp) (by simp) (by simp) ?_; intro v' w2 hown' hg3 hnil3)
   | go_in)
  go_ret
  have hb:Below w.heap.size w w2:=((Below.refl _ _).alloc (Nat.le_refl _) _).grown hg3 (by simp) (fun j hj=>by cases hj; exact Nat.le_refl _)
  rcases hown'.2 with ⟨rfl,_⟩ | ⟨g,cp,cur,rfl,_⟩
  ·exact⟨⟨_,_,rfl⟩,hb⟩
  ·exact⟨⟨_,_,rfl⟩,hb⟩
end Go.Proofs
namespace Go.K
open Go.Ab Go.RowKit Go.Y Go.Proofs
noncomputable section
attribute [local instance 10000] gO
noncomputable def zk7:List Code:=fl (cOf 183)
noncomputable def zyg (n:Nat) (b:Nat→Nat) (Q:QT) (R:RT):Prop:=pc EO0 183 zk7 [] [0,1,2] (xc (mOf 183) 0 [roN (Nat.succ n) b],[],0) Q R
theorem zyh (n:Nat) (b:Nat→Nat) (Q:QT) (R:RT):zyg n b Q R=cnd (apB 0 (Nat.succ n)) (R (.row 1 .sc (Nat.add 0 (Nat.succ n))) [some ⟨.dead,.arr 0 .sc,.unk⟩,some ⟨.row 5,.arr (Nat.add 0 (Nat.succ n)) .sc,.fa (Nat.succ n) fun j=>kU8 (b j)⟩,none] 2):=by kernel_rfl
noncomputable def zbA:List Code:=fl (cOf 146)
noncomputable def zii (n:Nat) (b:Nat→Nat):KEnv:=EO0.tab [(183,wG [roN n b] (roN n b))]
noncomputable def zvt (n:Nat) (b:Nat→Nat) (Q:QT) (R:RT):Prop:=pc (zii n b) 146 zbA [] [] (xc (mOf 146) 0 [.nilp],[],0) Q R
noncomputable def zvu (v:Vr) (Q:QT) (R:RT):Prop:=pc (zii v.ln v.by') 146 zbA [] [] (xc (mOf 146) 0 [v.k],[],0) Q R
noncomputable def zqr:KV:=.tup (.cons .nils (.cons (nI 11) .nl))
theorem zvv (n:Nat) (b:Nat→Nat) (Q:QT) (R:RT):zvt n b Q R=R zqr [] 0:=by kernel_rfl
theorem zvw (v:Vr) (Q:QT) (R:RT):zvu v Q R=alt (!v.th) (R zqr [] 0) ([roN v.ln v.by']=[roN v.ln v.by']∧cnd (slB (.ofNat 0) (.ofNat v.ln) v.ln (some (.ofNat v.ln))) (R (.tup (.cons (.ro true (decide (Int.ofNat v.ln=Int.ofNat v.ln)) .sc 0 (Nat.sub v.ln 0) (.fa v.ln fun i=>kU8 (v.by' i))) (.cons (nI 0) .nl))) [] 0)):=by kernel_rfl
noncomputable def zvx (K:KV→Prop):Prop:=zo EO0 (zp EO0 60) 0 238 [.nilp] .e 0 0 fun r _ _ _=>K r
noncomputable def zvy (v:Vr) (K:KV→Prop):Prop:=zo EO0 (zp EO0 60) 0 238 [v.k] .e 0 0 fun r _ _ _=>K r
theorem zvz (K:KV→Prop):zvx K=K (nI 0):=by kernel_rfl
theorem zvA (v:Vr) (K:KV→Prop):zvy v K=K (nI v.nm):=by kernel_rfl
attribute [local irreducible] kpre cOf mOf rOf JL zp zo zk7 zbA
theorem zyi {P:Program}{f:Nat}{s s':zk}(h:KCS P f s) (hs:∀ l K,s' l K→∃ l',l'.map KV.v=l.map KV.v∧s l' K):KCS P f s':=⟨h.1,fun l K hk=>by
 obtain⟨l',e,h2⟩:=hs l K hk
 obtain⟨v,h3,h4⟩:=h.2 l' K h2
 exact⟨v,h3,fun B μ nx mx l0 hl=>h4 B μ nx mx l0 (by rw[e]; exact hl)⟩⟩
theorem yD (o:Option Vr):(vi o).v=(Zl o).v:=by
 cases o with
 | none=>exact zc1 (by trivial) rfl rfl
 | some v=>exact zc1 (by trivial) rfl rfl
theorem zvB:Tryz.f183.ntmps=8:=by kernel_rfl
theorem zvC:Tryz.f183.results.toList=rOf 183:=by kernel_rfl
theorem zvD:fl (cOf 183)=zk7:=by kernel_rfl
theorem zmG:Tryz.f146.ntmps=19:=by kernel_rfl
theorem zij:Tryz.f146.results.toList=rOf 146:=by kernel_rfl
theorem zmH:fl (cOf 146)=zbA:=by kernel_rfl
theorem zyj {n:Nat}{b:Nat→Nat}(h:n < 1000):JFn Tryz.prog 183 false [roN (Nat.succ n) b] (roN (Nat.succ n) b):=by
 refine JFn.of (P:=Tryz.prog) zR rfl (c:=cOf 183) (mOf 183) Tryz.func183 (by kernel_rfl) fun B N hN=>?_
 rw[zvB] at hN
 rw[zvD]
 have:=JL.goR (B:=B) (N:=N) (mask:=mOf 183) (l1:=zk7) (l2:=[]) (Q:=retJ EO0 Tryz.f183 false (roN (Nat.succ n) b)) (n:=60) zR rfl (rOf 183) [] [0,1,2] (lt0:=xc (mOf 183) 0 [roN (Nat.succ n) b]) (lz0:=[]) (n0:=0) hN (by kernel_rfl) (by kernel_rfl) ?_
 ·rwa [List.append_nil] at this
 ·refine Eq.mpr (zyh n b _ _) (ze.2 ⟨Xh (by omega),?_⟩)
  intro tr zm hz hmb hi hr
  have g1:kb zm 1=some ⟨.row 5,.arr (Nat.add 0 (Nat.succ n)) .sc,.fa (Nat.succ n) fun j=>kU8 (b j)⟩:=congrArg (fun l=>l.getD 1 none) hz
  refine retJ.mk rfl zvC (v:=.row 1 .sc (Nat.add 0 (Nat.succ n))) ?_ hr
  rw[ji] at g1 ⊢
  exact FzP.row g1 rfl rfl fun i hi B C M h4 h5 mm hm=>R.noref _ rfl hm
theorem WC:KCS Tryz.prog 183 (qw (fun x:Nat×(Nat→Nat)=>[roN x.1 x.2]) (fun x=>x.1≤1000) fun x=>roN x.1 x.2):=by
 refine⟨⟨Tryz.f183,Tryz.func183,by kernel_rfl,by kernel_rfl⟩,fun l K hs=>?_⟩
 obtain⟨⟨n,b⟩,rfl,h1,hk⟩:=hs
 have h1:n≤1000:=h1
 cases n with
 | succ n=>exact (QX (args:=fun _:Unit=>[roN (Nat.succ n) b]) (pre:=fun _=>True) (res:=fun _=>roN (Nat.succ n) b) ⟨Tryz.f183,Tryz.func183,by kernel_rfl,by kernel_rfl⟩ fun x _=>zyj (by omega)).2 _ K ⟨(),rfl,trivial,hk⟩
 | zero =>
  refine⟨roN 0 b,hk,fun B μ nx mx l0 hl0=>?_⟩
  have hc:xi Tryz.prog 183 { pre:=fun l''=>@decide (l''=[roN 0 b].map KV.v) (Classical.propDecidable _),res:=fun _=>(roN 0 b).v,fresh:=true }:=by
   refine⟨⟨Tryz.f183,Tryz.func183,by kernel_rfl,by kernel_rfl⟩,fun C l'' vals hok hg hargs hpre=>?_⟩
   obtain rfl:l''=[roN 0 b].map KV.v:=@of_decide_eq_true _ (Classical.propDecidable _) hpre
   obtain⟨v,vs,rfl,⟨a,c,ha,hmc,-,hr⟩,hn⟩:=hargs
   obtain rfl:vs=[]:=hn
   obtain rfl:v=.slice a 0 c:=ha
   refine (zbz a c C.w).mono ?_
   rintro e w' ⟨a',c',rfl,hb⟩
   exact⟨hb,_,rfl,a',c',rfl,Nat.zero_le _,(fun h=>by cases h),.inl rfl⟩
  exact xZ (B:=B) (μ:=μ) (nx:=nx) (mx:=mx) zR.gn hc rfl hl0 (by rw[j2]; exact @decide_eq_true _ (Classical.propDecidable _) rfl)
end
end Go.K
set_option maxRecDepth 100000
namespace Go.K
open Go.Ab Go.RowKit Go.Y Go.Proofs
noncomputable section
attribute [local instance 10000] gO
noncomputable def l73:List Code:=fl (cOf 73)
noncomputable def zxX (L c q:Nat) (f:Ck) (o:Option Vr) (s:Nat) (Q:QT) (R:RT):Prop:=pc ((EO0.tabB [(146,wG [vi o] (wI o))])) 73 l73 [] [] (xc (mOf 73) 0 [dkK L c q f,nI s],[],0) Q R
theorem e73 (L c q:Nat) (f:Ck) (o:Option Vr) (s:Nat) (Q:QT) (R:RT):zxX L c q f o s Q R=alt (leI (.ofNat L) (.ofNat s)) (R (.tup (.cons .nils (.cons (nI 1) .nl))) [] 2) (cnd (b63 (Nat.div s 64)) (cnd (ixB (.ofNat (Nat.div s 64)) q) (cnd (ixB (.ofNat (s % 64)) 64) ([vi (f (Nat.add 0 (Nat.div s 64)) (s % 64))]=[vi o]∧R (wI o) [] 2)))):=by kernel_rfl
attribute [local irreducible] kpre cOf mOf rOf JL zp zo l73 zbA
theorem zu6 {P:Program}{f:Nat}{s s':zk}(h:KCSb P f s) (hs:∀ l K,s' l K→∃ l',l'.map KV.v=l.map KV.v∧xn l'=true∧s l' K):KCSb P f s':=⟨h.1,fun l K hk=>by
 obtain⟨l',e,hb,h2⟩:=hs l K hk
 obtain⟨v,h3,h4⟩:=h.2 l' K h2
 exact⟨v,h3,fun _ B μ nx mx=>by rw[←e]; exact h4 hb B μ nx mx⟩⟩
theorem zhY {br:Bool}{zm:KZ}{u cl:Bool}{e:Shape}{c:KV}:FzP br zm .nils (.ro u cl e 0 0 c):=fun B C M h1 h2 m hr=>⟨none,0,hr,Nat.le_refl _,fun _=>rfl,.inl rfl⟩
theorem fzZ {zm:KZ}{b:Nat→Nat}{k:Nat}:FzP true zm (.tup (.cons .nils (.cons (nI k) .nl))) (.tup (.cons (zbv 0 b) (.cons (nI k) .nl))):=FzP.tup (FzP.cons zhY (FzP.cons (FzP.noref rfl) (FzP.noref rfl)))
theorem zu7 (n:Nat):slB (.ofNat 0) (.ofNat n) n (some (.ofNat n))=true:=by
 have h1:leI (.ofNat 0) (.ofNat n)=true:=wU.2 (Nat.zero_le n)
 have h2:leI (.ofNat n) (.ofNat n)=true:=wU.2 (Nat.le_refl n)
 unfold slB
 simp only[h2,Bool.and_true,Bool.true_and]
 first | (simp only[Bool.and_eq_true]; exact⟨rfl,h1⟩) | (rw[h1]; rfl)
theorem zhZ (n:Nat) (b:Nat→Nat):ubK (roN n b)=true:=by
 show nd true (ubK (.fa n fun i=>kU8 (b i)))=true
 rw[VU fun i=>rfl]; rfl
theorem zdx (n:Nat) (b:Nat→Nat):ubK (zbv n b)=true:=by
 show nd true (ubK (.fa n fun i=>kU8 (b i)))=true
 rw[VU fun i=>rfl]; rfl
theorem zdy {n:Nat}{b:Nat→Nat}(h:n≤1000):KOk (zii n b):=zR.tab (l:=[(183,wG [roN n b] (roN n b))]) ⟨⟨WC.1,fun l K hs=>WC.2 l K (by
 obtain⟨rfl,hk⟩:=hs
 exact⟨(n,b),rfl,h,hk⟩)⟩,trivial⟩
theorem zu8:JFn Tryz.prog 146 true [.nilp] (wI none):=by
 refine JFn.of (P:=Tryz.prog) (zdy (n:=0) (b:=fun _=>0) (by omega)) rfl (c:=cOf 146) (mOf 146) Tryz.func146 (by kernel_rfl) fun B N hN=>?_
 rw[zmG] at hN
 rw[zmH]
 have:=JL.goR (B:=B) (N:=N) (mask:=mOf 146) (l1:=zbA) (l2:=[]) (Q:=retJ (zii 0 fun _=>0) Tryz.f146 true (wI none)) (n:=60) (zdy (n:=0) (b:=fun _=>0) (by omega)) rfl (rOf 146) [] [] (lt0:=xc (mOf 146) 0 [.nilp]) (lz0:=[]) (n0:=0) hN (by kernel_rfl) (by kernel_rfl) ?_
 ·rwa [List.append_nil] at this
 ·refine Eq.mpr (zvv 0 (fun _=>0) _ _) ?_
  intro tr zm hz hmb hi hr
  exact retJ.mk rfl zij fzZ hr
theorem zu9 {v:Vr}(h:v.ln≤1000):JFn Tryz.prog 146 true [v.k] (wI (some v)):=by
 refine JFn.of (P:=Tryz.prog) (zdy (b:=v.by') h) rfl (c:=cOf 146) (mOf 146) Tryz.func146 (by kernel_rfl) fun B N hN=>?_
 rw[zmG] at hN
 rw[zmH]
 have:=JL.goR (B:=B) (N:=N) (mask:=mOf 146) (l1:=zbA) (l2:=[]) (Q:=retJ (zii v.ln v.by') Tryz.f146 true (wI (some v))) (n:=60) (zdy (b:=v.by') h) rfl (rOf 146) [] [] (lt0:=xc (mOf 146) 0 [v.k]) (lz0:=[]) (n0:=0) hN (by kernel_rfl) (by kernel_rfl) ?_
 ·rwa [List.append_nil] at this
 ·refine Eq.mpr (zvw v _ _) (zh.2 ⟨fun e=>?_,fun e=>⟨rfl,ze.2 ⟨?_,?_⟩⟩⟩)
  ·have e:v.th=false:=by cases ht:v.th<;>simp [ht] at e ⊢
   intro tr zm hz hmb hi hr
   refine retJ.mk rfl zij ?_ hr
   show FzP true zm zqr (.tup (.cons (zbv (@Bool.rec (fun _=>Nat) 0 v.ln v.th) v.by') (.cons (nI (@Bool.rec (fun _=>Nat) 11 0 v.th)) .nl)))
   rw[e]
   exact fzZ
  ·exact zu7 v.ln
  ·have e:v.th=true:=by cases ht:v.th<;>simp [ht] at e ⊢
   intro tr zm hz hmb hi hr
   refine retJ.mk rfl zij ?_ hr
   show FzP true zm _ (.tup (.cons (zbv (@Bool.rec (fun _=>Nat) 0 v.ln v.th) v.by') (.cons (nI (@Bool.rec (fun _=>Nat) 11 0 v.th)) .nl)))
   rw[e,decide_eq_true rfl]
   exact FzP.ub (show nd (ubK (zbv v.ln v.by')) true=true from za.2 ⟨zdx _ _,rfl⟩)
theorem zmA:KCSb Tryz.prog 146 (qw (fun o:Option Vr=>[vi o]) (fun o=>∀ v,o=some v→v.ln≤1000) wI):=by
 refine zu6 (s:=qw (fun o:Option Vr=>[Zl o]) (fun o=>∀ v,o=some v→v.ln≤1000) wI) (qk ⟨Tryz.f146,Tryz.func146,by kernel_rfl,by kernel_rfl⟩ fun o h=>?_) fun l K hs=>?_
 ·cases o with
  | none=>exact zu8
  | some v=>exact zu9 (h v rfl)
 ·obtain⟨o,rfl,h1,h2⟩:=hs
  refine⟨[Zl o],?_,?_,o,rfl,h1,h2⟩
  ·show [(Zl o).v]=[(vi o).v]
   rw[yD]
  ·cases o<;>rfl
theorem zh0:KCS Tryz.prog 238 (qw (fun o:Option Vr=>[vi o]) (fun _=>True) fun o=>nI (Jr o)):=by
 refine zyi (s:=qw (fun o:Option Vr=>[Zl o]) (fun _=>True) fun o=>nI (Jr o)) (zes ⟨Tryz.f238,Tryz.func238,by kernel_rfl,by kernel_rfl⟩ fun l K hs=>?_) fun l K hs=>?_
 ·obtain⟨o,rfl,_,hk⟩:=hs
  cases o with
  | none=>exact⟨EO0,zR,rfl,60,fun r=>r=nI 0,_,hk,by kernel_rfl,fun r hr=>by rw[hr]; exact Imp.refl _,Eq.mpr (zvz _) rfl⟩
  | some v=>exact⟨EO0,zR,rfl,60,fun r=>r=nI v.nm,_,hk,by kernel_rfl,fun r hr=>by rw[hr]; exact Imp.refl _,Eq.mpr (zvA v _) rfl⟩
 ·obtain⟨o,rfl,h1,h2⟩:=hs
  refine⟨[Zl o],?_,o,rfl,h1,h2⟩
  show [(Zl o).v]=[(vi o).v]
  rw[yD]
end
end Go.K
set_option maxRecDepth 100000
namespace Go.K
open Go.Ab Go.RowKit Go.Y Go.Proofs
noncomputable section
attribute [local instance 10000] gO
noncomputable def zqu (o:Option Vr):KEnv:=EO0.tab [(238,wG [vi o] (nI (Jr o)))]
noncomputable def zk8:List Code:=fl (cOf 182)
noncomputable def zyl (L c q:Nat) (f:Ck) (o:Option Vr) (s:Nat) (th:Bool) (n:Nat) (b:Nat→Nat) (Q:QT) (R:RT):Prop:=pc (zqu o) 182 zk8 [] [2,3,4] (xc (mOf 182) 0 [dkK L c q f,nI s,.bool th,roN n b],[],0) Q R
noncomputable def v182 (L c q:Nat):KV:=.cons (nI L) (.cons (nI (Nat.add c 1)) (.cons (.sl 4 [] .sc 0 q (some q)) .nl))
noncomputable def o2K (f:Ck) (s:Nat):KBlk:=⟨.box 271,shC,.fa 64 fun j=>ifN j (s % 64) (.ptr 3 [] shV) (vi (f (Nat.add 0 (Nat.div s 64)) j))⟩
noncomputable def o3K (o o':Option Vr) (th:Bool) (n:Nat) (b:Nat→Nat):KBlk:=⟨.box 338,shV,.cons (.bool th) (.cons (roN n b) (.cons (nI (Nat.add (Jr o) 1)) (.cons (vi o') .nl)))⟩
noncomputable def o4K (q:Nat) (f:Ck) (s:Nat):KBlk:=⟨.box 268,.arr q .sc,.fa q fun j=>ifN j (Nat.add 0 (Nat.div s 64)) (.ptr 2 [] shC) (Vf 0 (Nat.add 0 (min q q)) j (chK f (Nat.add 0 (Nat.sub j 0))) .nilp)⟩
theorem zym (L c q:Nat) (f:Ck) (o:Option Vr) (s:Nat) (th:Bool) (n:Nat) (b:Nat→Nat) (Q:QT) (R:RT):zyl L c q f o s th n b Q R=cnd (b63 (Nat.div s 64)) (cnd (ixB (.ofNat (Nat.div s 64)) q) (alt (Xd 64 fun i=>jD (vi (f (Nat.add 0 (Nat.div s 64)) i)) true .sc) (cnd (ixB (.ofNat (s % 64)) 64) ([vi (f (Nat.add 0 (Nat.div s 64)) (s % 64))]=[vi o] ∧
  cnd (b63 (Nat.add (Jr o) 1)) (cnd (ixB (.ofNat (s % 64)) 64) (cnd (mkB (.ofNat q) (.ofNat q)) (cnd (b63 (Nat.div s 64)) (cnd (ixB (.ofNat (Nat.div s 64)) q) (cnd (b63 (Nat.add c 1)) (R (v182 L c q) [some (o2K f s),some (o3K o (f (Nat.add 0 (Nat.div s 64)) (s % 64)) th n b),some (o4K q f s)] 5)))))))) (BadN 37))):=by kernel_rfl
attribute [local irreducible] kpre cOf mOf rOf JL zp zo zk8 l73
noncomputable def chR (f:Ck) (j:Nat):KV:=.ref true shC (.fa 64 fun i=>Zl (f j i))
theorem zmK (f:Ck) (j:Nat):(chK f j).v=(chR f j).v:=by
 show V.ref true shC (.arr 64 fun i=>(vi (f j i)).v)=V.ref true shC (.arr 64 fun i=>(Zl (f j i)).v)
 simp only[yD]
theorem zdI (o:Option Vr):ubK (Zl o)=true:=by
 cases o with
 | none=>rfl
 | some v =>
  show nd true (nd true (nd (ubK (roN v.ln v.by')) (nd true (nd true true))))=true
  rw[zhZ]; rfl
theorem zil (f:Ck) (j:Nat):ubK (chR f j)=true:=by
 show nd true (ubK (.fa 64 fun i=>Zl (f j i)))=true
 rw[VU fun i=>zdI _]; rfl
theorem zyn {zm:KZ}(f:Ck) (j:Nat):FzE true zm (chK f j).v (chK f j).v:=fun B C M _ _ m hr=>by
 rw[zmK] at hr ⊢
 exact R.allT_fr (zil f j) _ hr
theorem zvH {zm:KZ}(o:Option Vr):FzE true zm (vi o).v (vi o).v:=fun B C M _ _ m hr=>by
 rw[yD] at hr ⊢
 exact R.allT_fr (zdI o) _ hr
theorem FzE.ptr {br:Bool}{zm:KZ}{id:Nat}{s:Shape}{b:KBlk}{c:V}(hb:kb zm id=some b) (ha:j0 b.k=true) (hg:FzE br zm b.v.v c):FzE br zm (.ptr id [] s) (.ref true s c):=fun B C M h1 h2 m hr =>
 R.ptr_fr (p:=[]) h1 (h2 _ _ (zu hb)) ((zU b.k b.sh b.v.v).trans ha) (fun md hm=>hg B C M h1 h2 md hm) hr
theorem FzE.arr {br:Bool}{zm:KZ}{n:Nat}{f g:Nat→V}(h:∀ i,i < n→FzE br zm (f i) (g i)):FzE br zm (.arr n f) (.arr n g):=fun B C M h1 h2 m hr=>R.arr_map (fun i hi md hm=>h i hi B C M h1 h2 md hm) hr
theorem FzE.cons {br:Bool}{zm:KZ}{a b a' b':V}(h:FzE br zm a a') (h':FzE br zm b b'):FzE br zm (.cons a b) (.cons a' b'):=fun B C M h1 h2 m hr=>R.cons_map (fun m=>h B C M h1 h2 m) (fun m=>h' B C M h1 h2 m) hr
theorem zvI {br:Bool}{zm:KZ}(o:Option Vr):FzE br zm (vi o).v .unk:=fun B C M _ _ m hr=>by
 rw[yD] at hr
 cases o with
 | none=>exact zI (C:=C) (x:=.pointer none) hr rfl
 | some v =>
  obtain⟨b,o,h1,_⟩:=hr
  exact zI (C:=C) h1 rfl
noncomputable def xW (f:Ck) (s:Nat) (v:Vr):Ck:=fun j i=>@ite _ (j=Nat.div s 64∧i=s % 64) (Classical.propDecidable _) (some v) (f j i)
noncomputable def nxV (o:Option Vr) (th:Bool) (n:Nat) (b:Nat→Nat):Vr:=⟨th,n,b,Jr o + 1⟩
noncomputable def atK (f:Ck) (s:Nat):Option Vr:=f (Nat.div s 64) (s % 64)
theorem zvJ {zm:KZ}{L c q s n:Nat}{f:Ck}{th:Bool}{b:Nat→Nat}(h2:kb zm 2=some (o2K f s)) (h3:kb zm 3=some (o3K (atK f s) (f (Nat.add 0 (Nat.div s 64)) (s % 64)) th n b)) (h4:kb zm 4=some (o4K q f s)) :
  FzP true zm (v182 L c q) (dkK L (c + 1) q (xW f s (nxV (atK f s) th n b))):=by
 refine FzP.cons (FzP.noref rfl) (FzP.cons (FzP.noref rfl) (FzP.cons ?_ (FzP.noref rfl)))
 refine FzP.sl (w:=.fa q (chK (xW f s (nxV (atK f s) th n b)))) h4 rfl rfl rfl fun j hj=>?_
 show FzE true zm (ifN (0 + j) (Nat.add 0 (Nat.div s 64)) (.ptr 2 [] shC) (Vf 0 (Nat.add 0 (min q q)) (0 + j) (chK f (Nat.add 0 (Nat.sub (0 + j) 0))) .nilp)).v (chK (xW f s (nxV (atK f s) th n b)) j).v
 rw[Nat.zero_add,ji,ji,ji,qZ,Vg]
 by_cases hs:j=Nat.div s 64
 ·rw[if_pos hs]
  refine FzE.ptr (s:=shC) h2 rfl (FzE.arr fun i hi=>?_)
  show FzE true zm (ifN i (s % 64) (.ptr 3 [] shV) (vi (f (Nat.add 0 (Nat.div s 64)) i))).v (vi (xW f s (nxV (atK f s) th n b) j i)).v
  rw[qZ,ji]
  by_cases hi2:i=s % 64
  ·rw[if_pos hi2,show xW f s (nxV (atK f s) th n b) j i=some (nxV (atK f s) th n b) from if_pos ⟨hs,hi2⟩,yD]
   refine FzE.ptr (s:=shV) h3 rfl (FzE.cons (FzE.noref rfl) (FzE.cons (fun B C M _ _ m hr=>R.allT_fr (zhZ n b) _ hr) (FzE.cons (FzE.noref rfl) (FzE.cons (zvI _) (FzE.noref rfl)))))
  ·rw[if_neg hi2,show xW f s (nxV (atK f s) th n b) j i=f j i from if_neg fun h=>hi2 h.2,hs]
   exact zvH _
 ·rw[if_neg hs,if_pos ⟨Nat.zero_le _,by simpa using hj⟩]
  have e:chK (xW f s (nxV (atK f s) th n b)) j=chK f j:=by
   unfold chK
   rw[show (fun i=>vi (xW f s (nxV (atK f s) th n b) j i))=fun i=>vi (f j i) from funext fun i=>by rw[show xW f s (nxV (atK f s) th n b) j i=f j i from if_neg fun h=>hs h.1]]
  rw[e]
  exact zyn f j
theorem zvK:Tryz.f182.ntmps=54:=by kernel_rfl
theorem zvL:Tryz.f182.results.toList=rOf 182:=by kernel_rfl
theorem zvM:fl (cOf 182)=zk8:=by kernel_rfl
theorem zmL (o:Option Vr):KOk (zqu o):=zR.tab (l:=[(238,wG [vi o] (nI (Jr o)))]) ⟨⟨zh0.1,fun l K hs=>zh0.2 l K (by
 obtain⟨rfl,hk⟩:=hs
 exact⟨o,rfl,trivial,hk⟩)⟩,trivial⟩
theorem zk9 (o:Option Vr):jD (vi o) true .sc=true:=rfl
theorem zvN {q:Nat}(h:q≤1000):mkB (.ofNat q) (.ofNat q)=true:=by
 unfold mkB
 rw[show leI 0 (.ofNat q)=true from wU.2 (Nat.zero_le q),show leI (.ofNat q) (.ofNat q)=true from wU.2 (Nat.le_refl q),show leI (.ofNat q) 16777216=true from (wU (b:=16777216)).2 (by omega)]
 rfl
structure okDk (L c q:Nat) (f:Ck):Prop where
 hq:q≤1000
 hl:L≤64 * q
 hc:c≤1000000
 hn:∀ j i,Jr (f j i)≤c
 hb:∀ j i v,f j i=some v→v.ln≤1000
theorem zyo {L c q s n:Nat}{f:Ck}{th:Bool}{b:Nat→Nat}(H:okDk L c q f) (hs:s < L):JFn Tryz.prog 182 true [dkK L c q f,nI s,.bool th,roN n b] (dkK L (c + 1) q (xW f s (nxV (atK f s) th n b))):=by
 have hq:=H.hq
 have hl:=H.hl
 have hc:=H.hc
 have hn:=H.hn (Nat.div s 64) (s % 64)
 have hd:Nat.div s 64 < q:=by show s / 64 < q; omega
 refine JFn.of (P:=Tryz.prog) (zmL (atK f s)) rfl (c:=cOf 182) (mOf 182) Tryz.func182 (by kernel_rfl) fun B N hN=>?_
 rw[zvK] at hN
 rw[zvM]
 have:=JL.goR (B:=B) (N:=N) (mask:=mOf 182) (l1:=zk8) (l2:=[]) (Q:=retJ (zqu (atK f s)) Tryz.f182 true (dkK L (c + 1) q (xW f s (nxV (atK f s) th n b)))) (n:=60) (zmL (atK f s)) rfl (rOf 182) [] [2,3,4] (lt0:=xc (mOf 182) 0 [dkK L c q f,nI s,.bool th,roN n b]) (lz0:=[]) (n0:=0) hN (by kernel_rfl) (by kernel_rfl) ?_
 ·rwa [List.append_nil] at this
 ·refine Eq.mpr (zym L c q f (atK f s) s th n b _ _) (ze.2 ⟨xe.2 (by show s / 64 < _; omega),ze.2 ⟨xQ.2 hd,zh.2 ⟨fun _=>ze.2 ⟨xQ.2 (Nat.mod_lt _ (by omega)),?_,ze.2 ⟨xe.2 (by show Jr (f (Nat.div s 64) (s % 64)) + 1 < _; omega),ze.2 ⟨xQ.2 (Nat.mod_lt _ (by omega)),ze.2 ⟨zvN hq,ze.2 ⟨xe.2 (by show s / 64 < _; omega),ze.2 ⟨xQ.2 hd,ze.2 ⟨xe.2 (by show c + 1 < _; omega),?_⟩⟩⟩⟩⟩⟩⟩,fun h=>?_⟩⟩⟩)
  ·rw[ji]; rfl
  ·intro tr zm hz hmb hi hr
   exact retJ.mk rfl zvL (zvJ (congrArg (fun l=>l.getD 0 none) hz) (congrArg (fun l=>l.getD 1 none) hz) (congrArg (fun l=>l.getD 2 none) hz)) hr
  ·rw[j6.2 fun i hi=>zk9 _] at h
   cases h
abbrev zyp:=(Nat×Nat×Nat×Ck)×Nat×Bool×Nat×(Nat→Nat)
theorem zvO:KCSb Tryz.prog 182 (qw (fun x:zyp=>[dkK x.1.1 x.1.2.1 x.1.2.2.1 x.1.2.2.2,nI x.2.1,.bool x.2.2.1,roN x.2.2.2.1 x.2.2.2.2]) (fun x=>okDk x.1.1 x.1.2.1 x.1.2.2.1 x.1.2.2.2∧x.2.1 < x.1.1) fun x=>dkK x.1.1 (x.1.2.1 + 1) x.1.2.2.1 (xW x.1.2.2.2 x.2.1 (nxV (atK x.1.2.2.2 x.2.1) x.2.2.1 x.2.2.2.1 x.2.2.2.2))):=qk ⟨Tryz.f182,Tryz.func182,by kernel_rfl,by kernel_rfl⟩ fun x h=>zyo h.1 h.2
theorem zla (o:Option Vr):ubK (wI o)=true:=by
 show nd (ubK (zbv (lnO o) (byO o))) true=true
 rw[zdx]; rfl
theorem zyq:Tryz.f73.ntmps=21:=by kernel_rfl
theorem zyr:Tryz.f73.results.toList=rOf 73:=by kernel_rfl
theorem zys:fl (cOf 73)=l73:=by kernel_rfl
theorem zyt {o:Option Vr}(h:∀ v,o=some v→v.ln≤1000):KOk (EO0.tabB [(146,wG [vi o] (wI o))]):=zR.tabB (l:=[(146,wG [vi o] (wI o))]) ⟨⟨zmA.1,fun l K hs=>zmA.2 l K (by
 obtain⟨rfl,hk⟩:=hs
 exact⟨o,rfl,h,hk⟩)⟩,trivial⟩
theorem j73 {L c q s:Nat}{f:Ck}(H:okDk L c q f) (hs:s < L):JFn Tryz.prog 73 true [dkK L c q f,nI s] (wI (atK f s)):=by
 have hq:=H.hq
 have hl:=H.hl
 have hd:Nat.div s 64 < q:=by show s / 64 < q; omega
 have ho:=zyt (o:=atK f s) (H.hb _ _)
 refine JFn.of (P:=Tryz.prog) ho rfl (c:=cOf 73) (mOf 73) Tryz.func73 (by kernel_rfl) fun B N hN=>?_
 rw[zyq] at hN
 rw[zys]
 have:=JL.goR (B:=B) (N:=N) (mask:=mOf 73) (l1:=l73) (l2:=[]) (Q:=retJ (EO0.tabB [(146,wG [vi (atK f s)] (wI (atK f s)))]) Tryz.f73 true (wI (atK f s))) (n:=60) ho rfl (rOf 73) [] [] (lt0:=xc (mOf 73) 0 [dkK L c q f,nI s]) (lz0:=[]) (n0:=0) hN (by kernel_rfl) (by kernel_rfl) ?_
 ·rwa [List.append_nil] at this
 ·refine Eq.mpr (e73 L c q f (atK f s) s _ _) (zh.2 ⟨fun h=>absurd (wU.1 h) (by omega),fun _=>ze.2 ⟨xe.2 (by show s / 64 < _; omega),ze.2 ⟨xQ.2 hd,ze.2 ⟨xQ.2 (Nat.mod_lt _ (by omega)),?_,?_⟩⟩⟩⟩)
  ·rw[ji]; rfl
  ·intro tr zm hz hmb hi hr
   exact retJ.mk rfl zyr (FzP.ub (zla _)) hr
theorem zmM:KCSb Tryz.prog 73 (qw (fun x:(Nat×Nat×Nat×Ck)×Nat=>[dkK x.1.1 x.1.2.1 x.1.2.2.1 x.1.2.2.2,nI x.2]) (fun x=>okDk x.1.1 x.1.2.1 x.1.2.2.1 x.1.2.2.2∧x.2 < x.1.1) fun x=>wI (atK x.1.2.2.2 x.2)):=qk ⟨Tryz.f73,Tryz.func73,by kernel_rfl,by kernel_rfl⟩ fun x h=>j73 h.1 h.2
end
end Go.K
set_option maxRecDepth 100000
namespace Go.K
open Go.Ab Go.RowKit Go.Y Go.Proofs
noncomputable section
attribute [local instance 10000] gO
noncomputable def l70:List Code:=fl (cOf 70)
noncomputable def d70 (n:Nat) (Q:QT) (R:RT):Prop:=pc EO0 70 l70 [] [1,3] (xc (mOf 70) 0 [nI n],[],0) Q R
noncomputable def v70 (n:Nat):KV:=.tup (.cons (.cons (nI n) (.cons (nI 0) (.cons (.sl 3 [] .sc 0 1 (some 1)) .nl))) (.cons (nI 0) .nl))
noncomputable def o70:List (Option KBlk):=[some ⟨.box 271,shC,.ar 64 .nilp .te⟩,some ⟨.box 268,.arr 1 .sc,.ar 1 .nilp (.tn (.ptr 1 [] shC) .te .te .te .te)⟩]
theorem zv9 (Q:QT) (R:RT):d70 1 Q R=R (v70 1) o70 4:=by kernel_rfl
theorem zwa (Q:QT) (R:RT):d70 2 Q R=R (v70 2) o70 4:=by kernel_rfl
theorem zwb (Q:QT) (R:RT):d70 3 Q R=R (v70 3) o70 4:=by kernel_rfl
theorem zwc (Q:QT) (R:RT):d70 4 Q R=R (v70 4) o70 4:=by kernel_rfl
theorem zwd (Q:QT) (R:RT):d70 5 Q R=R (v70 5) o70 4:=by kernel_rfl
theorem zwe (Q:QT) (R:RT):d70 6 Q R=R (v70 6) o70 4:=by kernel_rfl
theorem zwf (Q:QT) (R:RT):d70 7 Q R=R (v70 7) o70 4:=by kernel_rfl
theorem zwg (Q:QT) (R:RT):d70 8 Q R=R (v70 8) o70 4:=by kernel_rfl
theorem zwh (Q:QT) (R:RT):d70 9 Q R=R (v70 9) o70 4:=by kernel_rfl
theorem zrc (Q:QT) (R:RT):d70 10 Q R=R (v70 10) o70 4:=by kernel_rfl
theorem zre (Q:QT) (R:RT):d70 11 Q R=R (v70 11) o70 4:=by kernel_rfl
theorem zrf (Q:QT) (R:RT):d70 12 Q R=R (v70 12) o70 4:=by kernel_rfl
theorem zrg (Q:QT) (R:RT):d70 13 Q R=R (v70 13) o70 4:=by kernel_rfl
theorem zrh (Q:QT) (R:RT):d70 14 Q R=R (v70 14) o70 4:=by kernel_rfl
theorem zri (Q:QT) (R:RT):d70 15 Q R=R (v70 15) o70 4:=by kernel_rfl
theorem zrj (Q:QT) (R:RT):d70 16 Q R=R (v70 16) o70 4:=by kernel_rfl
theorem zrk (Q:QT) (R:RT):d70 17 Q R=R (v70 17) o70 4:=by kernel_rfl
theorem zrl (Q:QT) (R:RT):d70 18 Q R=R (v70 18) o70 4:=by kernel_rfl
theorem zrm (Q:QT) (R:RT):d70 19 Q R=R (v70 19) o70 4:=by kernel_rfl
theorem zrn (Q:QT) (R:RT):d70 20 Q R=R (v70 20) o70 4:=by kernel_rfl
theorem zro (Q:QT) (R:RT):d70 21 Q R=R (v70 21) o70 4:=by kernel_rfl
theorem zrp (Q:QT) (R:RT):d70 22 Q R=R (v70 22) o70 4:=by kernel_rfl
theorem zrq (Q:QT) (R:RT):d70 23 Q R=R (v70 23) o70 4:=by kernel_rfl
theorem zrr (Q:QT) (R:RT):d70 24 Q R=R (v70 24) o70 4:=by kernel_rfl
theorem zrs (Q:QT) (R:RT):d70 25 Q R=R (v70 25) o70 4:=by kernel_rfl
theorem zrt (Q:QT) (R:RT):d70 26 Q R=R (v70 26) o70 4:=by kernel_rfl
theorem zru (Q:QT) (R:RT):d70 27 Q R=R (v70 27) o70 4:=by kernel_rfl
theorem zrv (Q:QT) (R:RT):d70 28 Q R=R (v70 28) o70 4:=by kernel_rfl
theorem zrw (Q:QT) (R:RT):d70 29 Q R=R (v70 29) o70 4:=by kernel_rfl
theorem zrx (Q:QT) (R:RT):d70 30 Q R=R (v70 30) o70 4:=by kernel_rfl
theorem zry (Q:QT) (R:RT):d70 31 Q R=R (v70 31) o70 4:=by kernel_rfl
theorem zrz (Q:QT) (R:RT):d70 32 Q R=R (v70 32) o70 4:=by kernel_rfl
theorem zrA (Q:QT) (R:RT):d70 33 Q R=R (v70 33) o70 4:=by kernel_rfl
theorem zrB (Q:QT) (R:RT):d70 34 Q R=R (v70 34) o70 4:=by kernel_rfl
theorem zrC (Q:QT) (R:RT):d70 35 Q R=R (v70 35) o70 4:=by kernel_rfl
theorem zrD (Q:QT) (R:RT):d70 36 Q R=R (v70 36) o70 4:=by kernel_rfl
theorem zrE (Q:QT) (R:RT):d70 37 Q R=R (v70 37) o70 4:=by kernel_rfl
theorem zrF (Q:QT) (R:RT):d70 38 Q R=R (v70 38) o70 4:=by kernel_rfl
theorem zrG (Q:QT) (R:RT):d70 39 Q R=R (v70 39) o70 4:=by kernel_rfl
theorem zrH (Q:QT) (R:RT):d70 40 Q R=R (v70 40) o70 4:=by kernel_rfl
theorem zrI (Q:QT) (R:RT):d70 41 Q R=R (v70 41) o70 4:=by kernel_rfl
theorem zrJ (Q:QT) (R:RT):d70 42 Q R=R (v70 42) o70 4:=by kernel_rfl
theorem zrK (Q:QT) (R:RT):d70 43 Q R=R (v70 43) o70 4:=by kernel_rfl
theorem zrL (Q:QT) (R:RT):d70 44 Q R=R (v70 44) o70 4:=by kernel_rfl
theorem zrM (Q:QT) (R:RT):d70 45 Q R=R (v70 45) o70 4:=by kernel_rfl
theorem zrN (Q:QT) (R:RT):d70 46 Q R=R (v70 46) o70 4:=by kernel_rfl
theorem zrO (Q:QT) (R:RT):d70 47 Q R=R (v70 47) o70 4:=by kernel_rfl
theorem zrP (Q:QT) (R:RT):d70 48 Q R=R (v70 48) o70 4:=by kernel_rfl
theorem zrQ (Q:QT) (R:RT):d70 49 Q R=R (v70 49) o70 4:=by kernel_rfl
theorem zrR (Q:QT) (R:RT):d70 50 Q R=R (v70 50) o70 4:=by kernel_rfl
theorem zrS (Q:QT) (R:RT):d70 51 Q R=R (v70 51) o70 4:=by kernel_rfl
theorem zrT (Q:QT) (R:RT):d70 52 Q R=R (v70 52) o70 4:=by kernel_rfl
theorem zrU (Q:QT) (R:RT):d70 53 Q R=R (v70 53) o70 4:=by kernel_rfl
theorem zrV (Q:QT) (R:RT):d70 54 Q R=R (v70 54) o70 4:=by kernel_rfl
theorem zrW (Q:QT) (R:RT):d70 55 Q R=R (v70 55) o70 4:=by kernel_rfl
theorem zrX (Q:QT) (R:RT):d70 56 Q R=R (v70 56) o70 4:=by kernel_rfl
theorem zrY (Q:QT) (R:RT):d70 57 Q R=R (v70 57) o70 4:=by kernel_rfl
theorem zrZ (Q:QT) (R:RT):d70 58 Q R=R (v70 58) o70 4:=by kernel_rfl
theorem zr0 (Q:QT) (R:RT):d70 59 Q R=R (v70 59) o70 4:=by kernel_rfl
theorem zr1 (Q:QT) (R:RT):d70 60 Q R=R (v70 60) o70 4:=by kernel_rfl
theorem zr2 (Q:QT) (R:RT):d70 61 Q R=R (v70 61) o70 4:=by kernel_rfl
theorem zr3 (Q:QT) (R:RT):d70 62 Q R=R (v70 62) o70 4:=by kernel_rfl
theorem zr4 (Q:QT) (R:RT):d70 63 Q R=R (v70 63) o70 4:=by kernel_rfl
theorem zr5 (Q:QT) (R:RT):d70 64 Q R=R (v70 64) o70 4:=by kernel_rfl
theorem e70:yx (fun i=>∀ Q R,d70 (Nat.succ i) Q R=R (v70 (Nat.succ i)) o70 4) 64:=⟨⟨⟨⟨⟨⟨⟨⟨⟨⟨⟨⟨⟨⟨⟨⟨⟨⟨⟨⟨⟨⟨⟨⟨⟨⟨⟨⟨⟨⟨⟨⟨⟨⟨⟨⟨⟨⟨⟨⟨⟨⟨⟨⟨⟨⟨⟨⟨⟨⟨⟨⟨⟨⟨⟨⟨⟨⟨⟨⟨⟨⟨⟨⟨trivial,zv9⟩,zwa⟩,zwb⟩,zwc⟩,zwd⟩,zwe⟩,zwf⟩,zwg⟩,zwh⟩,zrc⟩,zre⟩,zrf⟩,zrg⟩,zrh⟩,zri⟩,zrj⟩,zrk⟩,zrl⟩,zrm⟩,zrn⟩,zro⟩,zrp⟩,zrq⟩,zrr⟩,zrs⟩,zrt⟩,zru⟩,zrv⟩,zrw⟩,zrx⟩,zry⟩,zrz⟩,zrA⟩,zrB⟩,zrC⟩,zrD⟩,zrE⟩,zrF⟩,zrG⟩,zrH⟩,zrI⟩,zrJ⟩,zrK⟩,zrL⟩,zrM⟩,zrN⟩,zrO⟩,zrP⟩,zrQ⟩,zrR⟩,zrS⟩,zrT⟩,zrU⟩,zrV⟩,zrW⟩,zrX⟩,zrY⟩,zrZ⟩,zr0⟩,zr1⟩,zr2⟩,zr3⟩,zr4⟩,zr5⟩
noncomputable def zr6 (L c q:Nat) (f:Ck) (s:Nat) (n:Nat) (b:Nat→Nat) (r:KV):KEnv:=(EO0.tab [(183,wG [roN n b] (roN n b))]).tabB [(182,wG [dkK L c q f,nI s,.bool true,roN n b] r)]
noncomputable def zah:List Code:=fl (cOf 111)
noncomputable def zyH (L c q:Nat) (f:Ck) (s:Nat) (n:Nat) (b:Nat→Nat) (L' c' q':Nat) (f':Ck) (Q:QT) (R:RT):Prop:=pc (zr6 L c q f s n b (dkK L' c' q' f')) 111 zah [] [] (xc (mOf 111) 0 [dkK L c q f,nI s,roN n b],[],0) Q R
noncomputable def zwi (L c q:Nat) (f:Ck) (s:Nat) (n:Nat) (b:Nat→Nat) (Q:QT) (R:RT):Prop:=pc EO0 111 zah [] [] (xc (mOf 111) 0 [dkK L c q f,.int .i64 (.negSucc s),roN n b],[],0) Q R
noncomputable def Z3 (e:Nat):KV:=.tup (.cons (.cons (nI 0) (.cons (nI 0) (.cons .nils .nl))) (.cons (nI e) .nl))
theorem zwj (L c q:Nat) (f:Ck) (s:Nat) (n:Nat) (b:Nat→Nat) (Q:QT) (R:RT):zwi L c q f s n b Q R=R (Z3 1) [] 3:=by kernel_rfl
theorem zyI (L c q:Nat) (f:Ck) (s:Nat) (n:Nat) (b:Nat→Nat) (L' c' q':Nat) (f':Ck) (Q:QT) (R:RT):zyH L c q f s n b L' c' q' f' Q R=alt (leI (.ofNat L) (.ofNat s)) (R (Z3 1) [] 3) (cnd (b63 (Nat.div s 64)) (cnd (ixB (.ofNat (Nat.div s 64)) q) (cnd (ixB (.ofNat (s % 64)) 64) (alt (ltI (.ofNat 256) (.ofNat n)) (R (Z3 3) [] 3) ([roN n b]=[roN n b]∧[dkK L c q f,nI s,.bool true,roN n b]=[dkK L c q f,nI s,.bool true,roN n b]∧R (.tup (.cons (dkK L' c' q' f') (.cons (nI 0) .nl))) [] 3))))):=by kernel_rfl
noncomputable def ziU:KEnv:=(EO0.tab [(183,fun l K=>False)]).tabB [(182,fun l K=>False)]
noncomputable def zwk (L c q:Nat) (f:Ck) (s:Nat) (n:Nat) (b:Nat→Nat) (Q:QT) (R:RT):Prop:=pc ziU 111 zah [] [] (xc (mOf 111) 0 [dkK L c q f,nI s,roN n b],[],0) Q R
theorem zwl (L c q:Nat) (f:Ck) (s:Nat) (n:Nat) (b:Nat→Nat) (Q:QT) (R:RT):zwk L c q f s n b Q R=alt (leI (.ofNat L) (.ofNat s)) (R (Z3 1) [] 3) (cnd (b63 (Nat.div s 64)) (cnd (ixB (.ofNat (Nat.div s 64)) q) (cnd (ixB (.ofNat (s % 64)) 64) (alt (ltI (.ofNat 256) (.ofNat n)) (R (Z3 3) [] 3) False)))):=by kernel_rfl
attribute [local irreducible] kpre cOf mOf rOf JL zp zo l70 zah
noncomputable def WH:Ck:=fun _ _=>none
noncomputable def ziV (n:Nat):KV:=.tup (.cons (dkK n 0 1 WH) (.cons (nI 0) .nl))
theorem zyJ:Tryz.f70.ntmps=21:=by kernel_rfl
theorem zyK:Tryz.f70.results.toList=rOf 70:=by kernel_rfl
theorem zyL:fl (cOf 70)=l70:=by kernel_rfl
theorem zyM {zm:KZ}{n:Nat}(h1:kb zm 1=some ⟨.box 271,shC,.ar 64 .nilp .te⟩) (h3:kb zm 3=some ⟨.box 268,.arr 1 .sc,.ar 1 .nilp (.tn (.ptr 1 [] shC) .te .te .te .te)⟩):FzP false zm (v70 n) (ziV n):=by
 refine FzP.tup (FzP.cons (FzP.cons (FzP.noref rfl) (FzP.cons (FzP.noref rfl) (FzP.cons ?_ (FzP.noref rfl)))) (FzP.noref rfl))
 refine FzP.sl (w:=.fa 1 (chK WH)) (f:=fun j=>KV.atv (.tn (.ptr 1 [] shC) .te .te .te .te) (enc j) .nilp) h3 rfl rfl rfl fun j hj=>?_
 obtain rfl:j=0:=by omega
 show FzE false zm (V.ptr 1 [] shC) (.ref true shC (.arr 64 fun i=>(vi (WH 0 i)).v))
 refine FzE.ptr h1 rfl ?_
 show FzE false zm (.arr 64 fun i=>V.nilp) (.arr 64 fun i=>(vi (WH 0 i)).v)
 refine FzE.arr fun i hi=>?_
 rw[yD]
 exact FzE.noref rfl
theorem j70 {n:Nat}(h0:0 < n) (h:n≤64):JFn Tryz.prog 70 false [nI n] (ziV n):=by
 refine JFn.of (P:=Tryz.prog) zR rfl (c:=cOf 70) (mOf 70) Tryz.func70 (by kernel_rfl) fun B N hN=>?_
 rw[zyJ] at hN
 rw[zyL]
 have:=JL.goR (B:=B) (N:=N) (mask:=mOf 70) (l1:=l70) (l2:=[]) (Q:=retJ EO0 Tryz.f70 false (ziV n)) (n:=60) zR rfl (rOf 70) [] [1,3] (lt0:=xc (mOf 70) 0 [nI n]) (lz0:=[]) (n0:=0) hN (by kernel_rfl) (by kernel_rfl) ?_
 ·rwa [List.append_nil] at this
 ·obtain⟨k,rfl⟩:∃ k,n=Nat.succ k:=⟨n - 1,by omega⟩
  refine Eq.mpr (vx e70 k (by omega) _ _) ?_
  intro tr zm hz hmb hi hr
  exact retJ.mk rfl zyK (zyM (congrArg (fun l=>l.getD 0 none) hz) (congrArg (fun l=>l.getD 1 none) hz)) hr
theorem zm7:KCS Tryz.prog 70 (qw (fun n:Nat=>[nI n]) (fun n=>0 < n∧n≤64) ziV):=QX ⟨Tryz.f70,Tryz.func70,by kernel_rfl,by kernel_rfl⟩ fun n h=>j70 h.1 h.2
structure Dk where
 L:Nat
 c:Nat
 q:Nat
 f:Ck
noncomputable def Dk.k (d:Dk):KV:=dkK d.L d.c d.q d.f
noncomputable def zDk:Dk:=⟨0,0,0,WH⟩
def Dk.ok (d:Dk):Prop:=okDk d.L d.c d.q d.f
open Classical in
noncomputable def erW (d:Dk) (z:Int) (n:Nat):Nat:=if z < 0∨(d.L:Int)≤z then 1 else if 256 < n then 3 else 0
open Classical in
noncomputable def wrD (d:Dk) (z:Int) (n:Nat) (b:Nat→Nat):Dk:=if erW d z n=0 then ⟨d.L,d.c + 1,d.q,xW d.f z.toNat (nxV (atK d.f z.toNat) true n b)⟩ else zDk
noncomputable def Zr (d:Dk) (e:Nat):KV:=.tup (.cons d.k (.cons (nI e) .nl))
theorem ziW:Tryz.f111.ntmps=29:=by kernel_rfl
theorem zdQ:Tryz.f111.results.toList=rOf 111:=by kernel_rfl
theorem ziX:fl (cOf 111)=zah:=by kernel_rfl
theorem zai {zm:KZ}{e:Nat}:FzP true zm (Z3 e) (Zr zDk e):=FzP.tup (FzP.cons (FzP.cons (FzP.noref rfl) (FzP.cons (FzP.noref rfl) (FzP.cons zhY (FzP.noref rfl)))) (FzP.noref rfl))
theorem zwm {zm:KZ}(d:Dk):FzP true zm d.k d.k:=by
 refine FzP.cons (FzP.noref rfl) (FzP.cons (FzP.noref rfl) (FzP.cons ?_ (FzP.noref rfl)))
 intro B C M h1 h2 m hr
 have e:(zp3 d.q d.f).v=(KV.ro true false .sc 0 d.q (.fa d.q (chR d.f))).v:=by
  show V.ro true false .sc d.q (fun i=>(chK d.f (0 + i)).v)=V.ro true false .sc d.q (fun i=>(chR d.f (0 + i)).v)
  simp only[zmK]
 rw[e] at hr ⊢
 refine R.allT_fr ?_ _ hr
 show nd true (ubK (.fa d.q (chR d.f)))=true
 rw[VU fun i=>zil _ _]; rfl
theorem zwn {d:Dk}(H:d.ok) {s n:Nat}{b:Nat→Nat}(hs:s < d.L) (hn:n≤1000):KOk (zr6 d.L d.c d.q d.f s n b (dkK d.L (d.c + 1) d.q (xW d.f s (nxV (atK d.f s) true n b)))) :=
 KOk.tabB (zR.tab (l:=[(183,wG [roN n b] (roN n b))]) ⟨⟨WC.1,fun l K hs=>WC.2 l K (by
  obtain⟨rfl,hk⟩:=hs
  exact⟨(n,b),rfl,hn,hk⟩)⟩,trivial⟩) (l:=[(182,wG [dkK d.L d.c d.q d.f,nI s,.bool true,roN n b] (dkK d.L (d.c + 1) d.q (xW d.f s (nxV (atK d.f s) true n b))))]) ⟨⟨zvO.1,fun l K h=>zvO.2 l K (by
  obtain⟨rfl,hk⟩:=h
  exact⟨((d.L,d.c,d.q,d.f),s,true,n,b),rfl,⟨H,hs⟩,hk⟩)⟩,trivial⟩
theorem zyN {d:Dk}(H:d.ok) {z:Int}{n:Nat}{b:Nat→Nat}(hn:n≤1000):JFn Tryz.prog 111 true [d.k,.int .i64 z,roN n b] (Zr (wrD d z n b) (erW d z n)):=by
 cases z with
 | negSucc s =>
  have e1:erW d (.negSucc s) n=1:=if_pos (.inl (Int.negSucc_lt_zero s))
  have e2:wrD d (.negSucc s) n b=zDk:=if_neg (by rw[e1]; decide)
  rw[e1,e2]
  refine JFn.of (P:=Tryz.prog) zR rfl (c:=cOf 111) (mOf 111) Tryz.func111 (by kernel_rfl) fun B N hN=>?_
  rw[ziW] at hN
  rw[ziX]
  have:=JL.goR (B:=B) (N:=N) (mask:=mOf 111) (l1:=zah) (l2:=[]) (Q:=retJ EO0 Tryz.f111 true (Zr zDk 1)) (n:=60) zR rfl (rOf 111) [] [] (lt0:=xc (mOf 111) 0 [d.k,.int .i64 (.negSucc s),roN n b]) (lz0:=[]) (n0:=0) hN (by kernel_rfl) (by kernel_rfl) ?_
  ·rwa [List.append_nil] at this
  ·refine Eq.mpr (zwj d.L d.c d.q d.f s n b _ _) ?_
   intro tr zm hz hmb hi hr
   exact retJ.mk rfl zdQ zai hr
 | ofNat s =>
  have hq:=H.hq
  have hl:=H.hl
  by_cases hs:s < d.L
  ·have hE:=zwn (b:=b) H hs hn
   refine JFn.of (P:=Tryz.prog) hE rfl (c:=cOf 111) (mOf 111) Tryz.func111 (by kernel_rfl) fun B N hN=>?_
   rw[ziW] at hN
   rw[ziX]
   have:=JL.goR (B:=B) (N:=N) (mask:=mOf 111) (l1:=zah) (l2:=[]) (Q:=retJ (zr6 d.L d.c d.q d.f s n b (dkK d.L (d.c + 1) d.q (xW d.f s (nxV (atK d.f s) true n b)))) Tryz.f111 true (Zr (wrD d (.ofNat s) n b) (erW d (.ofNat s) n))) (n:=60) hE rfl (rOf 111) [] [] (lt0:=xc (mOf 111) 0 [d.k,nI s,roN n b]) (lz0:=[]) (n0:=0) hN (by kernel_rfl) (by kernel_rfl) ?_
   ·rwa [List.append_nil] at this
   ·have hd:Nat.div s 64 < d.q:=by show s / 64 < d.q; omega
    have hz:¬ ((Int.ofNat s) < 0∨(d.L:Int)≤Int.ofNat s):=by
     rintro (h | h)
     ·exact absurd h (by simp)
     ·have:d.L≤s:=Int.ofNat_le.1 h
      omega
    refine Eq.mpr (zyI d.L d.c d.q d.f s n b d.L (d.c + 1) d.q _ _ _) (zh.2 ⟨fun h=>absurd (wU.1 h) (by omega),fun _=>ze.2 ⟨xe.2 (by show s / 64 < _; omega),ze.2 ⟨xQ.2 hd,ze.2 ⟨xQ.2 (Nat.mod_lt _ (by omega)),zh.2 ⟨fun h=>?_,fun h=>⟨rfl,rfl,?_⟩⟩⟩⟩⟩⟩)
    ·have h:=vq.1 h
     have e1:erW d (.ofNat s) n=3:=(if_neg hz).trans (if_pos h)
     have e2:wrD d (.ofNat s) n b=zDk:=if_neg (by rw[e1]; decide)
     rw[e1,e2]
     intro tr zm hz hmb hi hr
     exact retJ.mk rfl zdQ zai hr
    ·have h:=y7.1 h
     have e1:erW d (.ofNat s) n=0:=(if_neg hz).trans (if_neg (by omega))
     have e2:wrD d (.ofNat s) n b=⟨d.L,d.c + 1,d.q,xW d.f s (nxV (atK d.f s) true n b)⟩:=if_pos e1
     rw[e1,e2]
     intro tr zm hz hmb hi hr
     exact retJ.mk rfl zdQ (FzP.tup (FzP.cons (zwm ⟨d.L,d.c + 1,d.q,xW d.f s (nxV (atK d.f s) true n b)⟩) (FzP.noref rfl))) hr
  ·have e1:erW d (.ofNat s) n=1:=if_pos (.inr (Int.ofNat_le.2 (by omega)))
   have e2:wrD d (.ofNat s) n b=zDk:=if_neg (by rw[e1]; decide)
   rw[e1,e2]
   have hE:KOk ziU:=KOk.tabB (zR.tab (l:=[(183,fun l K=>False)]) ⟨⟨⟨Tryz.f183,Tryz.func183,by kernel_rfl,by kernel_rfl⟩,fun l K h=>h.elim⟩,trivial⟩) (l:=[(182,fun l K=>False)]) ⟨⟨⟨Tryz.f182,Tryz.func182,by kernel_rfl,by kernel_rfl⟩,fun l K h=>h.elim⟩,trivial⟩
   refine JFn.of (P:=Tryz.prog) hE rfl (c:=cOf 111) (mOf 111) Tryz.func111 (by kernel_rfl) fun B N hN=>?_
   rw[ziW] at hN
   rw[ziX]
   have:=JL.goR (B:=B) (N:=N) (mask:=mOf 111) (l1:=zah) (l2:=[]) (Q:=retJ ziU Tryz.f111 true (Zr zDk 1)) (n:=60) hE rfl (rOf 111) [] [] (lt0:=xc (mOf 111) 0 [d.k,nI s,roN n b]) (lz0:=[]) (n0:=0) hN (by kernel_rfl) (by kernel_rfl) ?_
   ·rwa [List.append_nil] at this
   ·refine Eq.mpr (zwl d.L d.c d.q d.f s n b _ _) (zh.2 ⟨fun _=>?_,fun h=>absurd (zsF.1 h) (by omega)⟩)
    intro tr zm hz hmb hi hr
    exact retJ.mk rfl zdQ zai hr
abbrev zeD:=Dk×Int×Nat×(Nat→Nat)
theorem ziY:KCSb Tryz.prog 111 (qw (fun x:zeD=>[x.1.k,.int .i64 x.2.1,roN x.2.2.1 x.2.2.2]) (fun x=>x.1.ok∧x.2.2.1≤1000) fun x=>Zr (wrD x.1 x.2.1 x.2.2.1 x.2.2.2) (erW x.1 x.2.1 x.2.2.1)):=qk ⟨Tryz.f111,Tryz.func111,by kernel_rfl,by kernel_rfl⟩ fun x h=>zyN h.1 h.2
end
end Go.K
set_option maxRecDepth 100000
namespace Go.K
open Go.Ab Go.RowKit Go.Y Go.Proofs
noncomputable section
attribute [local instance 10000] gO
structure AE where
 P:List KV→Prop
 δ:List KV→Dk
 ε:List KV→Nat
noncomputable def E63 (y:AE):KEnv:=EO0.tabB [(111,fun l K=>y.P l∧K (Zr (y.δ l) (y.ε l)))]
noncomputable def l63:List Code:=fl (cOf 63)
noncomputable def zpX:Code:=lpB (blB (l63.getD 4 .skip))
noncomputable def zuW:KV:=.cons (nI 0) (.cons (nI 0) (.cons .nils .nl))
noncomputable def slW (m:Nat) (W:Nat→Wr) (k:Nat):KV:=.ro true false zoS 0 k (.fa m fun i=>(W i).k)
noncomputable def v63 (m:Nat) (W:Nat→Wr) (k i:Nat):List KV:=[.ptr 0 [] qD,.ptr 1 [] qD,nI 0,slW m W k,nI k,nI i]
noncomputable def o63 (d:Dk):List (Option KBlk):=[some (bx 112 qD d.k),some (bx 112 qD zuW)]
noncomputable def s63 (d:Dk) (m:Nat) (W:Nat→Wr) (k i:Nat):LS:=([(3,.ptr 0 [] qD),(6,.ptr 1 [] qD),(7,nI 0),(23,slW m W k),(24,nI k),(25,nI i)],[(0,bx 112 qD d.k),(1,bx 112 qD zuW)],2)
noncomputable def zpY (y:AE) (d:Dk) (m:Nat) (W:Nat→Wr) (k:Nat) (Q:QT) (R:RT):Prop:=pc (E63 y) 63 (l63.take 4) [3,6,7,23,24,25] [0,1] (xc (mOf 63) 0 [d.k,va m W,nI k],[],0) Q R
theorem zuX (y:AE) (d:Dk) (m:Nat) (W:Nat→Wr) (k:Nat) (Q:QT) (R:RT):zpY y d m W k Q R=alt (ltI (.ofNat m) (.ofNat k)) (R (Z3 1) (o63 d) 2) (cnd (slB (.ofNat 0) (.ofNat k) m none) (Q .normal (v63 m W k 0) (o63 d) 2)):=by kernel_rfl
noncomputable def zuY (y:AE) (d:Dk) (m:Nat) (W:Nat→Wr) (k:Nat) (Q:QT) (R:RT):Prop:=pc (E63 y) 63 (l63.take 4) [3,6,7,23,24,25] [0,1] (xc (mOf 63) 0 [d.k,va m W,.int .i64 (.negSucc k)],[],0) Q R
theorem zxT (y:AE) (d:Dk) (m:Nat) (W:Nat→Wr) (k:Nat) (Q:QT) (R:RT):zuY y d m W k Q R=R (Z3 1) (o63 d) 2:=by kernel_rfl
noncomputable def a63 (d:Dk) (W:Nat→Wr) (i:Nat):List KV:=[d.k,.int .i64 (W (Nat.add 0 i)).sc,roN (W (Nat.add 0 i)).ln (W (Nat.add 0 i)).by']
noncomputable def zuZ (y:AE) (d:Dk) (m:Nat) (W:Nat→Wr) (k i:Nat) (Q:QT) (R:RT):Prop:=pc (E63 y) 63 (fl zpX) [3,6,7,23,24,25] [0,1] (s63 d m W k i) Q R
theorem zxU (y:AE) (d:Dk) (m:Nat) (W:Nat→Wr) (k i:Nat) (Q:QT) (R:RT):zuZ y d m W k i Q R=alt (ltN i k) (cnd (ixB (.ofNat i) k) (y.P (a63 d W i)∧alt (!(eqN (y.ε (a63 d W i)) 0)) (R (Z3 (y.ε (a63 d W i))) (o63 d) 4) (cnd (b63 (Nat.add i 1)) (Q .normal (v63 m W k (Nat.add i 1)) (o63 (y.δ (a63 d W i))) 4)))) (Q (.exit 0) (v63 m W k i) (o63 d) 2):=by kernel_rfl
noncomputable def zu0 (y:AE) (d:Dk) (m:Nat) (W:Nat→Wr) (k i:Nat) (Q:QT) (R:RT):Prop:=pc (E63 y) 63 (l63.drop 5) [] [] (s63 d m W k i) Q R
theorem zxV (y:AE) (d:Dk) (m:Nat) (W:Nat→Wr) (k i:Nat) (Q:QT) (R:RT):zu0 y d m W k i Q R=R (Zr d 0) [] 2:=by kernel_rfl
theorem zdK {n n':Nat}{b b':Nat→Nat}(h:roN n b=roN n' b'):n=n'∧b=b':=by
 unfold roN at h
 simp only[KV.ro.injEq,KV.fa.injEq,true_and,and_true] at h
 refine⟨h.1,funext fun i=>?_⟩
 have:=congrFun h.2.2 i
 unfold kU8 at this
 simp only[KV.int.injEq,true_and] at this
 exact Int.ofNat.inj this
theorem ziu {o o':Option Vr}(h:Zl o=Zl o'):o=o':=by
 cases o with
 | none=>cases o' with
  | none=>rfl
  | some v=>cases h
 | some v=>cases o' with
  | none=>cases h
  | some v' =>
   have h:v.k=v'.k:=h
   unfold Vr.k Vr.c at h
   simp only[KV.ref.injEq,KV.cons.injEq,KV.bool.injEq,true_and,and_true] at h
   obtain⟨h1,h2,h3⟩:=h
   obtain⟨h4,h5⟩:=zdK h2
   have h6:v.nm=v'.nm:=by
    unfold nI at h3
    simp only[KV.int.injEq,true_and] at h3
    exact Int.ofNat.inj h3
   obtain⟨a,b,c,d⟩:=v
   obtain⟨a',b',c',d'⟩:=v'
   subst h1 h4 h5 h6
   rfl
theorem WD {a b:Nat}(h:nI a=nI b):a=b:=by
 unfold nI at h
 simp only[KV.int.injEq,true_and] at h
 exact Int.ofNat.inj h
theorem ziv {d d':Dk}(h:d.k=d'.k):d=d':=by
 obtain⟨L,c,q,f⟩:=d
 obtain⟨L',c',q',f'⟩:=d'
 have h:dkK L c q f=dkK L' c' q' f':=h
 unfold dkK zp3 at h
 simp only[KV.cons.injEq,KV.ro.injEq,KV.fa.injEq,true_and,and_true] at h
 obtain⟨h1,h2,h3,h4⟩:=h
 obtain rfl:=WD h1
 obtain rfl:=WD h2
 obtain rfl:=h3
 have:f=f':=funext fun j=>funext fun i=>by
  have:=congrFun h4.2 j
  unfold chK at this
  simp only[KV.ref.injEq,KV.fa.injEq,true_and] at this
  have:=congrFun this i
  unfold vi at this
  simp only[KV.clo.injEq] at this
  exact ziu this
 subst this
 rfl
noncomputable def qE (x:zeD):List KV:=[x.1.k,.int .i64 x.2.1,roN x.2.2.1 x.2.2.2]
theorem ziw {x y:zeD}(h:qE x=qE y):x=y:=by
 obtain⟨d,z,n,b⟩:=x
 obtain⟨d',z',n',b'⟩:=y
 unfold qE at h
 simp only[List.cons.injEq,KV.int.injEq,true_and,and_true] at h
 obtain⟨h1,rfl,h3⟩:=h
 obtain rfl:=ziv h1
 obtain⟨rfl,rfl⟩:=zdK h3
 rfl
open Classical in
noncomputable def deA (l:List KV):zeD:=if h:∃ x,l=qE x then Classical.choose h else (zDk,0,0,fun _=>0)
theorem WE (x:zeD):deA (qE x)=x:=by
 have h:∃ y,qE x=qE y:=⟨x,rfl⟩
 unfold deA
 rw[dif_pos h]
 exact (ziw (Classical.choose_spec h)).symm
noncomputable def yA:AE:=⟨fun l=>∃ x:zeD,l=qE x∧x.1.ok∧x.2.2.1≤1000,fun l=>wrD (deA l).1 (deA l).2.1 (deA l).2.2.1 (deA l).2.2.2,fun l=>erW (deA l).1 (deA l).2.1 (deA l).2.2.1⟩
theorem WF:KOk (E63 yA):=zR.tabB (l:=[(111,fun l K=>yA.P l∧K (Zr (yA.δ l) (yA.ε l)))]) ⟨⟨ziY.1,fun l K h=>ziY.2 l K (by
 obtain⟨⟨x,rfl,h1,h2⟩,hk⟩:=h
 have e1:yA.δ (qE x)=wrD x.1 x.2.1 x.2.2.1 x.2.2.2:=by
  show wrD (deA (qE x)).1 (deA (qE x)).2.1 (deA (qE x)).2.2.1 (deA (qE x)).2.2.2=_
  rw[WE]
 have e2:yA.ε (qE x)=erW x.1 x.2.1 x.2.2.1:=by
  show erW (deA (qE x)).1 (deA (qE x)).2.1 (deA (qE x)).2.2.1=_
  rw[WE]
 rw[e1,e2] at hk
 exact⟨x,rfl,⟨h1,h2⟩,hk⟩)⟩,trivial⟩
section
variable (d:Dk) (W:Nat→Wr)
noncomputable def apE:Nat→Nat
 | 0=>0
 | i + 1=>@ite _ (apE i=0) (Classical.propDecidable _) (erW d (W i).sc (W i).ln) (apE i)
noncomputable def apD:Nat→Dk
 | 0=>d
 | i + 1=>@ite _ (apE d W (i + 1)=0) (Classical.propDecidable _) (wrD (apD i) (W i).sc (W i).ln (W i).by') zDk
end
section
variable {d:Dk}{W:Nat→Wr}
theorem VQ {i:Nat}(h:apE d W i=0):apE d W (i + 1)=erW d (W i).sc (W i).ln:=if_pos h
theorem zmU {i:Nat}(h:apE d W i≠0):apE d W (i + 1)=apE d W i:=if_neg h
theorem zdL {i:Nat}(h:apE d W (i + 1)=0):apD d W (i + 1)=wrD (apD d W i) (W i).sc (W i).ln (W i).by':=if_pos h
theorem zbE {i:Nat}(h:apE d W i≠0):∀ j,i≤j→apE d W j=apE d W i
 | 0,hj=>by rw[show i=0 by omega]
 | j + 1,hj=>by
  by_cases e:i=j + 1
  ·rw[e]
  ·have ih:=zbE h j (by omega)
   rw[zmU (by rw[ih]; exact h),ih]
theorem zix {i j:Nat}(hj:j≤i) (h:apE d W i=0):apE d W j=0:=by
 refine Classical.byContradiction fun hn=>?_
 rw[zbE hn i hj] at h
 exact hn h
theorem zmV {i:Nat}(h:apE d W i≠0):apD d W i=zDk:=by
 cases i with
 | zero=>exact absurd rfl h
 | succ i=>exact if_neg h
theorem zdM {d d':Dk}(h:d.L=d'.L) (z:Int) (n:Nat):erW d z n=erW d' z n:=by
 unfold erW
 rw[h]
theorem ziy {d:Dk}{z:Int}{n:Nat}{b:Nat→Nat}(h:erW d z n=0):wrD d z n b=⟨d.L,d.c + 1,d.q,xW d.f z.toNat (nxV (atK d.f z.toNat) true n b)⟩:=if_pos h
theorem zvU {d:Dk}{z:Int}{n:Nat}(h:erW d z n=0):0≤z∧z < d.L∧n≤256:=by
 unfold erW at h
 split at h
 ·cases h
 ·rename_i h1
  split at h
  ·cases h
  ·exact⟨by omega,by omega,by omega⟩
theorem zdN {i:Nat}(h:apE d W i=0):(apD d W i).L=d.L∧(apD d W i).q=d.q∧(apD d W i).c=d.c + i:=by
 induction i with
 | zero=>exact⟨rfl,rfl,rfl⟩
 | succ i ih =>
  have h0:=zix (Nat.le_succ i) h
  obtain⟨h1,h2,h3⟩:=ih h0
  rw[zdL h]
  rw[VQ h0] at h
  rw[ziy (by rw[zdM h1]; exact h)]
  exact⟨h1,h2,by show (apD d W i).c + 1=_; omega⟩
theorem ziz (H:d.ok) {i:Nat}(hi:d.c + i≤1000000) (h:apE d W i=0):(apD d W i).ok:=by
 induction i with
 | zero=>exact H
 | succ i ih =>
  have h0:=zix (Nat.le_succ i) h
  have ih:=ih (by omega) h0
  obtain⟨h1,h2,h3⟩:=zdN h0
  rw[zdL h]
  rw[VQ h0] at h
  have he:erW (apD d W i) (W i).sc (W i).ln=0:=by rw[zdM h1]; exact h
  rw[ziy he]
  refine⟨ih.hq,ih.hl,by show (apD d W i).c + 1≤_; omega,fun j k=>?_,fun j k v hv=>?_⟩
  ·show Jr (@ite _ _ (Classical.propDecidable _) (some (nxV _ _ _ _)) _)≤(apD d W i).c + 1
   split
   ·exact Nat.succ_le_succ (ih.hn _ _)
   ·exact Nat.le_succ_of_le (ih.hn _ _)
  ·have hv:(@ite _ _ (Classical.propDecidable _) (some (nxV _ _ _ _)) ((apD d W i).f j k))=some v:=hv
   split at hv
   ·cases hv
    have:=(zvU he).2.2
    show (W i).ln≤1000
    omega
   ·exact ih.hb _ _ _ hv
end
open Classical in
noncomputable def apZ (d:Dk) (m:Nat) (W:Nat→Wr) (k:Int):Nat:=if k < 0∨(m:Int) < k then 1 else apE d W k.toNat
open Classical in
noncomputable def apR (d:Dk) (m:Nat) (W:Nat→Wr) (k:Int):Dk:=if k < 0∨(m:Int) < k then zDk else apD d W k.toNat
theorem zvV {k m:Nat}(h:k≤m):slB (.ofNat 0) (.ofNat k) m none=true:=by
 have h1:leI (.ofNat 0) (.ofNat k)=true:=wU.2 (Nat.zero_le k)
 have h2:leI (.ofNat k) (.ofNat m)=true:=wU.2 h
 unfold slB
 simp only[h2,Bool.and_true,Bool.true_and]
 first | (simp only[Bool.and_eq_true]; exact⟨rfl,h1⟩) | (rw[h1]; rfl)
attribute [local irreducible] kpre cOf mOf rOf JL zp zo l63 zpX
theorem zvW:Tryz.f63.ntmps=45:=by kernel_rfl
theorem zqE:Tryz.f63.results.toList=rOf 63:=by kernel_rfl
theorem zvX:fl (cOf 63)=l63:=by kernel_rfl
theorem ziA (d:Dk):zY 0 (bx 112 qD d.k).v=true:=by kernel_rfl
theorem zle (m:Nat) (W:Nat→Wr) (k:Nat):zY 0 (slW m W k)=true:=by kernel_rfl
theorem zqF {d:Dk}{m k i:Nat}{W:Nat→Wr}{tr:KTm}{zm:KZ}(ht:[3,6,7,23,24,25].map (zj tr)=v63 m W k i) (hz:[0,1].map (kb zm)=o63 d):atS (mOf 63) (s63 d m W k i) tr zm :=
 atS.of (s:=s63 d m W k i) [] id ht hz (by kernel_rfl) ⟨xU (ltk rfl),xU (ltk rfl),zq _ rfl,zq _ (zle _ _ _),zq _ rfl,zq _ rfl,trivial⟩ ⟨RnK.nf (ziA d),RnK.nf rfl,trivial⟩
theorem j63 {d:Dk}(H:d.ok) {m:Nat}{W:Nat→Wr}{k:Int}(hm:d.c + m≤1000000) (hw:∀ i,i < m→(W i).ln≤1000):JFn Tryz.prog 63 true [d.k,va m W,.int .i64 k] (Zr (apR d m W k) (apZ d m W k)):=by
 cases k with
 | negSucc k =>
  have hk:(Int.negSucc k) < 0∨(m:Int) < Int.negSucc k:=.inl (Int.negSucc_lt_zero k)
  rw[show apR d m W (.negSucc k)=zDk from if_pos hk,show apZ d m W (.negSucc k)=1 from if_pos hk]
  refine JFn.of (P:=Tryz.prog) WF rfl (c:=cOf 63) (mOf 63) Tryz.func63 (by kernel_rfl) fun B N hN=>?_
  rw[zvW] at hN
  rw[zvX]
  refine JL.stp (n:=60) (s:=(xc (mOf 63) 0 [d.k,va m W,.int .i64 (.negSucc k)],[],0)) WF rfl 4 (rOf 63) [3,6,7,23,24,25] [0,1] hN (by kernel_rfl) (by kernel_rfl) (fun v=>v=Z3 1) (fun v tr zm nx h1 h2 h3 h4=>by
   subst h1
   exact retJ.mk rfl zqE zai h4) ?_
  show zuY yA d m W k _ _
  rw[zxT]
 | ofNat k =>
  have hz:∀ {e:Nat}(v:KV) (tr:KTm) (zm:KZ) (nx:Nat),v=Z3 e→RAll Tryz.prog (tv' (zj tr)) (am zm) (rOf 63) v.v→retJ (E63 yA) Tryz.f63 true (Zr zDk e) .ret tr zm nx:=fun v tr zm nx h1 h4=>by
   subst h1
   exact retJ.mk rfl zqE zai h4
  refine JFn.of (P:=Tryz.prog) WF rfl (c:=cOf 63) (mOf 63) Tryz.func63 (by kernel_rfl) fun B N hN=>?_
  rw[zvW] at hN
  rw[zvX]
  by_cases hk:m < k
  ·have hk':(Int.ofNat k) < 0∨(m:Int) < Int.ofNat k:=.inr (Int.ofNat_lt.2 hk)
   rw[show apR d m W (.ofNat k)=zDk from if_pos hk',show apZ d m W (.ofNat k)=1 from if_pos hk']
   refine JL.stp (n:=60) (s:=(xc (mOf 63) 0 [d.k,va m W,nI k],[],0)) WF rfl 4 (rOf 63) [3,6,7,23,24,25] [0,1] hN (by kernel_rfl) (by kernel_rfl) (fun v=>v=Z3 1) (fun v tr zm nx h1 h2 h3 h4=>hz v tr zm nx h1 h4) ?_
   show zpY yA d m W k _ _
   rw[zuX]
   exact zh.2 ⟨fun _=>rfl,fun h=>absurd (y7.1 h) (by omega)⟩
  ·have hk':¬ ((Int.ofNat k) < 0∨(m:Int) < Int.ofNat k):=by
    rintro (h | h)
    ·exact absurd h (by simp)
    ·exact hk (Int.ofNat_lt.1 h)
   rw[show apR d m W (.ofNat k)=apD d W k from if_neg hk',show apZ d m W (.ofNat k)=apE d W k from if_neg hk']
   refine JL.stp (n:=60) (s:=(xc (mOf 63) 0 [d.k,va m W,nI k],[],0)) WF rfl 4 (rOf 63) [3,6,7,23,24,25] [0,1] hN (by kernel_rfl) (by kernel_rfl) (fun v=>False) (fun v tr zm nx h1 h2 h3 h4=>h1.elim) ?_
   show zpY yA d m W k _ _
   rw[zuX]
   refine zh.2 ⟨fun h=>absurd (vq.1 h) hk,fun _=>ze.2 ⟨zvV (by omega),?_⟩⟩
   intro tr zm ht hzz hmb hi
   refine JL.loopT WF (fun i=>s63 (apD d W i) m W k i) (fun i=>k - i) (fun i=>i≤k∧apE d W i=0) (id:=0) (b:=zpX) (l2:=l63.drop 5) (by kernel_rfl) (fun w=>by kernel_rfl) 0 ⟨Nat.zero_le _,rfl⟩ (zqF (d:=apD d W 0) ht hzz) hmb hi ?_
   rintro i ⟨hik,he⟩
   obtain⟨L1,L2,L3⟩:=zdN he
   refine JL.all (n:=60) WF rfl (rOf 63) [3,6,7,23,24,25] [0,1] hN (by kernel_rfl) (by kernel_rfl) (fun v=>v=Z3 (apE d W k)∧apE d W k≠0) (fun v tr zm nx h1 h2 h3 h4=>by
    rw[zmV h1.2]
    exact hz v tr zm nx h1.1 h4) ?_
   show zuZ yA (apD d W i) m W k i _ _
   rw[zxU]
   have ha:a63 (apD d W i) W i=qE (apD d W i,(W i).sc,(W i).ln,(W i).by'):=by
    unfold a63
    rw[ji]; rfl
   have e1:yA.δ (a63 (apD d W i) W i)=wrD (apD d W i) (W i).sc (W i).ln (W i).by':=by
    rw[ha]
    show wrD (deA _).1 (deA _).2.1 (deA _).2.2.1 (deA _).2.2.2=_
    rw[WE]
   have e2:yA.ε (a63 (apD d W i) W i)=erW d (W i).sc (W i).ln:=by
    rw[ha]
    show erW (deA _).1 (deA _).2.1 (deA _).2.2.1=_
    rw[WE]
    exact zdM L1 _ _
   rw[e1,e2,ha]
   refine zh.2 ⟨fun q=>?_,fun q=>?_⟩
   ·have q:=jM.1 q
    refine ze.2 ⟨xQ.2 q,⟨_,rfl,ziz H (by omega) he,hw i (by omega)⟩,zh.2 ⟨fun q2=>?_,fun q2=>ze.2 ⟨xe.2 (by show i + 1 < _; omega),?_⟩⟩⟩
    ·have hne:apE d W (i + 1)≠0:=by
      rw[VQ he]
      intro h
      rw[h] at q2
      exact absurd q2 (by decide)
     have hk2:=zbE hne k (by omega)
     refine⟨?_,by rw[hk2]; exact hne⟩
     rw[hk2,VQ he]
    ·have h0:apE d W (i + 1)=0:=by
      rw[VQ he]
      refine Classical.byContradiction fun hn=>?_
      rw[show eqN (erW d (W i).sc (W i).ln) 0=false from zcH.2 hn] at q2
      cases q2
     intro tr zm ht hzz hmb hi
     refine⟨i + 1,by omega,⟨by omega,h0⟩,?_⟩
     exact zqF ht (by rw[zdL h0]; exact hzz)
   ·have q:¬ (i < k):=(bf jM).1 q
    obtain rfl:i=k:=by omega
    intro tr zm ht hzz hmb hi
    refine zdu 0 ?_
    refine JL.preS WF (zqF (d:=apD d W i) ht hzz) (xx (by kernel_rfl)) ?_
    refine JL.all (n:=60) WF rfl (rOf 63) [] [] hN (by kernel_rfl) (by kernel_rfl) (fun v=>v=Zr (apD d W i) 0) (fun v tr zm nx h1 h2 h3 h4=>by
     subst h1
     rw[he]
     exact retJ.mk rfl zqE (FzP.tup (FzP.cons (zwm _) (FzP.noref rfl))) h4) ?_
    show zu0 yA (apD d W i) m W i i _ _
    rw[zxV]
abbrev P63:=Dk×Nat×(Nat→Wr)×Int
theorem ziB:KCSb Tryz.prog 63 (qw (fun x:P63=>[x.1.k,va x.2.1 x.2.2.1,.int .i64 x.2.2.2]) (fun x=>x.1.ok∧x.1.c + x.2.1≤1000000∧∀ i,i < x.2.1→(x.2.2.1 i).ln≤1000) fun x=>Zr (apR x.1 x.2.1 x.2.2.1 x.2.2.2) (apZ x.1 x.2.1 x.2.2.1 x.2.2.2)):=qk ⟨Tryz.f63,Tryz.func63,by kernel_rfl,by kernel_rfl⟩ fun x h=>j63 h.1 h.2.1 h.2.2
end
end Go.K
set_option maxRecDepth 100000
namespace Go.K
open Go.Ab Go.RowKit Go.Y Go.Proofs
noncomputable section
attribute [local instance 10000] gO
structure LE where
 m:Nat
 W:Nat→Wr
 a:Nat
 k:Int
 P:List KV→Prop
 δ:List KV→Dd
 D:Dk
 e:Nat
 P73:List KV→Prop
 o:List KV→Option Vr
 P74:List KV→Prop
 γ:List KV→Cv
 c:Nat
 g:Nat→Int
 P63:Prop
noncomputable def LE.n (y:LE):Nat:=Nat.add 1 (y.a % 40)
noncomputable def scK (c:Nat) (g:Nat→Int):KV:=.ro true true .sc 0 c (.fa c fun i=>.int .i64 (g i))
noncomputable def dk0 (y:LE):KV:=dkK y.n 0 1 WH
noncomputable def zuI (y:LE):List (Nat×zk):=[(22,xm [] (.bool true)),(70,wG [nI y.n] (ziV y.n)),(74,fun l K=>y.P74 l∧K (y.γ l).k),(75,fun l K=>y.P63∧wG [va y.m y.W] (scK y.c y.g) l K)]
noncomputable def EL (y:LE):KEnv:=(EO0.tab (zuI y)).tabB [(71,wG [nI y.n] (dK y.n jj)),(65,fun l K=>y.P l∧K (dK y.n (y.δ l))),(63,fun l K=>y.P63∧wG [dk0 y,va y.m y.W,.int .i64 y.k] (Zr y.D y.e) l K),(73,fun l K=>y.P73 l∧K (wI (y.o l)))]
noncomputable def l12:List Code:=fl (cOf 12)
noncomputable def a12 (y:LE):List KV:=[kU8 y.a,va y.m y.W,.int .i64 y.k]
noncomputable def vL2 (y:LE) (bad i:Nat):List KV:=[va y.m y.W,.int .i64 y.k,nI y.n,.ptr 0 [] qD,.ptr 1 [] shD,nI bad,nI i]
noncomputable def oL2 (y:LE) (d:Dd):List (Option KBlk):=[some (bx 112 qD (dk0 y)),some (bx 77 shD (dK y.n d))]
noncomputable def dL1 (y:LE) (Q:QT) (R:RT):Prop:=pc (EL y) 12 (l12.take 12) [1,2,7,8,10,11,12] [0,1] (xc (mOf 12) 0 (a12 y),[],0) Q R
theorem eL1 (y:LE) (Q:QT) (R:RT):dL1 y Q R=alt (ltI (.ofNat 12) (.ofNat y.m)) (R (.bool true) [none,none] 0) (cnd (b63 y.a) (cnd (b63 y.n) ([nI y.n]=[nI y.n]∧[nI y.n]=[nI y.n]∧alt (ltI y.k (.ofNat 0)) (Q .normal (vL2 y 1 0) (oL2 y jj) 2) (alt (ltI (.ofNat y.m) y.k) (Q .normal (vL2 y 1 0) (oL2 y jj) 2) (Q .normal (vL2 y 0 0) (oL2 y jj) 2))))):=by kernel_rfl
noncomputable def sL1 (y:LE) (bad:Nat) (d:Dd) (i:Nat):LS:=([(1,va y.m y.W),(2,.int .i64 y.k),(7,nI y.n),(8,.ptr 0 [] qD),(10,.ptr 1 [] shD),(11,nI bad),(12,nI i)],[(0,bx 112 qD (dk0 y)),(1,bx 77 shD (dK y.n d))],2)
noncomputable def bL1:Code:=lpB (blB (l12.getD 12 .skip))
noncomputable def nxL (y:LE) (Q:QT) (i bad:Nat) (d:Dd):Prop:=cnd (b63 (Nat.add i 1)) (Q .normal (vL2 y bad (Nat.add i 1)) (oL2 y d) 2)
noncomputable def pkN (n:Nat) (b:Nat→Nat):Nat:=pkA (byK (.fa n fun i=>kU8 (b i)) 0) n
noncomputable def zpO (n:Nat) (b:Nat→Nat):Bool:=Xd n fun j=>is8 (zM (Nat.add 0 j) (.fa n fun i=>kU8 (b i)))
noncomputable def a65 (L:Nat) (d:Dd) (z:Int) (v:Cv):List KV:=[dK L d,.int .i64 z,v.k]
noncomputable def LE.w (y:LE) (i:Nat):Wr:=y.W (Nat.add 0 i)
noncomputable def nxP (y:LE) (Q:QT) (i bad:Nat) (l:List KV):Prop:=y.P l∧nxL y Q i bad (y.δ l)
noncomputable def dL2 (y:LE) (bad:Nat) (d:Dd) (i:Nat) (Q:QT) (R:RT):Prop:=pc (EL y) 12 (fl bL1) [1,2,7,8,10,11,12] [0,1] (sL1 y bad d i) Q R
theorem eL2 (y:LE) (bad:Nat) (d:Dd) (i:Nat) (Q:QT) (R:RT):dL2 y bad d i Q R=alt (ltI (.ofNat i) (.ofNat y.m)) (cnd (ixB (.ofNat i) y.m) (alt (ltI (.ofNat 300) (.ofNat (y.w i).ln)) (R (.bool true) (oL2 y d) 2) (alt (!(eqI (.ofNat bad) (.ofNat 0))) (nxL y Q i bad d) (alt (leI y.k (.ofNat i)) (nxL y Q i bad d)
 (cnd (ixB (.ofNat i) y.m) (alt (ltI (y.w i).sc (.ofNat 0)) (nxL y Q i 1 d) (cnd (ixB (.ofNat i) y.m) (alt (leI (.ofNat y.n) (y.w i).sc) (nxL y Q i 1 d) (cnd (ixB (.ofNat i) y.m) (alt (ltI (.ofNat 256) (.ofNat (y.w i).ln)) (nxL y Q i 3 d)
 (cnd (ixB (.ofNat i) y.m) (cnd (ixB (.ofNat i) y.m) (alt (Nat.beq (y.w i).ln 0) (nxP y Q i bad (a65 y.n d (y.w i).sc ⟨true,0,0⟩)) (cnd (zpO (y.w i).ln (y.w i).by') (nxP y Q i bad (a65 y.n d (y.w i).sc ⟨true,(y.w i).ln,pkN (y.w i).ln (y.w i).by'⟩)))))))))))))))) (Q (.exit 0) (vL2 y bad i) (oL2 y d) 2):=by kernel_rfl
noncomputable def vL4 (y:LE) (i:Nat):List KV:=[va y.m y.W,nI y.n,nI y.e,.ptr 1 [] shD,.ptr 2 [] qD,nI i]
noncomputable def oL4 (y:LE) (d:Dd):List (Option KBlk):=[some (bx 77 shD (dK y.n d)),some (bx 112 qD y.D.k)]
noncomputable def dL3 (y:LE) (bad:Nat) (d:Dd) (i:Nat) (Q:QT) (R:RT):Prop:=pc (EL y) 12 ((l12.drop 13).take 4) [1,7,9,10,13,14] [1,2] (sL1 y bad d i) Q R
theorem eL3 (y:LE) (bad:Nat) (d:Dd) (i:Nat) (Q:QT) (R:RT):dL3 y bad d i Q R=(y.P63∧[dk0 y,va y.m y.W,.int .i64 y.k]=[dk0 y,va y.m y.W,.int .i64 y.k]∧alt (!(eqI (.ofNat y.e) (.ofNat bad))) (R (.bool false) (oL4 y d) 3) (alt (!(eqI (.ofNat y.e) (.ofNat 0))) (alt (!(eqI (.ofNat y.D.L) (.ofNat 0))) (R (.bool false) (oL4 y d) 3) (Q .normal (vL4 y 0) (oL4 y d) 3)) (Q .normal (vL4 y 0) (oL4 y d) 3))):=by kernel_rfl
noncomputable def sL4 (y:LE) (d:Dd) (i:Nat):LS:=([(1,va y.m y.W),(7,nI y.n),(9,nI y.e),(10,.ptr 1 [] shD),(13,.ptr 2 [] qD),(14,nI i)],[(1,bx 77 shD (dK y.n d)),(2,bx 112 qD y.D.k)],3)
noncomputable def bL4:Code:=lpB (blB (l12.getD 17 .skip))
noncomputable def dL4 (y:LE) (d:Dd) (i:Nat) (Q:QT) (R:RT):Prop:=pc (EL y) 12 (fl bL4) [1,7,9,10,13,14] [1,2] (sL4 y d i) Q R
noncomputable def thE (o:Option Vr) (v:Cv):Bool:=@Bool.rec (fun _=>Bool) (@Bool.rec (fun _=>Bool) true false v.th) v.th (eqI (.ofNat (erO o)) 0)
noncomputable def stE (n x:Nat) (v:Cv):Bool:=@Bool.rec (fun _=>Bool) false (Nat.beq (pkx .u8 x 0 n) (pkx .u8 v.st 0 v.ln)) (Nat.beq n v.ln)
noncomputable def nx4 (y:LE) (Q:QT) (i:Nat) (d:Dd):Prop:=cnd (b63 (Nat.add i 1)) (Q .normal (vL4 y (Nat.add i 1)) (oL4 y d) 4)
noncomputable def t4 (y:LE) (d:Dd) (i:Nat) (Q:QT) (R:RT) (o:Option Vr) (v:Cv):Prop:=alt (!(thE o v)) (R (.bool false) (oL4 y d) 4) (alt (Nat.beq (lnO o) 0) (alt (!(stE 0 0 v)) (R (.bool false) (oL4 y d) 4) (nx4 y Q i d)) (cnd (zpO (lnO o) (byO o)) (alt (!(stE (lnO o) (pkN (lnO o) (byO o)) v)) (R (.bool false) (oL4 y d) 4) (nx4 y Q i d))))
theorem eL4 (y:LE) (d:Dd) (i:Nat) (Q:QT) (R:RT):dL4 y d i Q R=alt (ltI (.ofNat i) (.ofNat y.n)) (alt (eqI (.ofNat y.e) (.ofNat 0)) (y.P73 [y.D.k,nI i]∧y.P74 [dK y.n d,nI i]∧t4 y d i Q R (y.o [y.D.k,nI i]) (y.γ [dK y.n d,nI i])) (Q (.exit 2) (vL4 y i) (oL4 y d) 3)) (Q (.exit 2) (vL4 y i) (oL4 y d) 3):=by kernel_rfl
noncomputable def v6 (y:LE) (mn i:Nat):List KV:=[va y.m y.W,scK y.c y.g,nI mn,nI i]
noncomputable def dL5 (y:LE) (d:Dd) (i:Nat) (Q:QT) (R:RT):Prop:=pc (EL y) 12 ((l12.drop 18).take 3) [1,18,19,20] [] (sL4 y d i) Q R
theorem eL5 (y:LE) (d:Dd) (i:Nat) (Q:QT) (R:RT):dL5 y d i Q R=(y.P63∧[va y.m y.W]=[va y.m y.W]∧Q .normal (v6 y 0 0) [] 3):=by kernel_rfl
noncomputable def sL6 (y:LE) (mn i:Nat):LS:=([(1,va y.m y.W),(18,scK y.c y.g),(19,nI mn),(20,nI i)],[],0)
noncomputable def bL6:Code:=lpB (blB (l12.getD 21 .skip))
noncomputable def xL6:Code:=blB ((fl bL6).getD 2 .skip)
noncomputable def dL6 (y:LE) (mn i:Nat) (Q:QT) (R:RT):Prop:=pc (EL y) 12 ((fl bL6).take 2) [1,18,19,20] [] (sL6 y mn i) Q R
theorem eL6 (y:LE) (mn i:Nat) (Q:QT) (R:RT):dL6 y mn i Q R=alt (ltI (.ofNat i) (.ofNat y.m)) (Q .normal (v6 y mn i) [] 0) (Q (.exit 4) (v6 y mn i) [] 0):=by kernel_rfl
noncomputable def v7 (y:LE) (mn i:Nat) (f:Bool) (j:Nat):List KV:=[va y.m y.W,scK y.c y.g,nI mn,nI i,.bool f,.bool false,nI j]
noncomputable def v8 (y:LE) (mn i:Nat) (f g:Bool) (j:Nat):List KV:=[va y.m y.W,scK y.c y.g,nI mn,nI i,.bool f,.bool g,nI j]
noncomputable def sL7 (y:LE) (mn i:Nat) (f:Bool) (j:Nat):LS:=([(1,va y.m y.W),(18,scK y.c y.g),(19,nI mn),(20,nI i),(21,.bool f),(22,.bool false),(23,nI j)],[],0)
noncomputable def sL8 (y:LE) (mn i:Nat) (f g:Bool) (j:Nat):LS:=([(1,va y.m y.W),(18,scK y.c y.g),(19,nI mn),(20,nI i),(21,.bool f),(22,.bool g),(24,nI j)],[],0)
noncomputable def dL7 (y:LE) (mn i:Nat) (Q:QT) (R:RT):Prop:=pc (EL y) 12 ((fl xL6).take 2) [1,18,19,20,21,22,23] [] (sL6 y mn i) Q R
theorem eL7 (y:LE) (mn i:Nat) (Q:QT) (R:RT):dL7 y mn i Q R=Q .normal (v7 y mn i true 0) [] 0:=by kernel_rfl
noncomputable def bL7:Code:=lpB (blB ((fl xL6).getD 2 .skip))
noncomputable def zuc (y:LE) (mn i:Nat) (f:Bool) (j:Nat) (Q:QT) (R:RT):Prop:=pc (EL y) 12 (fl bL7) [1,18,19,20,21,22,23] [] (sL7 y mn i f j) Q R
theorem zxy (y:LE) (mn i:Nat) (f:Bool) (j:Nat) (Q:QT) (R:RT):zuc y mn i f j Q R=alt (ltI (.ofNat j) (.ofNat i)) (alt f (cnd (ixB (.ofNat j) y.m) (cnd (ixB (.ofNat i) y.m) (cnd (b63 (Nat.add j 1)) (Q .normal (v7 y mn i (!(eqI (y.w j).sc (y.w i).sc)) (Nat.add j 1)) [] 0)))) (cnd (b63 (Nat.add j 1)) (Q .normal (v7 y mn i false (Nat.add j 1)) [] 0))) (Q (.exit 6) (v7 y mn i f j) [] 0):=by kernel_rfl
noncomputable def dL8 (y:LE) (mn i:Nat) (f:Bool) (j:Nat) (Q:QT) (R:RT):Prop:=pc (EL y) 12 (((fl xL6).drop 3).take 1) [1,18,19,20,21,22,24] [] (sL7 y mn i f j) Q R
theorem eL8 (y:LE) (mn i:Nat) (f:Bool) (j:Nat) (Q:QT) (R:RT):dL8 y mn i f j Q R=Q .normal (v8 y mn i f false 0) [] 0:=by kernel_rfl
noncomputable def bL8:Code:=lpB (blB ((fl xL6).getD 4 .skip))
noncomputable def zud (y:LE) (mn i:Nat) (f g:Bool) (j:Nat) (Q:QT) (R:RT):Prop:=pc (EL y) 12 (fl bL8) [1,18,19,20,21,22,24] [] (sL8 y mn i f g j) Q R
theorem zxz (y:LE) (mn i:Nat) (f g:Bool) (j:Nat) (Q:QT) (R:RT):zud y mn i f g j Q R=alt (ltI (.ofNat j) (.ofNat y.c)) (alt g (cnd (b63 (Nat.add j 1)) (Q .normal (v8 y mn i f true (Nat.add j 1)) [] 0)) (cnd (ixB (.ofNat j) y.c) (cnd (ixB (.ofNat i) y.m) (cnd (b63 (Nat.add j 1)) (Q .normal (v8 y mn i f (eqI (y.g (Nat.add 0 j)) (y.w i).sc) (Nat.add j 1)) [] 0))))) (Q (.exit 8) (v8 y mn i f g j) [] 0):=by kernel_rfl
noncomputable def dL9 (y:LE) (mn i:Nat) (f g:Bool) (j:Nat) (Q:QT) (R:RT):Prop:=pc (EL y) 12 ((fl xL6).drop 5) [1,18,19,20] [] (sL8 y mn i f g j) Q R
theorem eL9 (y:LE) (mn i:Nat) (f g:Bool) (j:Nat) (Q:QT) (R:RT):dL9 y mn i f g j Q R=alt (!g) (R (.bool false) [] 0) (alt f (cnd (b63 (Nat.add mn 1)) (Q .normal (v6 y (Nat.add mn 1) i) [] 0)) (Q .normal (v6 y mn i) [] 0)):=by kernel_rfl
noncomputable def zue (y:LE) (mn i:Nat) (Q:QT) (R:RT):Prop:=pc (EL y) 12 ((fl bL6).drop 3) [1,18,19,20] [] (sL6 y mn i) Q R
theorem zxA (y:LE) (mn i:Nat) (Q:QT) (R:RT):zue y mn i Q R=cnd (b63 (Nat.add i 1)) (Q .normal (v6 y mn (Nat.add i 1)) [] 0):=by kernel_rfl
noncomputable def v11 (y:LE) (mn j:Nat):List KV:=[scK y.c y.g,nI mn,nI j]
noncomputable def zht (y:LE) (mn j:Nat):LS:=([(18,scK y.c y.g),(19,nI mn),(25,nI j)],[],0)
noncomputable def zuf (y:LE) (mn i:Nat) (Q:QT) (R:RT):Prop:=pc (EL y) 12 ((l12.drop 22).take 1) [18,19,25] [] (sL6 y mn i) Q R
theorem zxB (y:LE) (mn i:Nat) (Q:QT) (R:RT):zuf y mn i Q R=Q .normal (v11 y mn (Nat.succ 0)) [] 0:=by kernel_rfl
noncomputable def zhu:Code:=lpB (blB (l12.getD 23 .skip))
noncomputable def zmk (y:LE) (mn j:Nat) (Q:QT) (R:RT):Prop:=pc (EL y) 12 (fl zhu) [18,19,25] [] (zht y mn (Nat.succ j)) Q R
theorem zug (y:LE) (mn j:Nat) (Q:QT) (R:RT):zmk y mn j Q R=alt (ltI (.ofNat (Nat.succ j)) (.ofNat y.c)) (cnd (b63 (Nat.sub (Nat.succ j) 1)) (cnd (ixB (.ofNat (Nat.sub (Nat.succ j) 1)) y.c) (cnd (ixB (.ofNat (Nat.succ j)) y.c) (alt (leI (y.g (Nat.add 0 (Nat.succ j))) (y.g (Nat.add 0 (Nat.sub (Nat.succ j) 1)))) (R (.bool false) [] 0) (cnd (b63 (Nat.add (Nat.succ j) 1)) (Q .normal (v11 y mn (Nat.add (Nat.succ j) 1)) [] 0)))))) (Q (.exit 10) (v11 y mn (Nat.succ j)) [] 0):=by kernel_rfl
noncomputable def zuh (y:LE) (mn j:Nat) (Q:QT) (R:RT):Prop:=pc (EL y) 12 (l12.drop 24) [] [] (zht y mn j) Q R
theorem zxC (y:LE) (mn j:Nat) (Q:QT) (R:RT):zuh y mn j Q R=alt (eqI (.ofNat mn) (.ofNat y.c)) (alt (eqI (.ofNat y.c) (.ofNat y.c)) (R (.bool true) [] 0) (R (.bool false) [] 0)) (R (.bool false) [] 0):=by kernel_rfl
end
end Go.K
set_option maxRecDepth 100000
namespace Go.K
open Go.Ab Go.RowKit Go.Y Go.Proofs
noncomputable section
attribute [local instance 10000] gO
noncomputable def cvN (n:Nat) (b:Nat→Nat):Cv:=if n=0 then ⟨true,0,0⟩ else ⟨true,n,pkN n b⟩
noncomputable def cvO (o:Option Vr):Cv:=match o with
 | none=>zCv
 | some v=>cvN v.ln v.by'
def okO (o:Option Vr):Prop:=∀ v,o=some v→v.th=true∧∀ j,v.by' j < 256
section
variable (d0:Dk) (m:Nat) (W:Nat→Wr) (k:Int)
def zew:Prop:=k < 0∨(m:Int) < k
open Classical in
noncomputable def bd:Nat→Nat
 | 0=>if zew m k then 1 else 0
 | i + 1=>if bd i≠0∨k≤i then bd i else erW d0 (W i).sc (W i).ln
open Classical in
noncomputable def ddd:Nat→Dd
 | 0=>jj
 | i + 1=>if bd d0 m W k i≠0∨k≤i∨erW d0 (W i).sc (W i).ln≠0 then ddd i else jS (ddd i) (W i).sc.toNat (cvN (W i).ln (W i).by')
end
section
variable {d0:Dk}{m:Nat}{W:Nat→Wr}{k:Int}
theorem zg2 {i:Nat}(h:bd d0 m W k i≠0∨k≤i):bd d0 m W k (i + 1)=bd d0 m W k i:=if_pos h
theorem zg3 {i:Nat}(h1:bd d0 m W k i=0) (h2:(i:Int) < k):bd d0 m W k (i + 1)=erW d0 (W i).sc (W i).ln:=if_neg (by rintro (h | h)<;>omega)
theorem VI {i:Nat}(h:bd d0 m W k i≠0∨k≤i∨erW d0 (W i).sc (W i).ln≠0):ddd d0 m W k (i + 1)=ddd d0 m W k i:=if_pos h
theorem zg4 {i:Nat}(h1:bd d0 m W k i=0) (h2:(i:Int) < k) (h3:erW d0 (W i).sc (W i).ln=0):ddd d0 m W k (i + 1)=jS (ddd d0 m W k i) (W i).sc.toNat (cvN (W i).ln (W i).by'):=if_neg (by rintro (h | h | h)<;>omega)
theorem zg5 (h:zew m k):∀ i,bd d0 m W k i=1
 | 0=>if_pos h
 | i + 1=>by
  have ih:=zg5 h i
  rw[zg2 (.inl (by omega)),ih]
theorem zg6 {K:Nat}(hK:K≤m):∀ i,bd d0 m W K i=apE d0 W (min i K)
 | 0=>by
  rw[Nat.zero_min]
  exact if_neg (by rintro (h | h)<;>omega)
 | i + 1=>by
  have ih:=zg6 hK i
  by_cases hi:i < K
  ·rw[Nat.min_eq_left (by omega)] at ih ⊢
   by_cases h0:apE d0 W i=0
   ·rw[zg3 (by omega) (by omega),VQ h0]
   ·rw[zg2 (.inl (by omega)),zmU h0,ih]
  ·rw[Nat.min_eq_right (by omega)] at ih ⊢
   rw[zg2 (.inr (by omega)),ih]
theorem zoD:bd d0 m W k m=apZ d0 m W k:=by
 by_cases h:zew m k
 ·rw[zg5 h]
  exact (if_pos h).symm
 ·have hk:¬ (k < 0∨(m:Int) < k):=h
  rw[show apZ d0 m W k=apE d0 W k.toNat from if_neg h]
  obtain⟨K,rfl⟩:=Int.eq_ofNat_of_zero_le (a:=k) (by omega)
  have:=zg6 (d0:=d0) (W:=W) (m:=m) (K:=K) (by omega) m
  rw[Nat.min_eq_right (by omega)] at this
  exact this
theorem zbb:∀ i j,(ddd d0 m W k i).cn j≤i
 | 0,j=>Nat.le_refl 0
 | i + 1,j=>by
  have ih:=zbb i j
  by_cases h:bd d0 m W k i≠0∨k≤i∨erW d0 (W i).sc (W i).ln≠0
  ·rw[VI h]; omega
  ·rw[zg4 (by omega) (by omega) (by omega)]
   show (if j=(W i).sc.toNat then Nat.succ ((ddd d0 m W k i).cn j) else (ddd d0 m W k i).cn j)≤i + 1
   split<;>omega
theorem zg7 (d:Dd) (s j:Nat) (v:Cv):(jS d s v).last j=if j=s then v else d.last j:=by
 unfold Dd.last
 show (if j=s∧(if j=s then Nat.succ (d.cn j) else d.cn j)=Nat.succ (d.cn j) then v else d.cv j (if j=s then Nat.succ (d.cn j) else d.cn j))=_
 by_cases h:j=s
 ·rw[if_pos h,if_pos ⟨h,rfl⟩,if_pos h]
 ·rw[if_neg h,if_neg h,if_neg fun q=>h q.1]
theorem zdb (f:Ck) (s j:Nat) (v:Vr):atK (xW f s v) j=if j=s then some v else atK f j:=by
 unfold atK
 by_cases h:j=s
 ·rw[if_pos h,h]
  exact if_pos ⟨rfl,rfl⟩
 ·rw[if_neg h]
  refine if_neg fun q=>h ?_
  obtain⟨q1,q2⟩:=q
  have q1:j / 64=s / 64:=q1
  omega
structure RelD (d:Dd) (D:Dk) (n:Nat):Prop where
 l:∀ s,s < n→d.last s=cvO (atK D.f s)
 o:∀ s,okO (atK D.f s)
theorem zg8 (hf:d0.f=WH) (hb:∀ i j,(W i).by' j < 256) {K:Nat}(hK:K≤m):∀ i,i≤K→apE d0 W i=0→RelD (ddd d0 m W K i) (apD d0 W i) d0.L
 | 0,_,_=>⟨fun s _=>by rw[show apD d0 W 0=d0 from rfl,hf]; rfl,fun s v hv=>by
   rw[show apD d0 W 0=d0 from rfl,hf] at hv
   cases hv⟩
 | i + 1,hi,h=>by
  have h0:=zix (Nat.le_succ i) h
  have ih:=zg8 hf hb hK i (by omega) h0
  obtain⟨L1,L2,L3⟩:=zdN h0
  have hbd:bd d0 m W K i=0:=by
   rw[zg6 hK,Nat.min_eq_left (by omega)]; exact h0
  rw[zdL h]
  rw[VQ h0] at h
  have he:erW (apD d0 W i) (W i).sc (W i).ln=0:=by rw[zdM L1]; exact h
  rw[zg4 hbd (by omega) h,ziy he]
  refine⟨fun s hs=>?_,fun s v hv=>?_⟩
  ·show (jS _ _ _).last s=cvO (atK (xW _ _ _) s)
   rw[zg7,zdb]
   by_cases e:s=(W i).sc.toNat
   ·rw[if_pos e,if_pos e]; rfl
   ·rw[if_neg e,if_neg e]; exact ih.l s hs
  ·have hv:atK (xW (apD d0 W i).f (W i).sc.toNat (nxV (atK (apD d0 W i).f (W i).sc.toNat) true (W i).ln (W i).by')) s=some v:=hv
   rw[zdb] at hv
   by_cases e:s=(W i).sc.toNat
   ·rw[if_pos e] at hv
    cases hv
    exact⟨rfl,hb i⟩
   ·rw[if_neg e] at hv
    exact ih.o s v hv
theorem zl6 {K:Nat}:∀ i,K≤i→ddd d0 m W K i=ddd d0 m W K K
 | 0,h=>by rw[show K=0 by omega]
 | i + 1,h=>by
  by_cases e:K=i + 1
  ·rw[e]
  ·rw[VI (.inr (.inl (by omega))),zl6 i (by omega)]
theorem zkt (hf:d0.f=WH) (hb:∀ i j,(W i).by' j < 256) (h:apZ d0 m W k=0):RelD (ddd d0 m W k m) (apR d0 m W k) d0.L:=by
 by_cases hk:zew m k
 ·rw[show apZ d0 m W k=1 from if_pos hk] at h
  cases h
 ·have hk':¬ (k < 0∨(m:Int) < k):=hk
  rw[show apZ d0 m W k=apE d0 W k.toNat from if_neg hk] at h
  rw[show apR d0 m W k=apD d0 W k.toNat from if_neg hk]
  obtain⟨K,rfl⟩:=Int.eq_ofNat_of_zero_le (a:=k) (by omega)
  rw[zl6 m (by omega)]
  exact zg8 hf hb (by omega) K (Nat.le_refl _) h
end
theorem zg9 {n:Nat}{b:Nat→Nat}(h:∀ j,b j < 256):zpO n b=true:=j6.2 fun j hj=>by
 show Nat.blt (b (Nat.add 0 j)) 256=true
 exact zsH.2 (h _)
theorem zxi {o:Option Vr}(h:okO o):thE o (cvO o)=true:=by
 cases o with
 | none=>rfl
 | some v =>
  have ht:=(h v rfl).1
  have e1:erO (some v)=0:=by
   unfold erO
   rw[show thO (some v)=true from ht]
  have e2:(cvO (some v)).th=true:=by
   show (cvN v.ln v.by').th=true
   unfold cvN
   split<;>rfl
  unfold thE
  rw[e1,e2]
  rfl
theorem ztB {o:Option Vr}(h:okO o):lnO o=(cvO o).ln:=by
 cases o with
 | none=>rfl
 | some v =>
  have ht:=(h v rfl).1
  show @Bool.rec (fun _=>Nat) 0 v.ln v.th=(cvN v.ln v.by').ln
  rw[ht]
  unfold cvN
  split
  ·assumption
  ·rfl
theorem zxj {o:Option Vr}(h:okO o):∀ j,byO o j < 256:=by
 cases o with
 | none=>exact fun j=>by show 0 < 256; omega
 | some v=>exact (h v rfl).2
theorem zl7 {v:Cv}:stE v.ln v.st v=true:=by
 unfold stE
 rw[show Nat.beq v.ln v.ln=true from Nat.beq_refl _]
 exact Nat.beq_refl _
theorem zxk {o:Option Vr}(h:okO o) (h0:lnO o=0):stE 0 0 (cvO o)=true:=by
 have e:(cvO o).ln=0:=by rw[←ztB h]; exact h0
 have e2:(cvO o).st=0:=by
  cases o with
  | none=>rfl
  | some v =>
   have ht:=(h v rfl).1
   have h0:@Bool.rec (fun _=>Nat) 0 v.ln v.th=0:=h0
   rw[ht] at h0
   show (cvN v.ln v.by').st=0
   unfold cvN
   rw[if_pos h0]
 have:=zl7 (v:=cvO o)
 rwa [e,e2] at this
theorem zxl {o:Option Vr}(h:okO o) (h0:lnO o≠0):stE (lnO o) (pkN (lnO o) (byO o)) (cvO o)=true:=by
 have e:=ztB h
 have e2:(cvO o).st=pkN (lnO o) (byO o):=by
  cases o with
  | none=>exact absurd rfl h0
  | some v =>
   have ht:=(h v rfl).1
   have e3:lnO (some v)=v.ln:=by
    show @Bool.rec (fun _=>Nat) 0 v.ln v.th=v.ln
    rw[ht]
   show (cvN v.ln v.by').st=pkN (lnO (some v)) v.by'
   rw[e3] at h0 ⊢
   unfold cvN
   rw[if_neg h0]
 have:=zl7 (v:=cvO o)
 rwa [e2,←e] at this
section
variable {W:Nat→Wr}{m:Nat}
theorem zbc:(srW m W).length=(ddI (scW W) m).length:=List.length_mergeSort _
theorem zoE (x:Int):x∈srW m W↔jC (scW W) m x:=by
 rw[←Ze]
 exact (List.mergeSort_perm _ _).mem_iff
theorem ztC {i:Nat}(hi:i < m):∃ j,j < (srW m W).length∧(srW m W).getD j 0=(W i).sc:=by
 have h:(W i).sc∈srW m W:=(zoE _).2 ⟨i,hi,rfl⟩
 obtain⟨j,hj,e⟩:=List.getElem_of_mem h
 exact⟨j,hj,by rw[List.getD_eq_getElem?_getD,List.getElem?_eq_getElem hj]; exact e⟩
theorem ztD {j:Nat}(hj:j + 1 < (srW m W).length):(srW m W).getD j 0 < (srW m W).getD (j + 1) 0:=by
 have tr:∀ a b c:Int,decide (a≤b)=true→decide (b≤c)=true→decide (a≤c)=true:=fun a b c h1 h2=>by simp only[decide_eq_true_eq] at *; omega
 have to:∀ a b:Int,(decide (a≤b)||decide (b≤a))=true:=fun a b=>by simp only[Bool.or_eq_true,decide_eq_true_eq]; omega
 have h1:=List.pairwise_mergeSort tr to (ddI (scW W) m)
 have h2:(srW m W).Nodup:=(List.mergeSort_perm _ _).nodup_iff.2 (zbg _ _)
 have q1:=List.pairwise_iff_getElem.1 h1 j (j + 1) (show j < (srW m W).length by omega) hj (Nat.lt_succ_self j)
 have q2:=List.pairwise_iff_getElem.1 h2 j (j + 1) (show j < (srW m W).length by omega) hj (Nat.lt_succ_self j)
 simp only[decide_eq_true_eq] at q1
 have e1:(srW m W).getD j 0=(srW m W)[j]'(by omega):=by rw[List.getD_eq_getElem?_getD,List.getElem?_eq_getElem (by omega)]; rfl
 have e2:(srW m W).getD (j + 1) 0=(srW m W)[j + 1]'hj:=by rw[List.getD_eq_getElem?_getD,List.getElem?_eq_getElem hj]; rfl
 rw[e1,e2]
 have q1:(srW m W)[j]'(by omega)≤(srW m W)[j + 1]'hj:=q1
 have q2:(srW m W)[j]'(by omega)≠(srW m W)[j + 1]'hj:=q2
 omega
theorem ztE {z:Nat→Int}{i:Nat}(h:¬ jC z i (z i)):(ddI z (i + 1)).length=(ddI z i).length + 1:=by
 have:z i ∉ ddI z i:=fun q=>h ((Ze z i _).1 q)
 rw[show ddI z (i + 1)=ddI z i++[z i] from if_neg this]
 simp
theorem ztF {z:Nat→Int}{i:Nat}(h:jC z i (z i)):ddI z (i + 1)=ddI z i:=if_pos ((Ze z i _).2 h)
theorem zdc (z:Nat→Int):∀ i,(ddI z i).length≤i
 | 0=>Nat.le_refl _
 | i + 1=>by
  have ih:=zdc z i
  by_cases h:jC z i (z i)
  ·rw[ztF h]; omega
  ·rw[ztE h]; omega
end
end
end Go.K
set_option maxRecDepth 100000
namespace Go.K
open Go.Ab Go.RowKit Go.Y Go.Proofs
noncomputable section
attribute [local instance 10000] gO
theorem cvi {x y:Cv}(h:x.k=y.k):x=y:=by
 obtain⟨a,b,c⟩:=x
 obtain⟨a',b',c'⟩:=y
 unfold Cv.k at h
 simp only[KV.cons.injEq,KV.bool.injEq,KV.str.injEq] at h
 obtain⟨rfl,⟨rfl,rfl⟩,_⟩:=h
 rfl
theorem dKi {L:Nat}{d e:Dd}(h:dK L d=dK L e):d=e:=by
 unfold dK at h
 simp only[KV.cons.injEq,KV.ro.injEq,KV.fa.injEq,true_and,and_true] at h
 have h1:∀ i,d.el i=e.el i:=fun i=>congrFun h i
 obtain⟨cn,cv⟩:=d
 obtain⟨cn',cv'⟩:=e
 have h2:∀ i,cn i=cn' i∧∀ j,cv i j=cv' i j:=fun i=>by
  have:=h1 i
  unfold Dd.el at this
  simp only[KV.ro.injEq,KV.fa.injEq,true_and,Nat.succ.injEq] at this
  exact⟨this.1,fun j=>cvi (congrFun this.2.2 j)⟩
 obtain rfl:cn=cn':=funext fun i=>(h2 i).1
 obtain rfl:cv=cv':=funext fun i=>funext fun j=>(h2 i).2 j
 rfl
open Classical in
noncomputable def deG {X:Type}(x0:X) (a:X→List KV) (l:List KV):X:=if h:∃ x,l=a x then Classical.choose h else x0
theorem zbu {X:Type}{x0:X}{a:X→List KV}(hi:∀ x y,a x=a y→x=y) (x:X):deG x0 a (a x)=x:=by
 have h:∃ y,a x=a y:=⟨x,rfl⟩
 unfold deG
 rw[dif_pos h]
 exact (hi _ _ (Classical.choose_spec h)).symm
noncomputable def g65 (L:Nat) (x:Dd×Int×Cv):List KV:=a65 L x.1 x.2.1 x.2.2
theorem zkP {L:Nat}(x y:Dd×Int×Cv) (h:g65 L x=g65 L y):x=y:=by
 obtain⟨d,z,v⟩:=x
 obtain⟨d',z',v'⟩:=y
 unfold g65 a65 at h
 simp only[List.cons.injEq,KV.int.injEq,true_and,and_true] at h
 obtain⟨h1,rfl,h3⟩:=h
 obtain rfl:=dKi h1
 obtain rfl:=cvi h3
 rfl
noncomputable def g73 (x:Dk×Nat):List KV:=[x.1.k,nI x.2]
theorem zkQ (x y:Dk×Nat) (h:g73 x=g73 y):x=y:=by
 obtain⟨d,z⟩:=x
 obtain⟨d',z'⟩:=y
 unfold g73 at h
 simp only[List.cons.injEq,and_true] at h
 obtain rfl:=ziv h.1
 obtain rfl:=WD h.2
 rfl
noncomputable def g74 (L:Nat) (x:Dd×Nat):List KV:=[dK L x.1,nI x.2]
theorem zkR {L:Nat}(x y:Dd×Nat) (h:g74 L x=g74 L y):x=y:=by
 obtain⟨d,z⟩:=x
 obtain⟨d',z'⟩:=y
 unfold g74 at h
 simp only[List.cons.injEq,and_true] at h
 obtain rfl:=dKi h.1
 obtain rfl:=WD h.2
 rfl
noncomputable def nA (a:Nat):Nat:=Nat.add 1 (a % 40)
noncomputable def d0A (a:Nat):Dk:=⟨nA a,0,1,WH⟩
noncomputable def yL (a m:Nat) (W:Nat→Wr) (k:Int):LE where
 m:=m
 W:=W
 a:=a
 k:=k
 P:=fun l=>∃ d s v,l=g65 (nA a) (d,.ofNat s,v)∧(∀ i,i < nA a→d.cn i < 1000)
 δ:=fun l=>jS (deG (jj,0,zCv) (g65 (nA a)) l).1 (deG (jj,0,zCv) (g65 (nA a)) l).2.1.toNat (deG (jj,0,zCv) (g65 (nA a)) l).2.2
 D:=apR (d0A a) m W k
 e:=apZ (d0A a) m W k
 P73:=fun l=>∃ d s,l=g73 (d,s)∧d.ok∧s < d.L
 o:=fun l=>atK (deG (zDk,0) g73 l).1.f (deG (zDk,0) g73 l).2
 P74:=fun l=>∃ d s,l=g74 (nA a) (d,s)∧s < nA a∧d.cn s < 1000
 γ:=fun l=>(deG (jj,0) (g74 (nA a)) l).1.last (deG (jj,0) (g74 (nA a)) l).2
 c:=(srW m W).length
 g:=fun i=>(srW m W).getD i 0
 P63:=m≤12∧∀ i,i < m→(W i).ln≤1000
section
variable {a m:Nat}{W:Nat→Wr}{k:Int}
theorem YZ:nA a≤40∧0 < nA a:=by
 have:a % 40 < 40:=Nat.mod_lt _ (by omega)
 constructor
 ·show 1 + a % 40≤40; omega
 ·show 0 < 1 + a % 40; omega
theorem zmB:(d0A a).ok:=⟨by show 1≤1000; omega,by have:=(YZ (a:=a)).1; show nA a≤64 * 1; omega,by show 0≤1000000; omega,fun j i=>Nat.le_refl 0,fun j i v hv=>by cases hv⟩
theorem δ_eq (d:Dd) (z:Int) (v:Cv):(yL a m W k).δ (a65 (nA a) d z v)=jS d z.toNat v:=by
 have e:deG (jj,0,zCv) (g65 (nA a)) (a65 (nA a) d z v)=(d,z,v):=zbu zkP (d,z,v)
 show jS (deG (jj,0,zCv) (g65 (nA a)) (a65 (nA a) d z v)).1 (deG (jj,0,zCv) (g65 (nA a)) (a65 (nA a) d z v)).2.1.toNat (deG (jj,0,zCv) (g65 (nA a)) (a65 (nA a) d z v)).2.2=_
 rw[e]
theorem zva (d:Dk) (s:Nat):(yL a m W k).o [d.k,nI s]=atK d.f s:=by
 have e:deG (zDk,0) g73 [d.k,nI s]=(d,s):=zbu zkQ (d,s)
 show atK (deG (zDk,0) g73 [d.k,nI s]).1.f (deG (zDk,0) g73 [d.k,nI s]).2=_
 rw[e]
theorem γ_eq (d:Dd) (s:Nat):(yL a m W k).γ [dK (nA a) d,nI s]=d.last s:=by
 have e:deG (jj,0) (g74 (nA a)) [dK (nA a) d,nI s]=(d,s):=zbu zkR (d,s)
 show (deG (jj,0) (g74 (nA a)) [dK (nA a) d,nI s]).1.last (deG (jj,0) (g74 (nA a)) [dK (nA a) d,nI s]).2=_
 rw[e]
theorem okL (h22:KCS Tryz.prog 22 (xm [] (.bool true))) (hz:∀ i,i < m→(Lit.int .i64 (W i).sc).wf=true):KOk (EL (yL a m W k)):=by
 obtain⟨n1,n2⟩:=YZ (a:=a)
 refine KOk.tabB (zR.tab (l:=zuI (yL a m W k)) ⟨h22,?_,?_,?_,trivial⟩) ⟨?_,?_,?_,?_,trivial⟩
 ·exact⟨zm7.1,fun l K h=>zm7.2 l K (by
   obtain⟨rfl,h1⟩:=h
   exact⟨nA a,rfl,⟨n2,by omega⟩,h1⟩)⟩
 ·exact⟨zmv.1,fun l K h=>zmv.2 l K (by
   obtain⟨⟨d,s,rfl,h1,h2⟩,h3⟩:=h
   rw[show (yL a m W k).γ (g74 (nA a) (d,s))=d.last s from γ_eq d s] at h3
   exact⟨(nA a,d,s),rfl,⟨h1,by show d.cn s < _; omega⟩,h3⟩)⟩
 ·exact⟨zmh.1,fun l K h=>zmh.2 l K (by
   obtain⟨⟨hm,hw⟩,rfl,h1⟩:=h
   exact⟨(m,W),rfl,⟨by show m≤1000; omega,hz⟩,h1⟩)⟩
 ·exact⟨zmR.1,fun l K h=>zmR.2 l K (by
   obtain⟨rfl,h1⟩:=h
   exact⟨nA a,rfl,⟨n2,by omega⟩,h1⟩)⟩
 ·exact⟨zmO.1,fun l K h=>zmO.2 l K (by
   obtain⟨⟨d,s,v,rfl,h1⟩,h3⟩:=h
   rw[show (yL a m W k).δ (g65 (nA a) (d,.ofNat s,v))=jS d s v from δ_eq d (.ofNat s) v] at h3
   exact⟨(nA a,d,s,v),rfl,⟨n2,by show nA a < 1000; omega,h1⟩,h3⟩)⟩
 ·exact⟨ziB.1,fun l K h=>ziB.2 l K (by
   obtain⟨⟨hm,hw⟩,rfl,h1⟩:=h
   exact⟨(d0A a,m,W,k),rfl,⟨zmB,by show 0 + m≤_; omega,hw⟩,h1⟩)⟩
 ·exact⟨zmM.1,fun l K h=>zmM.2 l K (by
   obtain⟨⟨d,s,rfl,h1,h2⟩,h3⟩:=h
   rw[show (yL a m W k).o (g73 (d,s))=atK d.f s from zva d s] at h3
   exact⟨((d.L,d.c,d.q,d.f),s),rfl,⟨h1,h2⟩,h3⟩)⟩
end
attribute [local irreducible] kpre cOf mOf rOf JL zp zo l12 bL1 bL4 bL6 xL6 bL7 bL8 zhu
theorem zxY:Tryz.f12.ntmps=238:=by kernel_rfl
theorem zxZ:Tryz.f12.results.toList=rOf 12:=by kernel_rfl
theorem zx0:fl (cOf 12)=l12:=by kernel_rfl
theorem Zk (m:Nat) (W:Nat→Wr):zY 0 (va m W)=true:=by kernel_rfl
theorem XE (c:Nat) (g:Nat→Int):zY 0 (scK c g)=true:=by kernel_rfl
theorem zkS (y:LE):zY 0 (bx 112 qD (dk0 y)).v=true:=by kernel_rfl
theorem zdz (L:Nat) (d:Dd):zY 0 (bx 77 shD (dK L d)).v=true:=by kernel_rfl
section
variable {y:LE}{B N:Nat}
noncomputable abbrev QL (y:LE):K4:=retJ (EL y) Tryz.f12 false (.bool true)
theorem yB (v:KV) (tr:KTm) (zm:KZ) (nx:Nat) (h:v=.bool true) (h1:MB (am zm) nx) (h2:INV (mOf 12) tr) (hr:RAll Tryz.prog (tv' (zj tr)) (am zm) (rOf 12) v.v):QL y .ret tr zm nx:=by
 subst h
 exact retJ.mk rfl zxZ (FzP.noref rfl) hr
theorem zp1 {bad i:Nat}{d:Dd}{tr:KTm}{zm:KZ}(ht:[1,2,7,8,10,11,12].map (zj tr)=vL2 y bad i) (hz:[0,1].map (kb zm)=oL2 y d):atS (mOf 12) (sL1 y bad d i) tr zm :=
 atS.of (s:=sL1 y bad d i) [] id ht hz (by kernel_rfl) ⟨zq _ (Zk _ _),zq _ rfl,zq _ rfl,xU (ltk rfl),xU (ltk rfl),zq _ rfl,zq _ rfl,trivial⟩ ⟨RnK.nf (zkS y),RnK.nf (zdz _ _),trivial⟩
theorem zp2 {i:Nat}{d:Dd}{tr:KTm}{zm:KZ}(ht:[1,7,9,10,13,14].map (zj tr)=vL4 y i) (hz:[1,2].map (kb zm)=oL4 y d):atS (mOf 12) (sL4 y d i) tr zm :=
 atS.of (s:=sL4 y d i) [] id ht hz (by kernel_rfl) ⟨zq _ (Zk _ _),zq _ rfl,zq _ rfl,xU (ltk rfl),xU (ltk rfl),zq _ rfl,trivial⟩ ⟨RnK.nf (zdz _ _),RnK.nf (ziA _),trivial⟩
theorem zh1 {mn i:Nat}{tr:KTm}{zm:KZ}(ht:[1,18,19,20].map (zj tr)=v6 y mn i):atS (mOf 12) (sL6 y mn i) tr zm :=
 atS.of (s:=sL6 y mn i) [] id (os:=[]) ht rfl (by kernel_rfl) ⟨zq _ (Zk _ _),zq _ (XE _ _),zq _ rfl,zq _ rfl,trivial⟩ trivial
theorem zkT {mn i j:Nat}{f:Bool}{tr:KTm}{zm:KZ}(ht:[1,18,19,20,21,22,23].map (zj tr)=v7 y mn i f j):atS (mOf 12) (sL7 y mn i f j) tr zm :=
 atS.of (s:=sL7 y mn i f j) [] id (os:=[]) ht rfl (by kernel_rfl) ⟨zq _ (Zk _ _),zq _ (XE _ _),zq _ rfl,zq _ rfl,zq _ rfl,zq _ rfl,zq _ rfl,trivial⟩ trivial
theorem zkU {mn i j:Nat}{f g:Bool}{tr:KTm}{zm:KZ}(ht:[1,18,19,20,21,22,24].map (zj tr)=v8 y mn i f g j):atS (mOf 12) (sL8 y mn i f g j) tr zm :=
 atS.of (s:=sL8 y mn i f g j) [] id (os:=[]) ht rfl (by kernel_rfl) ⟨zq _ (Zk _ _),zq _ (XE _ _),zq _ rfl,zq _ rfl,zq _ rfl,zq _ rfl,zq _ rfl,trivial⟩ trivial
theorem zh2 {mn j:Nat}{tr:KTm}{zm:KZ}(ht:[18,19,25].map (zj tr)=v11 y mn j):atS (mOf 12) (zht y mn j) tr zm :=
 atS.of (s:=zht y mn j) [] id (os:=[]) ht rfl (by kernel_rfl) ⟨zq _ (XE _ _),zq _ rfl,zq _ rfl,trivial⟩ trivial
end
end
end Go.K
