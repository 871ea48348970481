/- The digest of a node: what the program's run comes to, over whatever compression. No condition. -/
import Derived.Test.YtkllahedaiddgaaGreatDoorND
import Derived.Test.YtkllahedaiddgaaGreatDoorK19
set_option linter.unusedSimpArgs false
set_option linter.unusedVariables false
set_option maxRecDepth 100000
namespace Go.K
open Go.Ab Go.RowKit Go.Y Go.Proofs
noncomputable section
attribute [local instance 10000] gO
def zdC (fid:FuncId):Prop:=∃ fn,Tryz.prog.funcs[fid]?=some fn∧(fn.name == "runtime.NumGoroutine")=false∧fn.body.isNone=false
theorem zab {α:Type}{E:KEnv}(hE:KOk E) (hP:E.P=Tryz.prog) {fid:FuncId}(hf:zdC fid) {on:KV→(α→Prop)→Prop}{k:α→KV}{W:α→Prop}{sp:α→KV}(n:Nat)
  (hon:∀ v f,on v f→∃ x,W x∧Imp v.v (k x).v∧f x) (hr:∀ x,xw (sp x).v=true)
  (h:∀ x,W x→zo E (zp E n) 0 fid [k x] .e 0 0 fun r _ _ _=>Imp r.v (sp x).v):KCS Tryz.prog fid (fun l K=>la1 l fun v=>on v fun x=>K (sp x)):=by
 refine zjJ hf fun l K hs=>?_
 obtain⟨v,rfl,h1⟩:=zcA hs
 obtain⟨x,w,hi,hk⟩:=hon _ _ h1
 refine⟨E,hE,hP,n,fun r=>Imp r.v (sp x).v,sp x,[k x],hk,hr x,fun r hr=>hr,fun C m hm=>?_,h x w⟩
 exact Imp.cons hi (Imp.refl _) C m hm
def zB (n:Nat) (f:Nat→Nat):Bool:=@Nat.rec (fun _=>Bool) true (fun i ih=>nd ih (eqI (.ofNat (f i)) (.ofNat 0))) n
theorem zbw {f:Nat→Nat}:∀ {n:Nat},zB n f=true↔∀ i,i < n→f i=0
 | 0=>⟨fun _ i h=>by omega,fun _=>rfl⟩
 | n + 1=>by
  show nd (zB n f) (eqI (.ofNat (f n)) (.ofNat 0))=true↔_
  rw[za,zbw,y8]
  constructor
  ·rintro⟨h1,h2⟩ i hi
   by_cases h:i=n
   ·rw[h]; exact h2
   ·exact h1 i (by omega)
  ·intro h
   exact⟨fun i hi=>h i (by omega),h n (by omega)⟩
def Rc.zero (x:Rc):Prop:=x.st=0∧x.sh=0∧x.ct=0∧∀ i,i < 32→nN x.tg i=0
def En.zero (x:En):Prop:=x.st=0∧∀ i,i < 32→nN x.dg i=0
def Rc.ok (x:Rc):Prop:=x.st≤2∧(x.st=0→x.zero)
def En.ok (x:En):Prop:=x.st≤2∧(x.st=0→x.zero)
open Classical in
def Rc.e (x:Rc):Nat:=if x.ok then 0 else 1
open Classical in
def En.e (x:En):Nat:=if x.ok then 0 else 1
def zvg (x:Rc) (K:KV→Prop):Prop:=zo EO0 (zp EO0 60) 0 125 [x.k] .e 0 0 fun r _ _ _=>K r
def zvh (x:En) (K:KV→Prop):Prop:=zo EO0 (zp EO0 60) 0 247 [x.k] .e 0 0 fun r _ _ _=>K r
def zvi (x:Rc) (K:KV→Prop):Prop:=zo EO0 (zp EO0 60) 0 133 [x.k] .e 0 0 fun r _ _ _=>K r
def zvj (x:En) (K:KV→Prop):Prop:=zo EO0 (zp EO0 60) 0 134 [x.k] .e 0 0 fun r _ _ _=>K r
def eZ (a:Nat):Bool:=eqI (.ofNat a) (.ofNat 0)
theorem wJ {a:Nat}:eZ a=true↔a=0:=y8
def gt2 (a:Nat):Bool:=ltI (.ofNat 2) (.ofNat a)
def Rc.zb (x:Rc):Bool:=nd (eZ x.st) (nd (nd (eZ x.sh) (nd (eZ x.ct) true)) (nd (zB 32 (nN x.tg)) true))
def En.zb (x:En):Bool:=nd (eZ x.st) (nd (zB 32 (nN x.dg)) true)
theorem Rc.zb_t {x:Rc}:x.zb=true↔x.zero:=by
 unfold Rc.zb Rc.zero
 simp only[za,wJ,zbw,and_true,and_assoc]
theorem En.zb_t {x:En}:x.zb=true↔x.zero:=by
 unfold En.zb En.zero
 simp only[za,wJ,zbw,and_true]
theorem zx7 (x:Rc) (K:KV→Prop):zvg x K=alt (gt2 x.st) (K (nI 1)) (alt (eZ x.st) (alt (!x.zb) (K (nI 1)) (K (nI 0))) (K (nI 0))):=by kernel_rfl
theorem zx8 (x:En) (K:KV→Prop):zvh x K=alt (gt2 x.st) (K (nI 1)) (alt (eZ x.st) (alt (!x.zb) (K (nI 1)) (K (nI 0))) (K (nI 0))):=by kernel_rfl
def eN (n a:Nat):Bool:=eqI (.ofNat a) (.ofNat n)
def t12 (st:Nat) (K:KV→Prop):Prop:=alt (eN 1 st) (K (nI 0)) (alt (eN 2 st) (K (nI 0)) (K (nI 1)))
theorem zx9 (x:Rc) (K:KV→Prop):zvi x K=alt (eZ x.sh) (alt (eZ x.ct) (alt (eZ x.st) (alt (zB 32 (nN x.tg)) (K (nI 0)) (t12 x.st K)) (t12 x.st K)) (alt (eZ x.st) (t12 x.st K) (t12 x.st K))) (alt (eZ x.st) (t12 x.st K) (t12 x.st K)):=by kernel_rfl
theorem zya (x:En) (K:KV→Prop):zvj x K=alt (eZ x.st) (alt (zB 32 (nN x.dg)) (K (nI 0)) (t12 x.st K)) (t12 x.st K):=by kernel_rfl
theorem Rc.e_t {x:Rc}(h:x.ok):x.e=0:=if_pos h
theorem Rc.e_f {x:Rc}(h:¬ x.ok):x.e=1:=if_neg h
theorem En.e_t {x:En}(h:x.ok):x.e=0:=if_pos h
theorem En.e_f {x:En}(h:¬ x.ok):x.e=1:=if_neg h
theorem zdD {a:Nat}:gt2 a=true↔2 < a:=vq
theorem zvk {n a:Nat}:eN n a=true↔a=n:=y8
theorem bf {b:Bool}{p:Prop}(h:b=true↔p):b=false↔¬ p:=by rw[←h]; cases b<;>simp
abbrev Is (w:KV):KV→Prop:=fun r=>Imp r.v w.v
theorem Is.of {w w':KV}(h:w=w'):Is w' w:=by rw[h]; exact Imp.refl _
theorem zyb (x:Rc):zvg x (Is (nI x.e)):=by
 rw[zx7]
 simp only[zh,zdD,bf zdD,wJ,bf wJ,Bool.not_eq_true',Bool.not_eq_false',bf Rc.zb_t,Rc.zb_t]
 refine⟨fun h=>Is.of ?_,fun h=>⟨fun h1=>⟨fun h2=>Is.of ?_,fun h2=>Is.of ?_⟩,fun h1=>Is.of ?_⟩⟩
 ·rw[Rc.e_f fun hk=>by have:=hk.1; omega]
 ·rw[Rc.e_f fun hk=>h2 (hk.2 h1)]
 ·rw[Rc.e_t ⟨by omega,fun _=>h2⟩]
 ·rw[Rc.e_t ⟨by omega,fun h2=>absurd h2 h1⟩]
theorem zyc (x:En):zvh x (Is (nI x.e)):=by
 rw[zx8]
 simp only[zh,zdD,bf zdD,wJ,bf wJ,Bool.not_eq_true',Bool.not_eq_false',bf En.zb_t,En.zb_t]
 refine⟨fun h=>Is.of ?_,fun h=>⟨fun h1=>⟨fun h2=>Is.of ?_,fun h2=>Is.of ?_⟩,fun h1=>Is.of ?_⟩⟩
 ·rw[En.e_f fun hk=>by have:=hk.1; omega]
 ·rw[En.e_f fun hk=>h2 (hk.2 h1)]
 ·rw[En.e_t ⟨by omega,fun _=>h2⟩]
 ·rw[En.e_t ⟨by omega,fun h2=>absurd h2 h1⟩]
theorem zia {st:Nat}{n:Nat}(h1:st=1∨st=2→n=0) (h2:¬ (st=1∨st=2)→n=1):t12 st (Is (nI n)):=by
 unfold t12
 simp only[zh,zvk,bf zvk]
 refine⟨fun h=>Is.of ?_,fun h=>⟨fun h3=>Is.of ?_,fun h3=>Is.of ?_⟩⟩
 ·rw[h1 (.inl h)]
 ·rw[h1 (.inr h3)]
 ·rw[h2 (by omega)]
theorem zyd (x:Rc):zvi x (Is (nI x.e)):=by
 rw[zx9]
 have ok:x.st=1∨x.st=2→x.e=0:=fun h=>Rc.e_t ⟨by omega,fun h2=>by omega⟩
 have no:¬ x.zero→¬ (x.st=1∨x.st=2)→x.e=1:=fun h1 h2=>Rc.e_f fun hk=>by
  have:=hk.1
  exact h1 (hk.2 (by omega))
 have t:¬ x.zero→t12 x.st (Is (nI x.e)):=fun h=>zia ok (no h)
 simp only[zh,wJ,bf wJ,zbw,bf zbw]
 refine⟨fun h1=>⟨fun h2=>⟨fun h3=>⟨fun h4=>Is.of ?_,fun h4=>t fun z=>h4 z.2.2.2⟩,fun h3=>t fun z=>h3 z.1⟩,fun h2=>⟨fun _=>t fun z=>h2 z.2.2.1,fun _=>t fun z=>h2 z.2.2.1⟩⟩,fun h1=>⟨fun _=>t fun z=>h1 z.2.1,fun _=>t fun z=>h1 z.2.1⟩⟩
 rw[Rc.e_t ⟨by omega,fun _=>⟨h3,h1,h2,h4⟩⟩]
theorem zye (x:En):zvj x (Is (nI x.e)):=by
 rw[zya]
 have ok:x.st=1∨x.st=2→x.e=0:=fun h=>En.e_t ⟨by omega,fun h2=>by omega⟩
 have no:¬ x.zero→¬ (x.st=1∨x.st=2)→x.e=1:=fun h1 h2=>En.e_f fun hk=>by
  have:=hk.1
  exact h1 (hk.2 (by omega))
 have t:¬ x.zero→t12 x.st (Is (nI x.e)):=fun h=>zia ok (no h)
 simp only[zh,wJ,bf wJ,zbw,bf zbw]
 refine⟨fun h1=>⟨fun h2=>Is.of ?_,fun h2=>t fun z=>h2 z.2⟩,fun h1=>t fun z=>h1 z.1⟩
 rw[En.e_t ⟨by omega,fun _=>⟨h1,h2⟩⟩]
def zkZ:zk:=fun l K=>la1 l fun v=>zkx v fun x=>K (nI x.e)
def zk0:zk:=fun l K=>la1 l fun v=>zky v fun x=>K (nI x.e)
theorem zqf:KCS Tryz.prog 125 zkZ:=zab zR rfl ⟨Tryz.f125,Tryz.func125,by kernel_rfl,by kernel_rfl⟩ 60 (fun v f h=>zbd h) (fun x=>rfl) fun x _=>zyb x
theorem zqg:KCS Tryz.prog 247 zk0:=zab zR rfl ⟨Tryz.f247,Tryz.func247,by kernel_rfl,by kernel_rfl⟩ 60 (fun v f h=>zbe h) (fun x=>rfl) fun x _=>zyc x
theorem zqh:KCS Tryz.prog 133 zkZ:=zab zR rfl ⟨Tryz.f133,Tryz.func133,by kernel_rfl,by kernel_rfl⟩ 60 (fun v f h=>zbd h) (fun x=>rfl) fun x _=>zyd x
theorem zqi:KCS Tryz.prog 134 zk0:=zab zR rfl ⟨Tryz.f134,Tryz.func134,by kernel_rfl,by kernel_rfl⟩ 60 (fun v f h=>zbe h) (fun x=>rfl) fun x _=>zye x
def nfL (n:Nat) (l:List Nat):List Nat:=lsK (kBy n (nN l)) n
theorem zqj {n i:Nat}{f:Nat→Nat}(h:i < n):ntK (kBy n f) i=f i:=by
 have e:(zM i (kBy n f)).v=(kU8 (f i)).v:=by
  rw[xB]
  exact We (f:=fun i=>kU8 (f i)) (n:=n) (z:=(kU8 0).v) h
 show xP (zM i (kBy n f)).v=_
 rw[e]; rfl
theorem zbx:∀ {a b:List Nat},a.length=b.length→(∀ i,i < a.length→nN a i=nN b i)→a=b
 | [],[],_,_=>rfl
 | x::a,y::b,h,h2=>by
  have h0:x=y:=h2 0 (Nat.succ_pos _)
  rw[h0,zbx (a:=a) (b:=b) (by simpa using h) fun i hi=>h2 (i + 1) (by simpa using hi)]
theorem zib {n:Nat}{l:List Nat}(h:l.length=n):nfL n l=l :=
 zbx (by rw[show (nfL n l).length=n from Wh _ _,h]) fun i hi=>by
  have hi':i < n:=by rw[←Wh (kBy n (nN l)) n]; exact hi
  show nN (lsK (kBy n (nN l)) n) i=_
  rw[Wg _ n i hi',zqj hi']
def Rc.nf (x:Rc):Rc:=⟨x.st,x.sh,x.ct,nfL 32 x.tg⟩
def En.nf (x:En):En:=⟨x.st,nfL 32 x.dg⟩
theorem Rc.nf_eq {x:Rc}(h:x.tg.length=32):x.nf=x:=by unfold Rc.nf; rw[zib h]
theorem En.nf_eq {x:En}(h:x.dg.length=32):x.nf=x:=by unfold En.nf; rw[zib h]
def zxG:List (Nat×zk):=[(125,zkZ),(247,zk0),(133,zkZ),(134,zk0)]
def EN1:KEnv:=EO0.tab zxG
theorem zxH:KOk EN1:=zR.tab ⟨zqf,zqg,zqh,zqi,trivial⟩
def Nd.ok (x:Nd):Prop:=x.lv≤5∧(x.lv=0→(∀ i,i < 4→(x.en i).zero)∧∀ i,i < 4→(x.rc i).ok)∧(x.lv≠0→(∀ i,i < 4→(x.rc i).zero)∧∀ i,i < 4→(x.en i).ok)
open Classical in
def Nd.e (x:Nd):Nat:=if x.ok then 0 else 1
def z4 (f:Nat→Bool):Bool:=@Nat.rec (fun _=>Bool) true (fun i ih=>nd ih (f i)) 4
def wh (f:Nat→Nat) (K:KV→Prop):Prop:=alt (!eZ (f 0)) (K (nI (f 0))) (alt (!eZ (f 1)) (K (nI (f 1))) (alt (!eZ (f 2)) (K (nI (f 2))) (alt (!eZ (f 3)) (K (nI (f 3))) (K (nI 0)))))
def zey (f:Nat→Bool) (p q:Prop):Prop:=alt (!f 0) p (alt (!f 1) p (alt (!f 2) p (alt (!f 3) p q)))
def zuz (x:Nd) (K:KV→Prop):Prop:=zo EN1 (zp EN1 60) 0 60 [({ x with lv:=0 }:Nd).k] .e 0 0 fun r _ _ _=>K r
def zuA (l:Nat) (x:Nd) (K:KV→Prop):Prop:=zo EN1 (zp EN1 60) 0 60 [({ x with lv:=Nat.succ l }:Nd).k] .e 0 0 fun r _ _ _=>K r
def gt5 (a:Nat):Bool:=ltI (.ofNat 5) (.ofNat a)
theorem zxI (x:Nd) (K:KV→Prop):zuz x K=zey (fun i=>(x.en i).zb) (K (nI 1)) (wh (fun i=>(x.rc i).nf.e) K):=by kernel_rfl
theorem zxJ (l:Nat) (x:Nd) (K:KV→Prop):zuA l x K=alt (gt5 (Nat.succ l)) (K (nI 1)) (zey (fun i=>(x.rc i).zb) (K (nI 1)) (wh (fun i=>(x.en i).nf.e) K)):=by kernel_rfl
theorem Xg {f g:Nat→Nat}{K:KV→Prop}(h:∀ i,i < 4→f i=g i):wh f K=wh g K:=by
 unfold wh
 rw[h 0 (by omega),h 1 (by omega),h 2 (by omega),h 3 (by omega)]
theorem YV {f:Nat→Nat}{P:Nat→Prop}{n:Nat}(h1:∀ i,P i→f i=0) (h2:∀ i,¬ P i→f i=1) (h3:(∀ i,i < 4→P i)→n=0) (h4:(∃ i,i < 4∧¬ P i)→n=1):wh f (Is (nI n)):=by
 have e1:∀ i,i < 4→f i≠0→nI (f i)=nI n:=fun i hi h=>by
  have hp:¬ P i:=fun hp=>h (h1 i hp)
  rw[h2 i hp,h4 ⟨i,hi,hp⟩]
 have e2:∀ i,f i=0→P i:=fun i h=>Classical.byContradiction fun hp=>by rw[h2 i hp] at h; cases h
 unfold wh
 simp only[zh,Bool.not_eq_true',Bool.not_eq_false',bf wJ,wJ]
 refine⟨fun h=>Is.of (e1 0 (by omega) h),fun a=>⟨fun h=>Is.of (e1 1 (by omega) h),fun b=>⟨fun h=>Is.of (e1 2 (by omega) h),fun c=>⟨fun h=>Is.of (e1 3 (by omega) h),fun d=>Is.of ?_⟩⟩⟩⟩
 rw[h3 fun i hi=>by
  match i,hi with
  | 0,_=>exact e2 _ a
  | 1,_=>exact e2 _ b
  | 2,_=>exact e2 _ c
  | 3,_=>exact e2 _ d]
theorem zdr {f:Nat→Bool}{P:Nat→Prop}{p q:Prop}(h:∀ i,f i=true↔P i) (h1:(∃ i,i < 4∧¬ P i)→p) (h2:(∀ i,i < 4→P i)→q):zey f p q:=by
 unfold zey
 simp only[zh,Bool.not_eq_true',Bool.not_eq_false',h,bf (h _)]
 refine⟨fun a=>h1 ⟨0,by omega,a⟩,fun a=>⟨fun b=>h1 ⟨1,by omega,b⟩,fun b=>⟨fun c=>h1 ⟨2,by omega,c⟩,fun c=>⟨fun d=>h1 ⟨3,by omega,d⟩,fun d=>h2 fun i hi=>?_⟩⟩⟩⟩
 match i,hi with
 | 0,_=>exact a
 | 1,_=>exact b
 | 2,_=>exact c
 | 3,_=>exact d
theorem Nd.nf_rc {x:Nd}(h:x.wl) {i:Nat}(hi:i < 4):(x.rc i).nf.e=(x.rc i).e:=by rw[Rc.nf_eq (h.1 i hi)]
theorem zxK {x:Nd}(h:x.wl) (h0:x.lv=0):zey (fun i=>(x.en i).zb) (Is (nI x.e) (nI 1)) (wh (fun i=>(x.rc i).nf.e) (Is (nI x.e))):=by
 refine zdr (P:=fun i=>(x.en i).zero) (fun i=>En.zb_t) (fun⟨i,hi,hn⟩=>Is.of ?_) fun hz=>?_
 ·unfold Nd.e; rw[if_neg fun ok=>hn ((ok.2.1 h0).1 i hi)]
 ·have hc:wh (fun i=>(x.rc i).e) (Is (nI x.e)):=by
   refine YV (P:=fun i=>(x.rc i).ok) (fun i h=>Rc.e_t h) (fun i h=>Rc.e_f h) (fun h=>?_) fun⟨i,hi,hn⟩=>?_
   ·unfold Nd.e; rw[if_pos ⟨by omega,fun _=>⟨hz,h⟩,fun h=>absurd h0 h⟩]
   ·unfold Nd.e; rw[if_neg fun ok=>hn ((ok.2.1 h0).2 i hi)]
  rw[Xg fun i hi=>Nd.nf_rc h hi]
  exact hc
theorem Nd.nf_en {x:Nd}(h:x.wl) {i:Nat}(hi:i < 4):(x.en i).nf.e=(x.en i).e:=by rw[En.nf_eq (h.2 i hi)]
theorem zxL {x:Nd}(h:x.wl) (h0:x.lv≠0) (h5:x.lv≤5):zey (fun i=>(x.rc i).zb) (Is (nI x.e) (nI 1)) (wh (fun i=>(x.en i).nf.e) (Is (nI x.e))):=by
 refine zdr (P:=fun i=>(x.rc i).zero) (fun i=>Rc.zb_t) (fun⟨i,hi,hn⟩=>Is.of ?_) fun hz=>?_
 ·unfold Nd.e; rw[if_neg fun ok=>hn ((ok.2.2 h0).1 i hi)]
 ·have hc:wh (fun i=>(x.en i).e) (Is (nI x.e)):=by
   refine YV (P:=fun i=>(x.en i).ok) (fun i h=>En.e_t h) (fun i h=>En.e_f h) (fun h=>?_) fun⟨i,hi,hn⟩=>?_
   ·unfold Nd.e; rw[if_pos ⟨h5,fun h=>absurd h h0,fun _=>⟨hz,h⟩⟩]
   ·unfold Nd.e; rw[if_neg fun ok=>hn ((ok.2.2 h0).2 i hi)]
  rw[Xg fun i hi=>Nd.nf_en h hi]
  exact hc
theorem zpH {x:Nd}{q:Prop}(h:x.lv≤5→q):alt (gt5 x.lv) (Is (nI x.e) (nI 1)) q:=by
 simp only[zh,show gt5 x.lv=true↔5 < x.lv from vq,bf (show gt5 x.lv=true↔5 < x.lv from vq)]
 refine⟨fun h=>Is.of ?_,fun h'=>h (by omega)⟩
 unfold Nd.e; rw[if_neg fun ok=>by have:=ok.1; omega]
def zpI:zk:=fun l K=>la1 l fun v=>zkz v fun x=>K (nI x.e)
theorem zmo:KCS Tryz.prog 60 zpI:=zab zxH rfl ⟨Tryz.f60,Tryz.func60,by kernel_rfl,by kernel_rfl⟩ 60 (fun v f h=>zbf h) (fun x=>rfl) fun x w=>by
 obtain⟨lv,ix,rc,en⟩:=x
 cases lv with
 | zero =>
  show zuz ⟨0,ix,rc,en⟩ (Is (nI _))
  rw[zxI]
  exact zxK w rfl
 | succ l =>
  show zuA l ⟨Nat.succ l,ix,rc,en⟩ (Is (nI _))
  rw[zxJ]
  exact zpH (x:=⟨l + 1,ix,rc,en⟩) fun h5=>zxL w (by simp) h5
def upC (c:Nat):Nat:=Nat.div (Nat.add c 3) 4
def xv (n:Nat) (l:Nat):Nat:=@Nat.rec (fun _=>Nat) (upC n) (fun _ c=>@Nat.rec (fun _=>Nat) 0 (fun k _=>@Nat.rec (fun _=>Nat) 0 (fun _ _=>upC c) k) c) l
def zuD (n:Nat) (l:Nat):Nat:=@Nat.rec (fun _=>Nat) n (fun k _=>xv n k) l
def isS (n l i:Nat):Bool:=Nat.blt i (xv n l)
def xl (n l i:Nat):Nat:=@Bool.rec (fun _=>Nat) 0 (@Bool.rec (fun _=>Nat) (Nat.sub (zuD n l) (Nat.mul 4 i)) 4 (Nat.ble 4 (Nat.sub (zuD n l) (Nat.mul 4 i)))) (isS n l i)
def yx (P:Nat→Prop) (n:Nat):Prop:=@Nat.rec (fun _=>Prop) True (fun i ih=>ih∧P i) n
theorem vx {P:Nat→Prop}:∀ {n:Nat},yx P n→∀ i,i < n→P i
 | 0,_,i,h=>by omega
 | n + 1,h,i,hi=>by
  obtain⟨h1,h2⟩:=(show yx P n∧P n from h)
  by_cases e:i=n
  ·rw[e]; exact h2
  ·exact vx h1 i (by omega)
def whB (b:Bool) (p:Prop):Prop:=@Bool.rec (fun _=>Prop) True p b
theorem zmp {b:Bool}{p:Prop}(h:whB b p) (hb:b=true):p:=by rw[hb] at h; exact h
def zkJ (f n l i:Nat) (w:KV):Prop:=zo EO0 (zp EO0 200) 0 f [nI n,nI l,nI i] .e 0 0 fun r _ _ _=>tK (kvb r w)
def YW (f:Nat) (w:Nat→Nat→Nat→KV) (q:Bool):Prop:=yx (fun n=>yx (fun l=>yx (fun i=>whB (isS (Nat.succ n) l i) (@Bool.rec (fun _=>Prop) True (zkJ f (Nat.succ n) l i (w (Nat.succ n) l i)) q)) 6) 3) 24
def zhL (f:Nat) (z:KV) (q:Bool):Prop:=yx (fun n=>yx (fun l=>∀ j,@Bool.rec (fun _=>Prop) True (zkJ f (Nat.succ n) l (Nat.add j (xv (Nat.succ n) l)) z) q) 3) 24
def zhM (f:Nat) (z:KV) (q:Bool):Prop:=yx (fun n=>∀ l j,@Bool.rec (fun _=>Prop) True (zkJ f (Nat.succ n) (Nat.add l 3) j z) q) 24
def zkK (n l i:Nat):KV:=.bool true
def zpK (n l i:Nat):KV:=nI (xl n l i)
attribute [local irreducible] zo zp
theorem qq {P:Nat→Prop}(hp:∀ i,P i):∀ n,yx P n
 | 0=>trivial
 | n + 1=>⟨qq hp n,hp n⟩
theorem zhN (f:Nat) (w:Nat→Nat→Nat→KV):YW f w false :=
 qq (fun n=>qq (fun l=>qq (fun i=>by cases isS (Nat.succ n) l i<;>trivial) 6) 3) 24
theorem zpL (f:Nat) (z:KV):zhL f z false:=qq (fun n=>qq (fun l=>fun j=>trivial) 3) 24
theorem zpM (f:Nat) (z:KV):zhM f z false:=qq (fun n=>fun l j=>trivial) 24
theorem zuE:YW 124 zkK true=YW 124 zkK false:=by kernel_rfl
theorem zuF:YW 117 zpK true=YW 117 zpK false:=by kernel_rfl
theorem zuG:zhL 124 (.bool false) true=zhL 124 (.bool false) false:=by kernel_rfl
theorem zuH:zhM 124 (.bool false) true=zhM 124 (.bool false) false:=by kernel_rfl
theorem XD (n l:Nat) (hn:n < 24):xv (Nat.succ n) (Nat.add l 3)=0:=by
 have h2:∀ m,m < 24→xv (Nat.succ m) 2=0∨xv (Nat.succ m) 2=1:=by
  intro m hm
  have:yx (fun m=>xv (Nat.succ m) 2=0∨xv (Nat.succ m) 2=1) 24:=by
   have h:∀ m:Fin 24,xv (Nat.succ m.1) 2=0∨xv (Nat.succ m.1) 2=1:=by decide
   have h1:∀ k,k≤24→yx (fun m=>xv (Nat.succ m) 2=0∨xv (Nat.succ m) 2=1) k:=by
    intro k
    induction k with
    | zero=>intro _; trivial
    | succ k ih=>intro hk; exact⟨ih (by omega),h ⟨k,by omega⟩⟩
   exact h1 24 (by omega)
  exact vx this m hm
 induction l with
 | zero =>
  show (@Nat.rec (fun _=>Nat) 0 (fun k _=>@Nat.rec (fun _=>Nat) 0 (fun _ _=>upC (xv (Nat.succ n) 2)) k) (xv (Nat.succ n) 2))=0
  rcases h2 n hn with h | h<;>rw[h]<;>rfl
 | succ l ih =>
  show (@Nat.rec (fun _=>Nat) 0 (fun k _=>@Nat.rec (fun _=>Nat) 0 (fun _ _=>upC (xv (Nat.succ n) (Nat.succ (Nat.succ (Nat.add l 1))))) k) (xv (Nat.succ n) (Nat.add l 3)))=0
  rw[ih]
  rfl
theorem zmq {n l i:Nat}:isS n l i=false↔xv n l≤i:=by
 show Nat.blt i _=false↔_
 rw[←Bool.not_eq_true,x9]; exact Nat.not_lt
theorem VL {n l i:Nat}:isS n l i=true↔i < xv n l:=x9
theorem Zh (n l:Nat) (hn:n < 24) (hl:l < 3):xv (Nat.succ n) l≤6:=by
 have h:∀ m:Fin 24,∀ l:Fin 3,xv (Nat.succ m.1) l.1≤6:=by decide
 exact h ⟨n,hn⟩ ⟨l,hl⟩
theorem zkL {f:Nat}{w:Nat→Nat→Nat→KV}{z:KV}(h1:YW f w true) (h2:zhL f z true) (h3:zhM f z true) {n l i:Nat}(hn:1≤n) (hn2:n≤24):zkJ f n l i (@Bool.rec (fun _=>KV) z (w n l i) (isS n l i)):=by
 obtain⟨m,rfl⟩:∃ m,n=Nat.succ m:=⟨n - 1,by omega⟩
 have hm:m < 24:=by omega
 by_cases hl:l < 3
 ·cases hb:isS (Nat.succ m) l i with
  | true =>
   have hi:=VL.1 hb
   have:=Zh m l hm hl
   exact zmp (vx (vx (vx h1 m hm) l hl) i (by omega)) hb
  | false =>
   have hi:=zmq.1 hb
   have:=vx (vx h2 m hm) l hl (i - xv (Nat.succ m) l)
   rwa [show Nat.add (i - xv (Nat.succ m) l) (xv (Nat.succ m) l)=i from Nat.sub_add_cancel hi] at this
 ·obtain⟨k,rfl⟩:∃ k,l=Nat.add k 3:=⟨l - 3,by show l=l - 3 + 3; omega⟩
  rw[show isS (Nat.succ m) (Nat.add k 3) i=false by rw[zmq,XD m k hm]; omega]
  exact vx h3 m hm k i
def vV (n:Nat):Bool:=nd (Nat.ble 1 n) (Nat.ble n 24)
theorem wi {n:Nat}(h:vV n=true):1≤n∧n≤24:=by
 obtain⟨h1,h2⟩:=za.1 h
 exact⟨Nat.le_of_ble_eq_true h1,Nat.le_of_ble_eq_true h2⟩
def la3 (l:List KV) (f:KV→KV→KV→Prop):Prop:=match l with
 | [a,b,c]=>f a b c
 | _=>BadN 920
theorem zhO {l:List KV}{f:KV→KV→KV→Prop}(h:la3 l f):∃ a b c,l=[a,b,c]∧f a b c:=by
 unfold la3 at h
 split at h
 ·exact⟨_,_,_,rfl,h⟩
 ·exact h.elim
def s3 (w:Nat→Nat→Nat→KV):zk:=fun l K=>la3 l fun a b c=>ZU a fun n=>ZU b fun l=>ZU c fun i=>chk (vV n) 921 (K (w n l i))
theorem zxN {f:Nat}(hf:zdC f) {w:Nat→Nat→Nat→KV}{z:KV}(h1:YW f w true) (h2:zhL f z true) (h3:zhM f z true) (hr:∀ n l i,xw (@Bool.rec (fun _=>KV) z (w n l i) (isS n l i):KV).v=true):KCS Tryz.prog f (s3 fun n l i=>@Bool.rec (fun _=>KV) z (w n l i) (isS n l i)) :=
 zes hf fun l K hs=>by
  obtain⟨a,b,c,rfl,hs⟩:=zhO hs
  obtain⟨n,rfl,hs⟩:=jA hs
  obtain⟨l,rfl,hs⟩:=jA hs
  obtain⟨i,rfl,hs⟩:=jA hs
  obtain⟨hn,hk⟩:=zf hs
  obtain⟨q1,q2⟩:=wi hn
  exact⟨EO0,zR,rfl,200,_,_,hk,hr n l i,fun r hr=>by rw[qV (zfX hr)]; exact Imp.refl _,zkL h1 h2 h3 q1 q2⟩
def zxO:zk:=s3 fun n l i=>@Bool.rec (fun _=>KV) (.bool false) (zkK n l i) (isS n l i)
theorem zpN:KCS Tryz.prog 124 zxO:=zxN ⟨Tryz.f124,Tryz.func124,by kernel_rfl,by kernel_rfl⟩ (Eq.mpr zuE (zhN _ _)) (Eq.mpr zuG (zpL _ _)) (Eq.mpr zuH (zpM _ _)) fun n l i=>by cases isS n l i<;>rfl
def zxP:zk:=fun l K=>la3 l fun a b c=>ZU a fun n=>ZU b fun l=>ZU c fun i=>chk (nd (vV n) (isS n l i)) 922 (K (nI (xl n l i)))
theorem zhP:KCS Tryz.prog 117 zxP :=
 zes ⟨Tryz.f117,Tryz.func117,by kernel_rfl,by kernel_rfl⟩ fun l K hs=>by
  obtain⟨a,b,c,rfl,hs⟩:=zhO hs
  obtain⟨n,rfl,hs⟩:=jA hs
  obtain⟨l,rfl,hs⟩:=jA hs
  obtain⟨i,rfl,hs⟩:=jA hs
  obtain⟨hn,hk⟩:=zf hs
  obtain⟨hn,hi⟩:=za.1 hn
  obtain⟨q1,q2⟩:=wi hn
  obtain⟨m,rfl⟩:∃ m,n=Nat.succ m:=⟨n - 1,by omega⟩
  have hm:m < 24:=by omega
  have hl:l < 3:=by
   refine Classical.byContradiction fun hl=>?_
   obtain⟨k,rfl⟩:∃ k,l=Nat.add k 3:=⟨l - 3,by show l=l - 3 + 3; omega⟩
   rw[VL,XD m k hm] at hi
   omega
  have:=Zh m l hm hl
  have hi':=VL.1 hi
  exact⟨EO0,zR,rfl,200,_,_,hk,rfl,fun r hr=>by rw[qV (zfX hr)]; exact Imp.refl _,zmp (vx (vx (vx (Eq.mpr zuF (zhN _ _):YW 117 zpK true) m hm) l hl) i (by omega)) hi⟩
end
end Go.K
set_option maxRecDepth 100000
namespace Go.K
open Go.Ab Go.RowKit Go.Y Go.Proofs
noncomputable section
attribute [local instance 10000] gO
theorem KCS.imp {P:Program}{f:FuncId}{s s':zk}(h:KCS P f s) (hs:∀ l K,s' l K→s l K):KCS P f s':=⟨h.1,fun l K hk=>h.2 l K (hs l K hk)⟩
def on3 (l:List KV) (f:Nat→Nat→Nat→Prop):Prop:=la3 l fun a b c=>ZU a fun n=>ZU b fun l=>ZU c fun i=>f n l i
theorem zdl {l:List KV}{f:Nat→Nat→Nat→Prop}(h:on3 l f):∃ n m i,l=[nI n,nI m,nI i]∧f n m i:=by
 obtain⟨a,b,c,rfl,h0⟩:=zhO h
 obtain⟨n,rfl,h1⟩:=jA h0
 obtain⟨l,rfl,h2⟩:=jA h1
 obtain⟨i,rfl,h3⟩:=jA h2
 exact⟨n,l,i,rfl,h3⟩
def sQp (p:Nat):zk:=fun l K=>on3 l fun n l i=>(vV n=true∧isS n l i=true∧xl n l i=p)∧K (nI p)
def sIp (b:Bool):zk:=fun l K=>on3 l fun n l i=>(vV n=true∧isS n l i=b)∧K (.bool b)
theorem kQp (p:Nat):KCS Tryz.prog 117 (sQp p):=zhP.imp fun l K h=>by
 obtain⟨n,l,i,rfl,⟨h1,h2,h3⟩,h4⟩:=zdl h
 show chk (nd (vV n) (isS n l i)) 922 (K _)
 rw[h1,h2,h3]; exact h4
theorem kIp (b:Bool):KCS Tryz.prog 124 (sIp b):=zpN.imp fun l K h=>by
 obtain⟨n,l,i,rfl,⟨h1,h2⟩,h4⟩:=zdl h
 show chk (vV n) 921 (K (@Bool.rec (fun _=>KV) (.bool false) (zkK n l i) (isS n l i)))
 rw[h1,h2]
 cases b<;>exact h4
def E58 (p:Nat):KEnv:=EO0.tab [(60,zpI),(124,sIp true),(117,sQp p)]
def zkE:KEnv:=EO0.tab [(60,zpI),(124,sIp false)]
theorem zxq (p:Nat):KOk (E58 p):=zR.tab ⟨zmo,kIp true,kQp p,trivial⟩
theorem ztW:KOk zkE:=zR.tab ⟨zmo,kIp false,trivial⟩
def Nd.nf (x:Nd):Nd:=⟨x.lv,x.ix,c4 (x.rc 0).nf (x.rc 1).nf (x.rc 2).nf (x.rc 3).nf,c4 (x.en 0).nf (x.en 1).nf (x.en 2).nf (x.en 3).nf⟩
theorem zmj {α:Type}{f g:Nat→α}(h:∀ i,i < 4→g i=f i):∀ i,i < 4→c4 (g 0) (g 1) (g 2) (g 3) i=f i
 | 0,_=>h 0 (by omega)
 | 1,_=>h 1 (by omega)
 | 2,_=>h 2 (by omega)
 | 3,_=>h 3 (by omega)
 | n + 4,h=>by omega
theorem Nd.nf_rc' {x:Nd}(h:x.wl):∀ i,i < 4→x.nf.rc i=x.rc i:=zmj (g:=fun i=>(x.rc i).nf) fun i hi=>Rc.nf_eq (h.1 i hi)
theorem Nd.nf_en' {x:Nd}(h:x.wl):∀ i,i < 4→x.nf.en i=x.en i:=zmj (g:=fun i=>(x.en i).nf) fun i hi=>En.nf_eq (h.2 i hi)
theorem Nd.ok_congr {x y:Nd}(h1:x.lv=y.lv) (h2:∀ i,i < 4→x.rc i=y.rc i) (h3:∀ i,i < 4→x.en i=y.en i):x.ok↔y.ok:=by
 have a:∀ P:Rc→Prop,(∀ i,i < 4→P (x.rc i))↔∀ i,i < 4→P (y.rc i):=fun P=>⟨fun h i hi=>by rw[←h2 i hi]; exact h i hi,fun h i hi=>by rw[h2 i hi]; exact h i hi⟩
 have b:∀ P:En→Prop,(∀ i,i < 4→P (x.en i))↔∀ i,i < 4→P (y.en i):=fun P=>⟨fun h i hi=>by rw[←h3 i hi]; exact h i hi,fun h i hi=>by rw[h3 i hi]; exact h i hi⟩
 unfold Nd.ok
 rw[h1,a Rc.zero,a Rc.ok,b En.zero,b En.ok]
theorem Nd.nf_e {x:Nd}(h:x.wl):x.nf.e=x.e:=by
 have:=Nd.ok_congr (x:=x.nf) (y:=x) rfl (Nd.nf_rc' h) (Nd.nf_en' h)
 unfold Nd.e
 by_cases hk:x.ok
 ·rw[if_pos hk,if_pos (this.2 hk)]
 ·rw[if_neg hk,if_neg fun h=>hk (this.1 h)]
def Nd.fits (n:Nat) (x:Nd):Prop:=x.ok∧isS n x.lv x.ix=true∧∀ i,i < 4→xl n x.lv x.ix≤i→(x.rc i).zero∧(x.en i).zero
open Classical in
def Nd.fe (n:Nat) (x:Nd):Nat:=if x.ok then (if x.fits n then 0 else 17) else 1
def b63 (a:Nat):Bool:=Nat.blt a 9223372036854775808
def lt1 (n:Nat):Bool:=ltI (.ofNat n) (.ofNat 1)
def gtM (n:Nat):Bool:=ltI (.ofNat 4096) (.ofNat n)
def rst (x:Nd) (K:KV→Prop) (k:Nat):Prop:=@Nat.rec (fun _=>Prop) (K (nI 0)) (fun k ih=>alt (!(x.rc (Nat.sub 3 k)).zb) (K (nI 17)) (alt (!(x.en (Nat.sub 3 k)).zb) (K (nI 17)) ih)) k
def hd (n:Nat) (x:Nd) (K:KV→Prop) (q:Prop):Prop:=alt (lt1 n) (K (nI 1)) (alt (gtM n) (K (nI 1)) (alt (!eZ x.nf.e) (K (nI x.nf.e)) (cnd (b63 x.lv) (cnd (b63 x.ix) q))))
def ztX (n:Nat) (x:Nd) (K:KV→Prop):Prop:=zo zkE (zp zkE 60) 0 58 [nI n,x.k] .e 0 0 fun r _ _ _=>K r
def p58 (p:Nat) (n:Nat) (x:Nd) (K:KV→Prop):Prop:=zo (E58 p) (zp (E58 p) 60) 0 58 [nI n,x.k] .e 0 0 fun r _ _ _=>K r
def cP (p n:Nat) (x:Nd):Prop:=vV n=true∧isS n x.lv x.ix=true∧xl n x.lv x.ix=p
def cI (b:Bool) (n:Nat) (x:Nd):Prop:=vV n=true∧isS n x.lv x.ix=b
theorem zxr (n:Nat) (x:Nd) (K:KV→Prop):ztX n x K=hd n x K (cI false n x∧K (nI 17)):=by kernel_rfl
def h2 (n:Nat) (x:Nd) (p:Nat) (q:Prop):Prop:=cI true n x∧cnd (b63 x.lv) (cnd (b63 x.ix) (cP p n x∧q))
theorem ztY (n:Nat) (x:Nd) (K:KV→Prop):p58 1 n x K=hd n x K (h2 n x 1 (rst x K 3)):=by kernel_rfl
theorem ztZ (n:Nat) (x:Nd) (K:KV→Prop):p58 2 n x K=hd n x K (h2 n x 2 (rst x K 2)):=by kernel_rfl
theorem zt0 (n:Nat) (x:Nd) (K:KV→Prop):p58 3 n x K=hd n x K (h2 n x 3 (rst x K 1)):=by kernel_rfl
theorem zt1 (n:Nat) (x:Nd) (K:KV→Prop):p58 4 n x K=hd n x K (h2 n x 4 (rst x K 0)):=by kernel_rfl
theorem xe {a:Nat}:b63 a=true↔a < 9223372036854775808:=x9
theorem YP {n:Nat}{x:Nd}{q:Prop}(hn:vV n=true) (hw:x.wl) (hl:x.lv < 256) (hi:x.ix < 4294967296) (h:x.ok→q):hd n x (Is (nI (x.fe n))) q:=by
 obtain⟨n1,n2⟩:=wi hn
 unfold hd
 rw[Nd.nf_e hw]
 simp only[zh,ze,show lt1 n=true↔n < 1 from vq,bf (show lt1 n=true↔n < 1 from vq),show gtM n=true↔4096 < n from vq,bf (show gtM n=true↔4096 < n from vq),Bool.not_eq_true',Bool.not_eq_false',bf wJ,wJ,xe]
 refine⟨fun h=>by omega,fun _=>⟨fun h=>by omega,fun _=>⟨fun he=>Is.of ?_,fun he=>⟨by omega,by omega,h ?_⟩⟩⟩⟩
 ·have hk:¬ x.ok:=fun hk=>he (if_pos hk)
  unfold Nd.fe
  rw[if_neg hk,show x.e=1 from if_neg hk]
 ·exact Classical.byContradiction fun hk=>by rw[show x.e=1 from if_neg hk] at he; cases he
theorem zho {n:Nat}{x:Nd}(hk:x.ok) (h:¬ x.fits n):x.fe n=17:=by unfold Nd.fe; rw[if_pos hk,if_neg h]
theorem zxs {n:Nat}{x:Nd}(h:x.fits n):x.fe n=0:=by unfold Nd.fe; rw[if_pos h.1,if_pos h]
theorem zhp {n:Nat}{x:Nd}(hk:x.ok) (hs:isS n x.lv x.ix=true):∀ k,k≤3→(∀ i,xl n x.lv x.ix≤i→i < 4 - k→(x.rc i).zero∧(x.en i).zero)→xl n x.lv x.ix≤4 - k→rst x (Is (nI (x.fe n))) k
 | 0,_,h,_=>Is.of (by rw[zxs ⟨hk,hs,fun i hi hp=>h i hp (by omega)⟩])
 | k + 1,hk3,h,hp=>by
  show alt (!(x.rc (Nat.sub 3 k)).zb) (Is (nI (x.fe n)) (nI 17)) (alt (!(x.en (Nat.sub 3 k)).zb) (Is (nI (x.fe n)) (nI 17)) (rst x (Is (nI (x.fe n))) k))
  have hi3:Nat.sub 3 k < 4:=by show 3 - k < 4; omega
  have hip:xl n x.lv x.ix≤Nat.sub 3 k:=by show _≤3 - k; omega
  simp only[zh,Bool.not_eq_true',Bool.not_eq_false',bf Rc.zb_t,Rc.zb_t,bf En.zb_t,En.zb_t]
  refine⟨fun h1=>Is.of ?_,fun h1=>⟨fun h2=>Is.of ?_,fun h2=>zhp hk hs k (by omega) (fun i hi hi2=>?_) (by omega)⟩⟩
  ·rw[zho hk fun hf=>h1 (hf.2.2 _ hi3 hip).1]
  ·rw[zho hk fun hf=>h2 (hf.2.2 _ hi3 hip).2]
  ·by_cases e:i=Nat.sub 3 k
   ·rw[e]; exact⟨h1,h2⟩
   ·exact h i hi (by have:i≠3 - k:=e; omega)
theorem Wn {n l i:Nat}(hn:vV n=true) (h:isS n l i=true):1≤xl n l i∧xl n l i≤4:=by
 obtain⟨n1,n2⟩:=wi hn
 obtain⟨m,rfl⟩:∃ m,n=Nat.succ m:=⟨n - 1,by omega⟩
 have hm:m < 24:=by omega
 have hl:l < 3:=by
  refine Classical.byContradiction fun hl=>?_
  obtain⟨k,rfl⟩:∃ k,l=Nat.add k 3:=⟨l - 3,by show l=l - 3 + 3; omega⟩
  rw[VL,XD m k hm] at h
  omega
 have hc:=Zh m l hm hl
 have hi:=VL.1 h
 have hd:∀ m:Fin 24,∀ l:Fin 3,∀ i:Fin 6,isS (Nat.succ m.1) l.1 i.1=true→1≤xl (Nat.succ m.1) l.1 i.1∧xl (Nat.succ m.1) l.1 i.1≤4:=by decide
 exact hd ⟨m,hm⟩ ⟨l,hl⟩ ⟨i,by omega⟩ h
def zt2:zk:=fun l K=>la2 l fun a v=>ZU a fun n=>zkz v fun x=>(vV n=true∧x.lv < 256∧x.ix < 4294967296)∧K (nI (x.fe n))
def zxt (n:Nat) (x:Nd):Prop:=vV n=true∧x.lv < 256∧x.ix < 4294967296
theorem zo1 {α:Type}{fid:FuncId}(hf:zdC fid) {on:KV→(α→Prop)→Prop}{k:α→KV}{W:α→Prop}{sp:Nat→α→KV}{pre:Nat→α→Prop}
  (hon:∀ v f,on v f→∃ x,W x∧Imp v.v (k x).v∧f x) (hr:∀ N x,xw (sp N x).v=true)
  (h:∀ N x,W x→pre N x→∃ E:KEnv,KOk E∧E.P=Tryz.prog∧∃ n,zo E (zp E n) 0 fid [nI N,k x] .e 0 0 fun r _ _ _=>Imp r.v (sp N x).v):KCS Tryz.prog fid (fun l K=>la2 l fun a v=>ZU a fun N=>on v fun x=>pre N x∧K (sp N x)):=by
 refine zjJ hf fun l K hs=>?_
 obtain⟨a,v,rfl,h0⟩:=zdf hs
 obtain⟨N,rfl,h1⟩:=jA h0
 obtain⟨x,w,hi,hp,hk⟩:=hon _ _ h1
 obtain⟨E,hE,hP,n,hc⟩:=h N x w hp
 refine⟨E,hE,hP,n,fun r=>Imp r.v (sp N x).v,sp N x,[nI N,k x],hk,hr N x,fun r hr=>hr,fun C m hm=>?_,hc⟩
 exact Imp.cons (Imp.refl _) (Imp.cons hi (Imp.refl _)) C m hm
theorem zt3:KCS Tryz.prog 58 zt2:=zo1 (pre:=zxt) ⟨Tryz.f58,Tryz.func58,by kernel_rfl,by kernel_rfl⟩ (fun v f h=>zbf h) (fun _ x=>rfl) fun n x w hp=>by
 obtain⟨hn,hl,hi⟩:=hp
 cases hs:isS n x.lv x.ix with
 | false =>
  refine⟨zkE,ztW,rfl,60,?_⟩
  show ztX n x (Is (nI (x.fe n)))
  rw[zxr]
  exact YP hn w hl hi fun hk=>⟨⟨hn,hs⟩,Is.of (by rw[zho hk fun hf=>by rw[hf.2.1] at hs; cases hs])⟩
 | true =>
  obtain⟨p1,p2⟩:=Wn hn hs
  refine⟨E58 (xl n x.lv x.ix),zxq _,rfl,60,?_⟩
  show p58 (xl n x.lv x.ix) n x (Is (nI (x.fe n)))
  have key:∀ p k,xl n x.lv x.ix=p→p=4 - k→k≤3→x.ok→h2 n x p (rst x (Is (nI (x.fe n))) k):=fun p k h1 h2 h3 hk=>⟨⟨hn,hs⟩,ze.2 ⟨xe.2 (by omega),ze.2 ⟨xe.2 (by omega),⟨hn,hs,h1⟩,zhp hk hs k h3 (fun i hi hi2=>by omega) (by omega)⟩⟩⟩
  have h4:xl n x.lv x.ix=1∨xl n x.lv x.ix=2∨xl n x.lv x.ix=3∨xl n x.lv x.ix=4:=by omega
  rcases h4 with h | h | h | h<;>rw[h]
  ·rw[ztY]; exact YP hn w hl hi (key 1 3 h rfl (by omega))
  ·rw[ztZ]; exact YP hn w hl hi (key 2 2 h rfl (by omega))
  ·rw[zt0]; exact YP hn w hl hi (key 3 1 h rfl (by omega))
  ·rw[zt1]; exact YP hn w hl hi (key 4 0 h rfl (by omega))
def lsF (n:Nat) (f:Nat→Nat):List Nat:=@Nat.rec (fun _=>Nat→List Nat) (fun _=>[]) (fun _ ih i=>f i::ih (Nat.succ i)) n 0
def apL (l m:List Nat):List Nat:=@List.rec Nat (fun _=>List Nat) m (fun x _ ih=>x::ih) l
def P32 (a:Nat):List Nat:=[Nat.mod (Nat.div (Nat.mod a 18446744073709551616) 16777216) 256,Nat.mod (Nat.div (Nat.mod a 18446744073709551616) 65536) 256,Nat.mod (Nat.div (Nat.mod a 18446744073709551616) 256) 256,Nat.mod (Nat.div (Nat.mod a 18446744073709551616) 1) 256]
def P64 (a:Nat):List Nat:=[Nat.mod (Nat.div a 72057594037927936) 256,Nat.mod (Nat.div a 281474976710656) 256,Nat.mod (Nat.div a 1099511627776) 256,Nat.mod (Nat.div a 4294967296) 256,Nat.mod (Nat.div a 16777216) 256,Nat.mod (Nat.div a 65536) 256,Nat.mod (Nat.div a 256) 256,Nat.mod (Nat.div a 1) 256]
def zg1 (p64:Nat→List Nat) (m:List Nat) (L tot j:Nat):Nat:=@Bool.rec (fun _=>Nat) (@Bool.rec (fun _=>Nat) (@Bool.rec (fun _=>Nat) (nN (p64 (Nat.mul 8 L)) (Nat.sub j (Nat.sub tot 8))) 0 (Nat.blt j (Nat.sub tot 8))) 128 (Nat.beq j L)) (nN m j) (Nat.blt j L)
def zev (p64:Nat→List Nat) (m:List Nat) (L tot k:Nat):List Nat:=lsF 64 fun i=>zg1 p64 m L tot (Nat.add (Nat.mul 64 k) i)
def ztn:List Nat:=[1779033703,3144134277,1013904242,2773480762,1359893119,2600822924,528734635,1541459225]
def stL (cp:CP) (p64:Nat→List Nat) (m:List Nat) (L tot:Nat) (k:Nat):List Nat:=@Nat.rec (fun _=>List Nat) ztn (fun k ih=>lsF 8 fun i=>cp ih (zev p64 m L tot k) i) k
def ZV (cp:CP) (p32 p64:Nat→List Nat) (m:List Nat) (L nb:Nat):List Nat:=lsF 32 fun j=>nN (p32 (nN (stL cp p64 m L (Nat.mul 64 nb) nb) (Nat.div j 4))) (Nat.mod j 4)
def rcL (p32 p64:Nat→List Nat) (r:Rc):List Nat:=r.st::apL (p32 r.sh) (apL (p64 r.ct) (lsF 32 (nN r.tg)))
def enL (r:En):List Nat:=r.st::lsF 32 (nN r.dg)
def VE (px p32 p64:Nat→List Nat) (x:Nd):List Nat:=x.lv::apL (px x.ix) (apL (rcL p32 p64 (x.rc 0)) (apL (rcL p32 p64 (x.rc 1)) (apL (rcL p32 p64 (x.rc 2)) (rcL p32 p64 (x.rc 3)))))
def Xl (px:Nat→List Nat) (x:Nd):List Nat:=x.lv::apL (px x.ix) (apL (enL (x.en 0)) (apL (enL (x.en 1)) (apL (enL (x.en 2)) (enL (x.en 3)))))
def z0 (x:Nd):Nd:={ x with lv:=0 }
def s1 (l:Nat) (x:Nd):Nd:={ x with lv:=Nat.succ l }
def lsO (c:KV) (off n:Nat):List Nat:=@Nat.rec (fun _=>Nat→List Nat) (fun _=>[]) (fun _ ih i=>ntK c i::ih (Nat.succ i)) n off
def isO (off n:Nat) (c:KV):Bool:=nd (arK c) (zkw (fun i=>isI .u8 (zM (Nat.add off i) c)) n)
def zto (cp:CP):zk:=fun l K=>la2 l fun x y=>chk (isA .u32 8 x) 900 (Vx (fun u cl e off len c=>chk (nd (xC e) (nd (Nat.beq len 64) (isO off 64 c))) 902 (K (kAr 8 (zex 0) fun i=>zex (cp (lsK x 8) (lsO c off 64) i)))) (BadN 903) y)
def rr (a:Nat):Nat:=Nat.mod (Nat.mod a 256) 256
def dd (a:Nat):Nat:=Nat.mod (Nat.div a 256) 18446744073709551616
def R32 (a:Nat):List Nat:=[rr (dd (dd (dd (Nat.mod a 18446744073709551616)))),rr (dd (dd (Nat.mod a 18446744073709551616))),rr (dd (Nat.mod a 18446744073709551616)),rr (Nat.mod a 18446744073709551616)]
def R64 (a:Nat):List Nat:=[rr (dd (dd (dd (dd (dd (dd (dd a))))))),rr (dd (dd (dd (dd (dd (dd a)))))),rr (dd (dd (dd (dd (dd a))))),rr (dd (dd (dd (dd a)))),rr (dd (dd (dd a))),rr (dd (dd a)),rr (dd a),rr a]
def S32 (a:Nat):List Nat:=[Nat.mod (Nat.div a 16777216) 256,Nat.mod (Nat.div a 65536) 256,Nat.mod (Nat.div a 256) 256,Nat.mod a 256]
def E55 (cp:CP):KEnv:=EO0.tab [(190,zto cp)]
def ztp (cp:CP) (x:Nd) (L:List Nat):Prop:=zo (E55 cp) (zp (E55 cp) 300) 0 55 [(z0 x).k] .e 0 0 fun r _ _ _=>byQ 32 L r
def zoy (cp:CP) (l:Nat) (x:Nd) (L:List Nat):Prop:=zo (E55 cp) (zp (E55 cp) 300) 0 55 [(s1 l x).k] .e 0 0 fun r _ _ _=>byQ 32 L r
def qB (L:List Nat):Prop:=true=true∧L=L
theorem zxd (cp:CP) (x:Nd):ztp cp x (ZV cp R32 R64 (VE S32 R32 R64 (z0 x)) 185 4)=qB (ZV cp R32 R64 (VE S32 R32 R64 (z0 x)) 185 4):=by kernel_rfl
theorem ztq (cp:CP) (l:Nat) (x:Nd):zoy cp l x (ZV cp R32 R64 (Xl S32 (s1 l x)) 137 3)=qB (ZV cp R32 R64 (Xl S32 (s1 l x)) 137 3):=by kernel_rfl
end
end Go.K
