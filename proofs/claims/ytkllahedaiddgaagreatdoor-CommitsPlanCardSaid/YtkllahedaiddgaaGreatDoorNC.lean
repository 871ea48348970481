/- The digest of a node: what the program's run comes to, over whatever compression. No condition. -/
import Derived.Test.YtkllahedaiddgaaGreatDoorND
import Derived.Test.YtkllahedaiddgaaGreatDoorK19
set_option linter.unusedSimpArgs false
set_option linter.unusedVariables false
set_option maxRecDepth 100000
namespace Go.K
open Go.Ab Go.RowKit Go.Y Go.Proofs
noncomputable section
attribute [local instance 10000] gO
def JB (fid:FuncId):Prop:=∃ fn,Tryz.prog.funcs[fid]?=some fn∧(fn.name == "runtime.NumGoroutine")=false∧fn.body.isNone=false
theorem zIF {α:Type}{E:KEnv}(hE:KOk E) (hP:E.P=Tryz.prog) {fid:FuncId}(hf:JB fid) {on:KV→(α→Prop)→Prop}{k:α→KV}{W:α→Prop}{sp:α→KV}{pre:α→Prop}(n:Nat)
  (hon:∀ v f,on v f→∃ x,W x∧Imp v.v (k x).v∧f x) (hr:∀ x,xi (sp x).v=true)
  (h:∀ x,W x→pre x→zk E (zp E n) 0 fid [k x] .e 0 0 fun r _ _ _=>Imp r.v (sp x).v):KCS Tryz.prog fid (fun l K=>la1 l fun v=>on v fun x=>pre x∧K (sp x)):=by
 refine zgW hf fun l K hs=>?_
 obtain⟨v,rfl,h1⟩:=wz hs
 obtain⟨x,w,hi,hp,hk⟩:=hon _ _ h1
 refine⟨E,hE,hP,n,fun r=>Imp r.v (sp x).v,sp x,[k x],hk,hr x,fun r hr=>hr,fun C m hm=>?_,h x w hp⟩
 exact Imp.cons hi (Imp.refl _) C m hm
theorem XV {α:Type}{E:KEnv}(hE:KOk E) (hP:E.P=Tryz.prog) {fid:FuncId}(hf:JB fid) {on:KV→(α→Prop)→Prop}{k:α→KV}{W:α→Prop}{sp:α→KV}(n:Nat)
  (hon:∀ v f,on v f→∃ x,W x∧Imp v.v (k x).v∧f x) (hr:∀ x,xi (sp x).v=true)
  (h:∀ x,W x→zk E (zp E n) 0 fid [k x] .e 0 0 fun r _ _ _=>Imp r.v (sp x).v):KCS Tryz.prog fid (fun l K=>la1 l fun v=>on v fun x=>K (sp x)):=by
 refine zgW hf fun l K hs=>?_
 obtain⟨v,rfl,h1⟩:=wz hs
 obtain⟨x,w,hi,hk⟩:=hon _ _ h1
 refine⟨E,hE,hP,n,fun r=>Imp r.v (sp x).v,sp x,[k x],hk,hr x,fun r hr=>hr,fun C m hm=>?_,h x w⟩
 exact Imp.cons hi (Imp.refl _) C m hm
def zB (n:Nat) (f:Nat→Nat):Bool:=@Nat.rec (fun _=>Bool) true (fun i ih=>nd ih (eqI (.ofNat (f i)) (.ofNat 0))) n
theorem zcC {f:Nat→Nat}:∀ {n:Nat},zB n f=true↔∀ i,i < n→f i=0
 | 0=>⟨fun _ i h=>by omega,fun _=>rfl⟩
 | n + 1=>by
  show nd (zB n f) (eqI (.ofNat (f n)) (.ofNat 0))=true↔_
  rw[za,zcC,yE]
  constructor
  ·rintro⟨h1,h2⟩ i hi
   by_cases h:i=n
   ·rw[h]; exact h2
   ·exact h1 i (by omega)
  ·intro h
   exact⟨fun i hi=>h i (by omega),h n (by omega)⟩
def Rc.zero (x:Rc):Prop:=x.st=0∧x.sh=0∧x.ct=0∧∀ i,i < 32→nN x.tg i=0
def En.zero (x:En):Prop:=x.st=0∧∀ i,i < 32→nN x.dg i=0
def Rc.ok (x:Rc):Prop:=x.st≤2∧(x.st=0→x.zero)
def En.ok (x:En):Prop:=x.st≤2∧(x.st=0→x.zero)
open Classical in
def Rc.e (x:Rc):Nat:=if x.ok then 0 else 1
open Classical in
def En.e (x:En):Nat:=if x.ok then 0 else 1
def zEx (x:Rc) (K:KV→Prop):Prop:=zk EO0 (zp EO0 60) 0 125 [x.k] .e 0 0 fun r _ _ _=>K r
def zEy (x:En) (K:KV→Prop):Prop:=zk EO0 (zp EO0 60) 0 247 [x.k] .e 0 0 fun r _ _ _=>K r
def zEz (x:Rc) (K:KV→Prop):Prop:=zk EO0 (zp EO0 60) 0 133 [x.k] .e 0 0 fun r _ _ _=>K r
def zEA (x:En) (K:KV→Prop):Prop:=zk EO0 (zp EO0 60) 0 134 [x.k] .e 0 0 fun r _ _ _=>K r
def eZ (a:Nat):Bool:=eqI (.ofNat a) (.ofNat 0)
theorem jp {a:Nat}:eZ a=true↔a=0:=yE
def gt2 (a:Nat):Bool:=ltI (.ofNat 2) (.ofNat a)
def Rc.zb (x:Rc):Bool:=nd (eZ x.st) (nd (nd (eZ x.sh) (nd (eZ x.ct) true)) (nd (zB 32 (nN x.tg)) true))
def En.zb (x:En):Bool:=nd (eZ x.st) (nd (zB 32 (nN x.dg)) true)
theorem Rc.zb_t {x:Rc}:x.zb=true↔x.zero:=by
 unfold Rc.zb Rc.zero
 simp only[za,jp,zcC,and_true,and_assoc]
theorem En.zb_t {x:En}:x.zb=true↔x.zero:=by
 unfold En.zb En.zero
 simp only[za,jp,zcC,and_true]
theorem zIG (x:Rc) (K:KV→Prop):zEx x K=alt (gt2 x.st) (K (nI 1)) (alt (eZ x.st) (alt (!x.zb) (K (nI 1)) (K (nI 0))) (K (nI 0))):=by kernel_rfl
theorem zIH (x:En) (K:KV→Prop):zEy x K=alt (gt2 x.st) (K (nI 1)) (alt (eZ x.st) (alt (!x.zb) (K (nI 1)) (K (nI 0))) (K (nI 0))):=by kernel_rfl
def eN (n a:Nat):Bool:=eqI (.ofNat a) (.ofNat n)
def t12 (st:Nat) (K:KV→Prop):Prop:=alt (eN 1 st) (K (nI 0)) (alt (eN 2 st) (K (nI 0)) (K (nI 1)))
theorem zII (x:Rc) (K:KV→Prop):zEz x K=alt (eZ x.sh) (alt (eZ x.ct) (alt (eZ x.st) (alt (zB 32 (nN x.tg)) (K (nI 0)) (t12 x.st K)) (t12 x.st K)) (alt (eZ x.st) (t12 x.st K) (t12 x.st K))) (alt (eZ x.st) (t12 x.st K) (t12 x.st K)):=by kernel_rfl
theorem zIJ (x:En) (K:KV→Prop):zEA x K=alt (eZ x.st) (alt (zB 32 (nN x.dg)) (K (nI 0)) (t12 x.st K)) (t12 x.st K):=by kernel_rfl
theorem Rc.e_t {x:Rc}(h:x.ok):x.e=0:=if_pos h
theorem Rc.e_f {x:Rc}(h:¬ x.ok):x.e=1:=if_neg h
theorem En.e_t {x:En}(h:x.ok):x.e=0:=if_pos h
theorem En.e_f {x:En}(h:¬ x.ok):x.e=1:=if_neg h
theorem zeD {a:Nat}:gt2 a=true↔2 < a:=ZJ
theorem zEB {n a:Nat}:eN n a=true↔a=n:=yE
theorem bf {b:Bool}{p:Prop}(h:b=true↔p):b=false↔¬ p:=by rw[←h]; cases b<;>simp
abbrev Is (w:KV):KV→Prop:=fun r=>Imp r.v w.v
theorem Is.rfl' (w:KV):Is w w:=Imp.refl _
theorem Is.of {w w':KV}(h:w=w'):Is w' w:=by rw[h]; exact Imp.refl _
theorem zIK (x:Rc):zEx x (Is (nI x.e)):=by
 rw[zIG]
 simp only[zo,zeD,bf zeD,jp,bf jp,Bool.not_eq_true',Bool.not_eq_false',bf Rc.zb_t,Rc.zb_t]
 refine⟨fun h=>Is.of ?_,fun h=>⟨fun h1=>⟨fun h2=>Is.of ?_,fun h2=>Is.of ?_⟩,fun h1=>Is.of ?_⟩⟩
 ·rw[Rc.e_f fun hk=>by have:=hk.1; omega]
 ·rw[Rc.e_f fun hk=>h2 (hk.2 h1)]
 ·rw[Rc.e_t ⟨by omega,fun _=>h2⟩]
 ·rw[Rc.e_t ⟨by omega,fun h2=>absurd h2 h1⟩]
theorem zIL (x:En):zEy x (Is (nI x.e)):=by
 rw[zIH]
 simp only[zo,zeD,bf zeD,jp,bf jp,Bool.not_eq_true',Bool.not_eq_false',bf En.zb_t,En.zb_t]
 refine⟨fun h=>Is.of ?_,fun h=>⟨fun h1=>⟨fun h2=>Is.of ?_,fun h2=>Is.of ?_⟩,fun h1=>Is.of ?_⟩⟩
 ·rw[En.e_f fun hk=>by have:=hk.1; omega]
 ·rw[En.e_f fun hk=>h2 (hk.2 h1)]
 ·rw[En.e_t ⟨by omega,fun _=>h2⟩]
 ·rw[En.e_t ⟨by omega,fun h2=>absurd h2 h1⟩]
theorem zk4 {st:Nat}{n:Nat}(h1:st=1∨st=2→n=0) (h2:¬ (st=1∨st=2)→n=1):t12 st (Is (nI n)):=by
 unfold t12
 simp only[zo,zEB,bf zEB]
 refine⟨fun h=>Is.of ?_,fun h=>⟨fun h3=>Is.of ?_,fun h3=>Is.of ?_⟩⟩
 ·rw[h1 (.inl h)]
 ·rw[h1 (.inr h3)]
 ·rw[h2 (by omega)]
theorem zIM (x:Rc):zEz x (Is (nI x.e)):=by
 rw[zII]
 have ok:x.st=1∨x.st=2→x.e=0:=fun h=>Rc.e_t ⟨by omega,fun h2=>by omega⟩
 have no:¬ x.zero→¬ (x.st=1∨x.st=2)→x.e=1:=fun h1 h2=>Rc.e_f fun hk=>by
  have:=hk.1
  exact h1 (hk.2 (by omega))
 have t:¬ x.zero→t12 x.st (Is (nI x.e)):=fun h=>zk4 ok (no h)
 simp only[zo,jp,bf jp,zcC,bf zcC]
 refine⟨fun h1=>⟨fun h2=>⟨fun h3=>⟨fun h4=>Is.of ?_,fun h4=>t fun z=>h4 z.2.2.2⟩,fun h3=>t fun z=>h3 z.1⟩,fun h2=>⟨fun _=>t fun z=>h2 z.2.2.1,fun _=>t fun z=>h2 z.2.2.1⟩⟩,fun h1=>⟨fun _=>t fun z=>h1 z.2.1,fun _=>t fun z=>h1 z.2.1⟩⟩
 rw[Rc.e_t ⟨by omega,fun _=>⟨h3,h1,h2,h4⟩⟩]
theorem zIN (x:En):zEA x (Is (nI x.e)):=by
 rw[zIJ]
 have ok:x.st=1∨x.st=2→x.e=0:=fun h=>En.e_t ⟨by omega,fun h2=>by omega⟩
 have no:¬ x.zero→¬ (x.st=1∨x.st=2)→x.e=1:=fun h1 h2=>En.e_f fun hk=>by
  have:=hk.1
  exact h1 (hk.2 (by omega))
 have t:¬ x.zero→t12 x.st (Is (nI x.e)):=fun h=>zk4 ok (no h)
 simp only[zo,jp,bf jp,zcC,bf zcC]
 refine⟨fun h1=>⟨fun h2=>Is.of ?_,fun h2=>t fun z=>h2 z.2⟩,fun h1=>t fun z=>h1 z.1⟩
 rw[En.e_t ⟨by omega,fun _=>⟨h1,h2⟩⟩]
def zqE:zf:=fun l K=>la1 l fun v=>Qf v fun x=>K (nI x.e)
def zqF:zf:=fun l K=>la1 l fun v=>Qg v fun x=>K (nI x.e)
theorem zk5:KCS Tryz.prog 125 zqE:=XV zI rfl ⟨Tryz.f125,Tryz.func125,by kernel_rfl,by kernel_rfl⟩ 60 (fun v f h=>zcd h) (fun x=>rfl) fun x _=>zIK x
theorem zk6:KCS Tryz.prog 247 zqF:=XV zI rfl ⟨Tryz.f247,Tryz.func247,by kernel_rfl,by kernel_rfl⟩ 60 (fun v f h=>zce h) (fun x=>rfl) fun x _=>zIL x
theorem zyf:KCS Tryz.prog 133 zqE:=XV zI rfl ⟨Tryz.f133,Tryz.func133,by kernel_rfl,by kernel_rfl⟩ 60 (fun v f h=>zcd h) (fun x=>rfl) fun x _=>zIM x
theorem zyg:KCS Tryz.prog 134 zqF:=XV zI rfl ⟨Tryz.f134,Tryz.func134,by kernel_rfl,by kernel_rfl⟩ 60 (fun v f h=>zce h) (fun x=>rfl) fun x _=>zIN x
def nfL (n:Nat) (l:List Nat):List Nat:=lsK (kBy n (nN l)) n
theorem zyh {n i:Nat}{f:Nat→Nat}(h:i < n):ntK (kBy n f) i=f i:=by
 have e:(z7 i (kBy n f)).v=(kU8 (f i)).v:=by
  rw[xY]
  exact vY (f:=fun i=>kU8 (f i)) (n:=n) (z:=(kU8 0).v) h
 show x6 (z7 i (kBy n f)).v=_
 rw[e]; rfl
theorem zcD:∀ {a b:List Nat},a.length=b.length→(∀ i,i < a.length→nN a i=nN b i)→a=b
 | [],[],_,_=>rfl
 | x::a,y::b,h,h2=>by
  have h0:x=y:=h2 0 (Nat.succ_pos _)
  rw[h0,zcD (a:=a) (b:=b) (by simpa using h) fun i hi=>h2 (i + 1) (by simpa using hi)]
theorem zk7 {n:Nat}{l:List Nat}(h:l.length=n):nfL n l=l :=
 zcD (by rw[show (nfL n l).length=n from Yc _ _,h]) fun i hi=>by
  have hi':i < n:=by rw[←Yc (kBy n (nN l)) n]; exact hi
  show nN (lsK (kBy n (nN l)) n) i=_
  rw[ZS _ n i hi',zyh hi']
def Rc.nf (x:Rc):Rc:=⟨x.st,x.sh,x.ct,nfL 32 x.tg⟩
def En.nf (x:En):En:=⟨x.st,nfL 32 x.dg⟩
theorem Rc.nf_eq {x:Rc}(h:x.tg.length=32):x.nf=x:=by unfold Rc.nf; rw[zk7 h]
theorem En.nf_eq {x:En}(h:x.dg.length=32):x.nf=x:=by unfold En.nf; rw[zk7 h]
def zHO:List (Nat×zf):=[(125,zqE),(247,zqF),(133,zqE),(134,zqF)]
def EN1:KEnv:=EO0.tab zHO
theorem zCY:KOk EN1:=zI.tab ⟨zk5,zk6,zyf,zyg,trivial⟩
def Nd.ok (x:Nd):Prop:=x.lv≤5∧(x.lv=0→(∀ i,i < 4→(x.en i).zero)∧∀ i,i < 4→(x.rc i).ok)∧(x.lv≠0→(∀ i,i < 4→(x.rc i).zero)∧∀ i,i < 4→(x.en i).ok)
open Classical in
def Nd.e (x:Nd):Nat:=if x.ok then 0 else 1
def z4 (f:Nat→Bool):Bool:=@Nat.rec (fun _=>Bool) true (fun i ih=>nd ih (f i)) 4
theorem zHP {f:Nat→Bool}{P:Nat→Prop}(h:∀ i,f i=true↔P i):z4 f=true↔∀ i,i < 4→P i:=by
 show nd (nd (nd (nd true (f 0)) (f 1)) (f 2)) (f 3)=true↔_
 simp only[za,h,true_and]
 constructor
 ·rintro⟨⟨⟨h0,h1⟩,h2⟩,h3⟩ i hi
  match i,hi with
  | 0,_=>exact h0
  | 1,_=>exact h1
  | 2,_=>exact h2
  | 3,_=>exact h3
 ·intro q
  exact⟨⟨⟨q 0 (by omega),q 1 (by omega)⟩,q 2 (by omega)⟩,q 3 (by omega)⟩
def qw (f:Nat→Nat) (K:KV→Prop):Prop:=alt (!eZ (f 0)) (K (nI (f 0))) (alt (!eZ (f 1)) (K (nI (f 1))) (alt (!eZ (f 2)) (K (nI (f 2))) (alt (!eZ (f 3)) (K (nI (f 3))) (K (nI 0)))))
def za4 (f:Nat→Bool) (p q:Prop):Prop:=alt (!f 0) p (alt (!f 1) p (alt (!f 2) p (alt (!f 3) p q)))
def zsX (x:Nd) (K:KV→Prop):Prop:=zk EN1 (zp EN1 60) 0 192 [({ x with lv:=0 }:Nd).k] .e 0 0 fun r _ _ _=>K r
def zsY (l:Nat) (x:Nd) (K:KV→Prop):Prop:=zk EN1 (zp EN1 60) 0 192 [({ x with lv:=Nat.succ l }:Nd).k] .e 0 0 fun r _ _ _=>K r
def zCZ (x:Nd) (K:KV→Prop):Prop:=zk EN1 (zp EN1 60) 0 60 [({ x with lv:=0 }:Nd).k] .e 0 0 fun r _ _ _=>K r
def zC0 (l:Nat) (x:Nd) (K:KV→Prop):Prop:=zk EN1 (zp EN1 60) 0 60 [({ x with lv:=Nat.succ l }:Nd).k] .e 0 0 fun r _ _ _=>K r
def gt5 (a:Nat):Bool:=ltI (.ofNat 5) (.ofNat a)
theorem zC1 (x:Nd) (K:KV→Prop):zsX x K=alt (!z4 fun i=>(x.en i).zb) (K (nI 1)) (qw (fun i=>(x.rc i).nf.e) K):=by kernel_rfl
theorem zC2 (l:Nat) (x:Nd) (K:KV→Prop):zsY l x K=alt (gt5 (Nat.succ l)) (K (nI 1)) (alt (!z4 fun i=>(x.rc i).zb) (K (nI 1)) (qw (fun i=>(x.en i).nf.e) K)):=by kernel_rfl
theorem zHQ (x:Nd) (K:KV→Prop):zCZ x K=za4 (fun i=>(x.en i).zb) (K (nI 1)) (qw (fun i=>(x.rc i).nf.e) K):=by kernel_rfl
theorem zHR (l:Nat) (x:Nd) (K:KV→Prop):zC0 l x K=alt (gt5 (Nat.succ l)) (K (nI 1)) (za4 (fun i=>(x.rc i).zb) (K (nI 1)) (qw (fun i=>(x.en i).nf.e) K)):=by kernel_rfl
theorem XT {f g:Nat→Nat}{K:KV→Prop}(h:∀ i,i < 4→f i=g i):qw f K=qw g K:=by
 unfold qw
 rw[h 0 (by omega),h 1 (by omega),h 2 (by omega),h 3 (by omega)]
theorem za5 {f:Nat→Nat}{P:Nat→Prop}{n:Nat}(h1:∀ i,P i→f i=0) (h2:∀ i,¬ P i→f i=1) (h3:(∀ i,i < 4→P i)→n=0) (h4:(∃ i,i < 4∧¬ P i)→n=1):qw f (Is (nI n)):=by
 have e1:∀ i,i < 4→f i≠0→nI (f i)=nI n:=fun i hi h=>by
  have hp:¬ P i:=fun hp=>h (h1 i hp)
  rw[h2 i hp,h4 ⟨i,hi,hp⟩]
 have e2:∀ i,f i=0→P i:=fun i h=>Classical.byContradiction fun hp=>by rw[h2 i hp] at h; cases h
 unfold qw
 simp only[zo,Bool.not_eq_true',Bool.not_eq_false',bf jp,jp]
 refine⟨fun h=>Is.of (e1 0 (by omega) h),fun a=>⟨fun h=>Is.of (e1 1 (by omega) h),fun b=>⟨fun h=>Is.of (e1 2 (by omega) h),fun c=>⟨fun h=>Is.of (e1 3 (by omega) h),fun d=>Is.of ?_⟩⟩⟩⟩
 rw[h3 fun i hi=>by
  match i,hi with
  | 0,_=>exact e2 _ a
  | 1,_=>exact e2 _ b
  | 2,_=>exact e2 _ c
  | 3,_=>exact e2 _ d]
theorem zer {f:Nat→Bool}{P:Nat→Prop}{p q:Prop}(h:∀ i,f i=true↔P i) (h1:(∃ i,i < 4∧¬ P i)→p) (h2:(∀ i,i < 4→P i)→q):za4 f p q:=by
 unfold za4
 simp only[zo,Bool.not_eq_true',Bool.not_eq_false',h,bf (h _)]
 refine⟨fun a=>h1 ⟨0,by omega,a⟩,fun a=>⟨fun b=>h1 ⟨1,by omega,b⟩,fun b=>⟨fun c=>h1 ⟨2,by omega,c⟩,fun c=>⟨fun d=>h1 ⟨3,by omega,d⟩,fun d=>h2 fun i hi=>?_⟩⟩⟩⟩
 match i,hi with
 | 0,_=>exact a
 | 1,_=>exact b
 | 2,_=>exact c
 | 3,_=>exact d
theorem ziW {f:Nat→Bool}{p q:Prop}(h:za4 f p q):alt (!z4 f) p q:=by
 unfold za4 at h
 show alt (!nd (nd (nd (nd true (f 0)) (f 1)) (f 2)) (f 3)) p q
 revert h
 cases f 0<;>cases f 1<;>cases f 2<;>cases f 3<;>simp [alt,nd]
theorem Nd.nf_rc {x:Nd}(h:x.wl) {i:Nat}(hi:i < 4):(x.rc i).nf.e=(x.rc i).e:=by rw[Rc.nf_eq (h.1 i hi)]
theorem zC4 {x:Nd}(h:x.wl) (h0:x.lv=0):za4 (fun i=>(x.en i).zb) (Is (nI x.e) (nI 1)) (qw (fun i=>(x.rc i).nf.e) (Is (nI x.e))):=by
 refine zer (P:=fun i=>(x.en i).zero) (fun i=>En.zb_t) (fun⟨i,hi,hn⟩=>Is.of ?_) fun hz=>?_
 ·unfold Nd.e; rw[if_neg fun ok=>hn ((ok.2.1 h0).1 i hi)]
 ·have hc:qw (fun i=>(x.rc i).e) (Is (nI x.e)):=by
   refine za5 (P:=fun i=>(x.rc i).ok) (fun i h=>Rc.e_t h) (fun i h=>Rc.e_f h) (fun h=>?_) fun⟨i,hi,hn⟩=>?_
   ·unfold Nd.e; rw[if_pos ⟨by omega,fun _=>⟨hz,h⟩,fun h=>absurd h0 h⟩]
   ·unfold Nd.e; rw[if_neg fun ok=>hn ((ok.2.1 h0).2 i hi)]
  rw[XT fun i hi=>Nd.nf_rc h hi]
  exact hc
theorem Nd.nf_en {x:Nd}(h:x.wl) {i:Nat}(hi:i < 4):(x.en i).nf.e=(x.en i).e:=by rw[En.nf_eq (h.2 i hi)]
theorem zC5 {x:Nd}(h:x.wl) (h0:x.lv≠0) (h5:x.lv≤5):za4 (fun i=>(x.rc i).zb) (Is (nI x.e) (nI 1)) (qw (fun i=>(x.en i).nf.e) (Is (nI x.e))):=by
 refine zer (P:=fun i=>(x.rc i).zero) (fun i=>Rc.zb_t) (fun⟨i,hi,hn⟩=>Is.of ?_) fun hz=>?_
 ·unfold Nd.e; rw[if_neg fun ok=>hn ((ok.2.2 h0).1 i hi)]
 ·have hc:qw (fun i=>(x.en i).e) (Is (nI x.e)):=by
   refine za5 (P:=fun i=>(x.en i).ok) (fun i h=>En.e_t h) (fun i h=>En.e_f h) (fun h=>?_) fun⟨i,hi,hn⟩=>?_
   ·unfold Nd.e; rw[if_pos ⟨h5,fun h=>absurd h h0,fun _=>⟨hz,h⟩⟩]
   ·unfold Nd.e; rw[if_neg fun ok=>hn ((ok.2.2 h0).2 i hi)]
  rw[XT fun i hi=>Nd.nf_en h hi]
  exact hc
theorem ziX {x:Nd}{q:Prop}(h:x.lv≤5→q):alt (gt5 x.lv) (Is (nI x.e) (nI 1)) q:=by
 simp only[zo,show gt5 x.lv=true↔5 < x.lv from ZJ,bf (show gt5 x.lv=true↔5 < x.lv from ZJ)]
 refine⟨fun h=>Is.of ?_,fun h'=>h (by omega)⟩
 unfold Nd.e; rw[if_neg fun ok=>by have:=ok.1; omega]
def zfC:zf:=fun l K=>la1 l fun v=>XZ v fun x=>K (nI x.e)
theorem zco:KCS Tryz.prog 192 zfC:=XV zCY rfl ⟨Tryz.f192,Tryz.func192,by kernel_rfl,by kernel_rfl⟩ 60 (fun v f h=>wP h) (fun x=>rfl) fun x w=>by
 obtain⟨lv,ix,rc,en⟩:=x
 cases lv with
 | zero =>
  show zsX ⟨0,ix,rc,en⟩ (Is (nI _))
  rw[zC1]
  exact ziW (zC4 w rfl)
 | succ l =>
  show zsY l ⟨Nat.succ l,ix,rc,en⟩ (Is (nI _))
  rw[zC2]
  exact ziX (x:=⟨l + 1,ix,rc,en⟩) fun h5=>ziW (zC5 w (by simp) h5)
theorem zsZ:KCS Tryz.prog 60 zfC:=XV zCY rfl ⟨Tryz.f60,Tryz.func60,by kernel_rfl,by kernel_rfl⟩ 60 (fun v f h=>wP h) (fun x=>rfl) fun x w=>by
 obtain⟨lv,ix,rc,en⟩:=x
 cases lv with
 | zero =>
  show zCZ ⟨0,ix,rc,en⟩ (Is (nI _))
  rw[zHQ]
  exact zC4 w rfl
 | succ l =>
  show zC0 l ⟨Nat.succ l,ix,rc,en⟩ (Is (nI _))
  rw[zHR]
  exact ziX (x:=⟨l + 1,ix,rc,en⟩) fun h5=>zC5 w (by simp) h5
def upC (c:Nat):Nat:=Nat.div (Nat.add c 3) 4
def zx (n:Nat) (l:Nat):Nat:=@Nat.rec (fun _=>Nat) (upC n) (fun _ c=>@Nat.rec (fun _=>Nat) 0 (fun k _=>@Nat.rec (fun _=>Nat) 0 (fun _ _=>upC c) k) c) l
def zDb (n:Nat) (l:Nat):Nat:=@Nat.rec (fun _=>Nat) n (fun k _=>zx n k) l
def isS (n l i:Nat):Bool:=Nat.blt i (zx n l)
def zq (n l i:Nat):Nat:=@Bool.rec (fun _=>Nat) 0 (@Bool.rec (fun _=>Nat) (Nat.sub (zDb n l) (Nat.mul 4 i)) 4 (Nat.ble 4 (Nat.sub (zDb n l) (Nat.mul 4 i)))) (isS n l i)
def xT (P:Nat→Prop) (n:Nat):Prop:=@Nat.rec (fun _=>Prop) True (fun i ih=>ih∧P i) n
theorem zQ {P:Nat→Prop}:∀ {n:Nat},xT P n→∀ i,i < n→P i
 | 0,_,i,h=>by omega
 | n + 1,h,i,hi=>by
  obtain⟨h1,h2⟩:=(show xT P n∧P n from h)
  by_cases e:i=n
  ·rw[e]; exact h2
  ·exact zQ h1 i (by omega)
def whB (b:Bool) (p:Prop):Prop:=@Bool.rec (fun _=>Prop) True p b
theorem QX {b:Bool}{p:Prop}(h:whB b p) (hb:b=true):p:=by rw[hb] at h; exact h
def zp0 (f n l i:Nat) (w:KV):Prop:=zk EO0 (zp EO0 200) 0 f [nI n,nI l,nI i] .e 0 0 fun r _ _ _=>tK (kvb r w)
def Qj (f:Nat) (w:Nat→Nat→Nat→KV) (q:Bool):Prop:=xT (fun n=>xT (fun l=>xT (fun i=>whB (isS (Nat.succ n) l i) (@Bool.rec (fun _=>Prop) True (zp0 f (Nat.succ n) l i (w (Nat.succ n) l i)) q)) 6) 3) 24
def zcr (f:Nat) (z:KV) (q:Bool):Prop:=xT (fun n=>xT (fun l=>∀ j,@Bool.rec (fun _=>Prop) True (zp0 f (Nat.succ n) l (Nat.add j (zx (Nat.succ n) l)) z) q) 3) 24
def zcs (f:Nat) (z:KV) (q:Bool):Prop:=xT (fun n=>∀ l j,@Bool.rec (fun _=>Prop) True (zp0 f (Nat.succ n) (Nat.add l 3) j z) q) 24
def Jx (a e:Nat):KV:=.tup (.cons (nI a) (.cons (nI e) .nl))
def zjc (n l i:Nat):KV:=Jx (zq n l i) 0
def zp1 (n l i:Nat):KV:=.bool true
def zw8 (n l i:Nat):KV:=nI (zq n l i)
attribute [local irreducible] zk zp
theorem z6 {P:Nat→Prop}(hp:∀ i,P i):∀ n,xT P n
 | 0=>trivial
 | n + 1=>⟨z6 hp n,hp n⟩
theorem zct (f:Nat) (w:Nat→Nat→Nat→KV):Qj f w false :=
 z6 (fun n=>z6 (fun l=>z6 (fun i=>by cases isS (Nat.succ n) l i<;>trivial) 6) 3) 24
theorem zjd (f:Nat) (z:KV):zcr f z false:=z6 (fun n=>z6 (fun l=>fun j=>trivial) 3) 24
theorem zje (f:Nat) (z:KV):zcs f z false:=z6 (fun n=>fun l j=>trivial) 24
theorem zDc:Qj 193 zjc true=Qj 193 zjc false:=by kernel_rfl
theorem zDd:Qj 124 zp1 true=Qj 124 zp1 false:=by kernel_rfl
theorem zDe:Qj 117 zw8 true=Qj 117 zw8 false:=by kernel_rfl
theorem zDf:zcr 193 (Jx 0 1) true=zcr 193 (Jx 0 1) false:=by kernel_rfl
theorem zDg:zcr 124 (.bool false) true=zcr 124 (.bool false) false:=by kernel_rfl
theorem zDh:zcs 193 (Jx 0 1) true=zcs 193 (Jx 0 1) false:=by kernel_rfl
theorem zDi:zcs 124 (.bool false) true=zcs 124 (.bool false) false:=by kernel_rfl
theorem Vo (n l:Nat) (hn:n < 24):zx (Nat.succ n) (Nat.add l 3)=0:=by
 have h2:∀ m,m < 24→zx (Nat.succ m) 2=0∨zx (Nat.succ m) 2=1:=by
  intro m hm
  have:xT (fun m=>zx (Nat.succ m) 2=0∨zx (Nat.succ m) 2=1) 24:=by
   have h:∀ m:Fin 24,zx (Nat.succ m.1) 2=0∨zx (Nat.succ m.1) 2=1:=by decide
   have h1:∀ k,k≤24→xT (fun m=>zx (Nat.succ m) 2=0∨zx (Nat.succ m) 2=1) k:=by
    intro k
    induction k with
    | zero=>intro _; trivial
    | succ k ih=>intro hk; exact⟨ih (by omega),h ⟨k,by omega⟩⟩
   exact h1 24 (by omega)
  exact zQ this m hm
 induction l with
 | zero =>
  show (@Nat.rec (fun _=>Nat) 0 (fun k _=>@Nat.rec (fun _=>Nat) 0 (fun _ _=>upC (zx (Nat.succ n) 2)) k) (zx (Nat.succ n) 2))=0
  rcases h2 n hn with h | h<;>rw[h]<;>rfl
 | succ l ih =>
  show (@Nat.rec (fun _=>Nat) 0 (fun k _=>@Nat.rec (fun _=>Nat) 0 (fun _ _=>upC (zx (Nat.succ n) (Nat.succ (Nat.succ (Nat.add l 1))))) k) (zx (Nat.succ n) (Nat.add l 3)))=0
  rw[ih]
  rfl
theorem zs0 {n l i:Nat}:isS n l i=false↔zx n l≤i:=by
 show Nat.blt i _=false↔_
 rw[←Bool.not_eq_true,vq]; exact Nat.not_lt
theorem qe {n l i:Nat}:isS n l i=true↔i < zx n l:=vq
theorem ZV (n l:Nat) (hn:n < 24) (hl:l < 3):zx (Nat.succ n) l≤6:=by
 have h:∀ m:Fin 24,∀ l:Fin 3,zx (Nat.succ m.1) l.1≤6:=by decide
 exact h ⟨n,hn⟩ ⟨l,hl⟩
theorem zp2 {f:Nat}{w:Nat→Nat→Nat→KV}{z:KV}(h1:Qj f w true) (h2:zcr f z true) (h3:zcs f z true) {n l i:Nat}(hn:1≤n) (hn2:n≤24):zp0 f n l i (@Bool.rec (fun _=>KV) z (w n l i) (isS n l i)):=by
 obtain⟨m,rfl⟩:∃ m,n=Nat.succ m:=⟨n - 1,by omega⟩
 have hm:m < 24:=by omega
 by_cases hl:l < 3
 ·cases hb:isS (Nat.succ m) l i with
  | true =>
   have hi:=qe.1 hb
   have:=ZV m l hm hl
   exact QX (zQ (zQ (zQ h1 m hm) l hl) i (by omega)) hb
  | false =>
   have hi:=zs0.1 hb
   have:=zQ (zQ h2 m hm) l hl (i - zx (Nat.succ m) l)
   rwa [show Nat.add (i - zx (Nat.succ m) l) (zx (Nat.succ m) l)=i from Nat.sub_add_cancel hi] at this
 ·obtain⟨k,rfl⟩:∃ k,l=Nat.add k 3:=⟨l - 3,by show l=l - 3 + 3; omega⟩
  rw[show isS (Nat.succ m) (Nat.add k 3) i=false by rw[zs0,Vo m k hm]; omega]
  exact zQ h3 m hm k i
def zD (n:Nat):Bool:=nd (Nat.ble 1 n) (Nat.ble n 24)
theorem zH {n:Nat}(h:zD n=true):1≤n∧n≤24:=by
 obtain⟨h1,h2⟩:=za.1 h
 exact⟨Nat.le_of_ble_eq_true h1,Nat.le_of_ble_eq_true h2⟩
def la3 (l:List KV) (f:KV→KV→KV→Prop):Prop:=match l with
 | [a,b,c]=>f a b c
 | _=>BadN 920
theorem ZW {l:List KV}{f:KV→KV→KV→Prop}(h:la3 l f):∃ a b c,l=[a,b,c]∧f a b c:=by
 unfold la3 at h
 split at h
 ·exact⟨_,_,_,rfl,h⟩
 ·exact h.elim
def s3 (w:Nat→Nat→Nat→KV):zf:=fun l K=>la3 l fun a b c=>z9 a fun n=>z9 b fun l=>z9 c fun i=>chk (zD n) 921 (K (w n l i))
theorem zDj {f:Nat}(hf:JB f) {w:Nat→Nat→Nat→KV}{z:KV}(h1:Qj f w true) (h2:zcr f z true) (h3:zcs f z true) (hr:∀ n l i,xi (@Bool.rec (fun _=>KV) z (w n l i) (isS n l i):KV).v=true):KCS Tryz.prog f (s3 fun n l i=>@Bool.rec (fun _=>KV) z (w n l i) (isS n l i)) :=
 jV hf fun l K hs=>by
  obtain⟨a,b,c,rfl,hs⟩:=ZW hs
  obtain⟨n,rfl,hs⟩:=zu hs
  obtain⟨l,rfl,hs⟩:=zu hs
  obtain⟨i,rfl,hs⟩:=zu hs
  obtain⟨hn,hk⟩:=ze hs
  obtain⟨q1,q2⟩:=zH hn
  exact⟨EO0,zI,rfl,200,_,_,hk,hr n l i,fun r hr=>by rw[jm (XY hr)]; exact Imp.refl _,zp2 h1 h2 h3 q1 q2⟩
def zHW:zf:=s3 fun n l i=>@Bool.rec (fun _=>KV) (Jx 0 1) (zjc n l i) (isS n l i)
def zHX:zf:=s3 fun n l i=>@Bool.rec (fun _=>KV) (.bool false) (zp1 n l i) (isS n l i)
theorem zjf:KCS Tryz.prog 193 zHW:=zDj ⟨Tryz.f193,Tryz.func193,by kernel_rfl,by kernel_rfl⟩ (Eq.mpr zDc (zct _ _)) (Eq.mpr zDf (zjd _ _)) (Eq.mpr zDh (zje _ _)) fun n l i=>by cases isS n l i<;>rfl
theorem zw9:KCS Tryz.prog 124 zHX:=zDj ⟨Tryz.f124,Tryz.func124,by kernel_rfl,by kernel_rfl⟩ (Eq.mpr zDd (zct _ _)) (Eq.mpr zDg (zjd _ _)) (Eq.mpr zDi (zje _ _)) fun n l i=>by cases isS n l i<;>rfl
def zHY:zf:=fun l K=>la3 l fun a b c=>z9 a fun n=>z9 b fun l=>z9 c fun i=>chk (nd (zD n) (isS n l i)) 922 (K (nI (zq n l i)))
theorem zjg:KCS Tryz.prog 117 zHY :=
 jV ⟨Tryz.f117,Tryz.func117,by kernel_rfl,by kernel_rfl⟩ fun l K hs=>by
  obtain⟨a,b,c,rfl,hs⟩:=ZW hs
  obtain⟨n,rfl,hs⟩:=zu hs
  obtain⟨l,rfl,hs⟩:=zu hs
  obtain⟨i,rfl,hs⟩:=zu hs
  obtain⟨hn,hk⟩:=ze hs
  obtain⟨hn,hi⟩:=za.1 hn
  obtain⟨q1,q2⟩:=zH hn
  obtain⟨m,rfl⟩:∃ m,n=Nat.succ m:=⟨n - 1,by omega⟩
  have hm:m < 24:=by omega
  have hl:l < 3:=by
   refine Classical.byContradiction fun hl=>?_
   obtain⟨k,rfl⟩:∃ k,l=Nat.add k 3:=⟨l - 3,by show l=l - 3 + 3; omega⟩
   rw[qe,Vo m k hm] at hi
   omega
  have:=ZV m l hm hl
  have hi':=qe.1 hi
  exact⟨EO0,zI,rfl,200,_,_,hk,rfl,fun r hr=>by rw[jm (XY hr)]; exact Imp.refl _,QX (zQ (zQ (zQ (Eq.mpr zDe (zct _ _):Qj 117 zw8 true) m hm) l hl) i (by omega)) hi⟩
end
end Go.K
set_option maxRecDepth 100000
namespace Go.K
open Go.Ab Go.RowKit Go.Y Go.Proofs
noncomputable section
attribute [local instance 10000] gO
theorem KCS.imp {P:Program}{f:FuncId}{s s':zf}(h:KCS P f s) (hs:∀ l K,s' l K→s l K):KCS P f s':=⟨h.1,fun l K hk=>h.2 l K (hs l K hk)⟩
def on3 (l:List KV) (f:Nat→Nat→Nat→Prop):Prop:=la3 l fun a b c=>z9 a fun n=>z9 b fun l=>z9 c fun i=>f n l i
theorem Jv {l:List KV}{f:Nat→Nat→Nat→Prop}(h:on3 l f):∃ n m i,l=[nI n,nI m,nI i]∧f n m i:=by
 obtain⟨a,b,c,rfl,h0⟩:=ZW h
 obtain⟨n,rfl,h1⟩:=zu h0
 obtain⟨l,rfl,h2⟩:=zu h1
 obtain⟨i,rfl,h3⟩:=zu h2
 exact⟨n,l,i,rfl,h3⟩
def sPp (p:Nat):zf:=fun l K=>on3 l fun n l i=>(zD n=true∧isS n l i=true∧zq n l i=p)∧K (Jx p 0)
def sPe:zf:=fun l K=>on3 l fun n l i=>(zD n=true∧isS n l i=false)∧K (Jx 0 1)
def sQp (p:Nat):zf:=fun l K=>on3 l fun n l i=>(zD n=true∧isS n l i=true∧zq n l i=p)∧K (nI p)
def sIp (b:Bool):zf:=fun l K=>on3 l fun n l i=>(zD n=true∧isS n l i=b)∧K (.bool b)
theorem kPp (p:Nat):KCS Tryz.prog 193 (sPp p):=zjf.imp fun l K h=>by
 obtain⟨n,l,i,rfl,⟨h1,h2,h3⟩,h4⟩:=Jv h
 show chk (zD n) 921 (K (@Bool.rec (fun _=>KV) (Jx 0 1) (zjc n l i) (isS n l i)))
 rw[h1,h2]
 show K (Jx (zq n l i) 0)
 rw[h3]; exact h4
theorem kPe:KCS Tryz.prog 193 sPe:=zjf.imp fun l K h=>by
 obtain⟨n,l,i,rfl,⟨h1,h2⟩,h4⟩:=Jv h
 show chk (zD n) 921 (K (@Bool.rec (fun _=>KV) (Jx 0 1) (zjc n l i) (isS n l i)))
 rw[h1,h2]
 exact h4
theorem kQp (p:Nat):KCS Tryz.prog 117 (sQp p):=zjg.imp fun l K h=>by
 obtain⟨n,l,i,rfl,⟨h1,h2,h3⟩,h4⟩:=Jv h
 show chk (nd (zD n) (isS n l i)) 922 (K _)
 rw[h1,h2,h3]; exact h4
theorem kIp (b:Bool):KCS Tryz.prog 124 (sIp b):=zw9.imp fun l K h=>by
 obtain⟨n,l,i,rfl,⟨h1,h2⟩,h4⟩:=Jv h
 show chk (zD n) 921 (K (@Bool.rec (fun _=>KV) (.bool false) (zp1 n l i) (isS n l i)))
 rw[h1,h2]
 cases b<;>exact h4
def zo6 (p:Nat):KEnv:=EO0.tab [(192,zfC),(193,sPp p)]
def zel:KEnv:=EO0.tab [(192,zfC),(193,sPe)]
def E58 (p:Nat):KEnv:=EO0.tab [(60,zfC),(124,sIp true),(117,sQp p)]
def zo7:KEnv:=EO0.tab [(60,zfC),(124,sIp false)]
theorem zCl (p:Nat):KOk (zo6 p):=zI.tab ⟨zco,kPp p,trivial⟩
theorem zwj:KOk zel:=zI.tab ⟨zco,kPe,trivial⟩
theorem zHv (p:Nat):KOk (E58 p):=zI.tab ⟨zsZ,kIp true,kQp p,trivial⟩
theorem zCm:KOk zo7:=zI.tab ⟨zsZ,kIp false,trivial⟩
def Nd.nf (x:Nd):Nd:=⟨x.lv,x.ix,c4 (x.rc 0).nf (x.rc 1).nf (x.rc 2).nf (x.rc 3).nf,c4 (x.en 0).nf (x.en 1).nf (x.en 2).nf (x.en 3).nf⟩
theorem zsR {α:Type}{f g:Nat→α}(h:∀ i,i < 4→g i=f i):∀ i,i < 4→c4 (g 0) (g 1) (g 2) (g 3) i=f i
 | 0,_=>h 0 (by omega)
 | 1,_=>h 1 (by omega)
 | 2,_=>h 2 (by omega)
 | 3,_=>h 3 (by omega)
 | n + 4,h=>by omega
theorem Nd.nf_rc' {x:Nd}(h:x.wl):∀ i,i < 4→x.nf.rc i=x.rc i:=zsR (g:=fun i=>(x.rc i).nf) fun i hi=>Rc.nf_eq (h.1 i hi)
theorem Nd.nf_en' {x:Nd}(h:x.wl):∀ i,i < 4→x.nf.en i=x.en i:=zsR (g:=fun i=>(x.en i).nf) fun i hi=>En.nf_eq (h.2 i hi)
theorem Nd.ok_congr {x y:Nd}(h1:x.lv=y.lv) (h2:∀ i,i < 4→x.rc i=y.rc i) (h3:∀ i,i < 4→x.en i=y.en i):x.ok↔y.ok:=by
 have a:∀ P:Rc→Prop,(∀ i,i < 4→P (x.rc i))↔∀ i,i < 4→P (y.rc i):=fun P=>⟨fun h i hi=>by rw[←h2 i hi]; exact h i hi,fun h i hi=>by rw[h2 i hi]; exact h i hi⟩
 have b:∀ P:En→Prop,(∀ i,i < 4→P (x.en i))↔∀ i,i < 4→P (y.en i):=fun P=>⟨fun h i hi=>by rw[←h3 i hi]; exact h i hi,fun h i hi=>by rw[h3 i hi]; exact h i hi⟩
 unfold Nd.ok
 rw[h1,a Rc.zero,a Rc.ok,b En.zero,b En.ok]
theorem Nd.nf_e {x:Nd}(h:x.wl):x.nf.e=x.e:=by
 have:=Nd.ok_congr (x:=x.nf) (y:=x) rfl (Nd.nf_rc' h) (Nd.nf_en' h)
 unfold Nd.e
 by_cases hk:x.ok
 ·rw[if_pos hk,if_pos (this.2 hk)]
 ·rw[if_neg hk,if_neg fun h=>hk (this.1 h)]
def Nd.fits (n:Nat) (x:Nd):Prop:=x.ok∧isS n x.lv x.ix=true∧∀ i,i < 4→zq n x.lv x.ix≤i→(x.rc i).zero∧(x.en i).zero
open Classical in
def Nd.fe (n:Nat) (x:Nd):Nat:=if x.ok then (if x.fits n then 0 else 17) else 1
def b63 (a:Nat):Bool:=Nat.blt a 9223372036854775808
def lt1 (n:Nat):Bool:=ltI (.ofNat n) (.ofNat 1)
def gtM (n:Nat):Bool:=ltI (.ofNat 4096) (.ofNat n)
def rst (x:Nd) (K:KV→Prop) (k:Nat):Prop:=@Nat.rec (fun _=>Prop) (K (nI 0)) (fun k ih=>alt (!(x.rc (Nat.sub 3 k)).zb) (K (nI 17)) (alt (!(x.en (Nat.sub 3 k)).zb) (K (nI 17)) ih)) k
def hd (n:Nat) (x:Nd) (K:KV→Prop) (q:Prop):Prop:=alt (lt1 n) (K (nI 1)) (alt (gtM n) (K (nI 1)) (alt (!eZ x.nf.e) (K (nI x.nf.e)) (cnd (b63 x.lv) (cnd (b63 x.ix) q))))
def zsS (n:Nat) (x:Nd) (K:KV→Prop):Prop:=zk zel (zp zel 60) 0 123 [nI n,x.k] .e 0 0 fun r _ _ _=>K r
def ziB (p:Nat) (n:Nat) (x:Nd) (K:KV→Prop):Prop:=zk (zo6 p) (zp (zo6 p) 60) 0 123 [nI n,x.k] .e 0 0 fun r _ _ _=>K r
def zCn (n:Nat) (x:Nd) (K:KV→Prop):Prop:=zk zo7 (zp zo7 60) 0 58 [nI n,x.k] .e 0 0 fun r _ _ _=>K r
def p58 (p:Nat) (n:Nat) (x:Nd) (K:KV→Prop):Prop:=zk (E58 p) (zp (E58 p) 60) 0 58 [nI n,x.k] .e 0 0 fun r _ _ _=>K r
def cP (p n:Nat) (x:Nd):Prop:=zD n=true∧isS n x.lv x.ix=true∧zq n x.lv x.ix=p
def cI (b:Bool) (n:Nat) (x:Nd):Prop:=zD n=true∧isS n x.lv x.ix=b
theorem zCo (n:Nat) (x:Nd) (K:KV→Prop):zsS n x K=hd n x K (cI false n x∧K (nI 17)):=by kernel_rfl
theorem zHw (n:Nat) (x:Nd) (K:KV→Prop):zCn n x K=hd n x K (cI false n x∧K (nI 17)):=by kernel_rfl
theorem zwk (n:Nat) (x:Nd) (K:KV→Prop):ziB 1 n x K=hd n x K (cP 1 n x∧rst x K 3):=by kernel_rfl
theorem zwl (n:Nat) (x:Nd) (K:KV→Prop):ziB 2 n x K=hd n x K (cP 2 n x∧rst x K 2):=by kernel_rfl
theorem zwm (n:Nat) (x:Nd) (K:KV→Prop):ziB 3 n x K=hd n x K (cP 3 n x∧rst x K 1):=by kernel_rfl
theorem zwn (n:Nat) (x:Nd) (K:KV→Prop):ziB 4 n x K=hd n x K (cP 4 n x∧rst x K 0):=by kernel_rfl
def h2 (n:Nat) (x:Nd) (p:Nat) (q:Prop):Prop:=cI true n x∧cnd (b63 x.lv) (cnd (b63 x.ix) (cP p n x∧q))
theorem zCp (n:Nat) (x:Nd) (K:KV→Prop):p58 1 n x K=hd n x K (h2 n x 1 (rst x K 3)):=by kernel_rfl
theorem zCq (n:Nat) (x:Nd) (K:KV→Prop):p58 2 n x K=hd n x K (h2 n x 2 (rst x K 2)):=by kernel_rfl
theorem zCr (n:Nat) (x:Nd) (K:KV→Prop):p58 3 n x K=hd n x K (h2 n x 3 (rst x K 1)):=by kernel_rfl
theorem zCs (n:Nat) (x:Nd) (K:KV→Prop):p58 4 n x K=hd n x K (h2 n x 4 (rst x K 0)):=by kernel_rfl
theorem xb {a:Nat}:b63 a=true↔a < 9223372036854775808:=vq
theorem yK {n:Nat}{x:Nd}{q:Prop}(hn:zD n=true) (hw:x.wl) (hl:x.lv < 256) (hi:x.ix < 4294967296) (h:x.ok→q):hd n x (Is (nI (x.fe n))) q:=by
 obtain⟨n1,n2⟩:=zH hn
 unfold hd
 rw[Nd.nf_e hw]
 simp only[zo,zd,show lt1 n=true↔n < 1 from ZJ,bf (show lt1 n=true↔n < 1 from ZJ),show gtM n=true↔4096 < n from ZJ,bf (show gtM n=true↔4096 < n from ZJ),Bool.not_eq_true',Bool.not_eq_false',bf jp,jp,xb]
 refine⟨fun h=>by omega,fun _=>⟨fun h=>by omega,fun _=>⟨fun he=>Is.of ?_,fun he=>⟨by omega,by omega,h ?_⟩⟩⟩⟩
 ·have hk:¬ x.ok:=fun hk=>he (if_pos hk)
  unfold Nd.fe
  rw[if_neg hk,show x.e=1 from if_neg hk]
 ·exact Classical.byContradiction fun hk=>by rw[show x.e=1 from if_neg hk] at he; cases he
theorem zem {n:Nat}{x:Nd}(hk:x.ok) (h:¬ x.fits n):x.fe n=17:=by unfold Nd.fe; rw[if_pos hk,if_neg h]
theorem zCt {n:Nat}{x:Nd}(h:x.fits n):x.fe n=0:=by unfold Nd.fe; rw[if_pos h.1,if_pos h]
theorem zcm {n:Nat}{x:Nd}(hk:x.ok) (hs:isS n x.lv x.ix=true):∀ k,k≤3→(∀ i,zq n x.lv x.ix≤i→i < 4 - k→(x.rc i).zero∧(x.en i).zero)→zq n x.lv x.ix≤4 - k→rst x (Is (nI (x.fe n))) k
 | 0,_,h,_=>Is.of (by rw[zCt ⟨hk,hs,fun i hi hp=>h i hp (by omega)⟩])
 | k + 1,hk3,h,hp=>by
  show alt (!(x.rc (Nat.sub 3 k)).zb) (Is (nI (x.fe n)) (nI 17)) (alt (!(x.en (Nat.sub 3 k)).zb) (Is (nI (x.fe n)) (nI 17)) (rst x (Is (nI (x.fe n))) k))
  have hi3:Nat.sub 3 k < 4:=by show 3 - k < 4; omega
  have hip:zq n x.lv x.ix≤Nat.sub 3 k:=by show _≤3 - k; omega
  simp only[zo,Bool.not_eq_true',Bool.not_eq_false',bf Rc.zb_t,Rc.zb_t,bf En.zb_t,En.zb_t]
  refine⟨fun h1=>Is.of ?_,fun h1=>⟨fun h2=>Is.of ?_,fun h2=>zcm hk hs k (by omega) (fun i hi hi2=>?_) (by omega)⟩⟩
  ·rw[zem hk fun hf=>h1 (hf.2.2 _ hi3 hip).1]
  ·rw[zem hk fun hf=>h2 (hf.2.2 _ hi3 hip).2]
  ·by_cases e:i=Nat.sub 3 k
   ·rw[e]; exact⟨h1,h2⟩
   ·exact h i hi (by have:i≠3 - k:=e; omega)
theorem qW {n l i:Nat}(hn:zD n=true) (h:isS n l i=true):1≤zq n l i∧zq n l i≤4:=by
 obtain⟨n1,n2⟩:=zH hn
 obtain⟨m,rfl⟩:∃ m,n=Nat.succ m:=⟨n - 1,by omega⟩
 have hm:m < 24:=by omega
 have hl:l < 3:=by
  refine Classical.byContradiction fun hl=>?_
  obtain⟨k,rfl⟩:∃ k,l=Nat.add k 3:=⟨l - 3,by show l=l - 3 + 3; omega⟩
  rw[qe,Vo m k hm] at h
  omega
 have hc:=ZV m l hm hl
 have hi:=qe.1 h
 have hd:∀ m:Fin 24,∀ l:Fin 3,∀ i:Fin 6,isS (Nat.succ m.1) l.1 i.1=true→1≤zq (Nat.succ m.1) l.1 i.1∧zq (Nat.succ m.1) l.1 i.1≤4:=by decide
 exact hd ⟨m,hm⟩ ⟨l,hl⟩ ⟨i,by omega⟩ h
def zo8:zf:=fun l K=>la2 l fun a v=>z9 a fun n=>XZ v fun x=>(zD n=true∧x.lv < 256∧x.ix < 4294967296)∧K (nI (x.fe n))
def zCu (n:Nat) (x:Nd):Prop:=zD n=true∧x.lv < 256∧x.ix < 4294967296
theorem ziC {α:Type}{fid:FuncId}(hf:JB fid) {on:KV→(α→Prop)→Prop}{k:α→KV}{W:α→Prop}{sp:Nat→α→KV}{pre:Nat→α→Prop}
  (hon:∀ v f,on v f→∃ x,W x∧Imp v.v (k x).v∧f x) (hr:∀ N x,xi (sp N x).v=true)
  (h:∀ N x,W x→pre N x→∃ E:KEnv,KOk E∧E.P=Tryz.prog∧∃ n,zk E (zp E n) 0 fid [nI N,k x] .e 0 0 fun r _ _ _=>Imp r.v (sp N x).v):KCS Tryz.prog fid (fun l K=>la2 l fun a v=>z9 a fun N=>on v fun x=>pre N x∧K (sp N x)):=by
 refine zgW hf fun l K hs=>?_
 obtain⟨a,v,rfl,h0⟩:=qt hs
 obtain⟨N,rfl,h1⟩:=zu h0
 obtain⟨x,w,hi,hp,hk⟩:=hon _ _ h1
 obtain⟨E,hE,hP,n,hc⟩:=h N x w hp
 refine⟨E,hE,hP,n,fun r=>Imp r.v (sp N x).v,sp N x,[nI N,k x],hk,hr N x,fun r hr=>hr,fun C m hm=>?_,hc⟩
 exact Imp.cons (Imp.refl _) (Imp.cons hi (Imp.refl _)) C m hm
theorem zwo:KCS Tryz.prog 123 zo8:=ziC (pre:=zCu) ⟨Tryz.f123,Tryz.func123,by kernel_rfl,by kernel_rfl⟩ (fun v f h=>wP h) (fun _ x=>rfl) fun n x w hp=>by
 obtain⟨hn,hl,hi⟩:=hp
 cases hs:isS n x.lv x.ix with
 | false =>
  refine⟨zel,zwj,rfl,60,?_⟩
  show zsS n x (Is (nI (x.fe n)))
  rw[zCo]
  exact yK hn w hl hi fun hk=>⟨⟨hn,hs⟩,Is.of (by rw[zem hk fun hf=>by rw[hf.2.1] at hs; cases hs])⟩
 | true =>
  obtain⟨p1,p2⟩:=qW hn hs
  refine⟨zo6 (zq n x.lv x.ix),zCl _,rfl,60,?_⟩
  show ziB (zq n x.lv x.ix) n x (Is (nI (x.fe n)))
  have key:∀ p k,zq n x.lv x.ix=p→p=4 - k→k≤3→x.ok→cP p n x∧rst x (Is (nI (x.fe n))) k:=fun p k h1 h2 h3 hk=>⟨⟨hn,hs,h1⟩,zcm hk hs k h3 (fun i hi hi2=>by omega) (by omega)⟩
  have h4:zq n x.lv x.ix=1∨zq n x.lv x.ix=2∨zq n x.lv x.ix=3∨zq n x.lv x.ix=4:=by omega
  rcases h4 with h | h | h | h<;>rw[h]
  ·rw[zwk]; exact yK hn w hl hi (key 1 3 h rfl (by omega))
  ·rw[zwl]; exact yK hn w hl hi (key 2 2 h rfl (by omega))
  ·rw[zwm]; exact yK hn w hl hi (key 3 1 h rfl (by omega))
  ·rw[zwn]; exact yK hn w hl hi (key 4 0 h rfl (by omega))
theorem zCv:KCS Tryz.prog 58 zo8:=ziC (pre:=zCu) ⟨Tryz.f58,Tryz.func58,by kernel_rfl,by kernel_rfl⟩ (fun v f h=>wP h) (fun _ x=>rfl) fun n x w hp=>by
 obtain⟨hn,hl,hi⟩:=hp
 cases hs:isS n x.lv x.ix with
 | false =>
  refine⟨zo7,zCm,rfl,60,?_⟩
  show zCn n x (Is (nI (x.fe n)))
  rw[zHw]
  exact yK hn w hl hi fun hk=>⟨⟨hn,hs⟩,Is.of (by rw[zem hk fun hf=>by rw[hf.2.1] at hs; cases hs])⟩
 | true =>
  obtain⟨p1,p2⟩:=qW hn hs
  refine⟨E58 (zq n x.lv x.ix),zHv _,rfl,60,?_⟩
  show p58 (zq n x.lv x.ix) n x (Is (nI (x.fe n)))
  have key:∀ p k,zq n x.lv x.ix=p→p=4 - k→k≤3→x.ok→h2 n x p (rst x (Is (nI (x.fe n))) k):=fun p k h1 h2 h3 hk=>⟨⟨hn,hs⟩,zd.2 ⟨xb.2 (by omega),zd.2 ⟨xb.2 (by omega),⟨hn,hs,h1⟩,zcm hk hs k h3 (fun i hi hi2=>by omega) (by omega)⟩⟩⟩
  have h4:zq n x.lv x.ix=1∨zq n x.lv x.ix=2∨zq n x.lv x.ix=3∨zq n x.lv x.ix=4:=by omega
  rcases h4 with h | h | h | h<;>rw[h]
  ·rw[zCp]; exact yK hn w hl hi (key 1 3 h rfl (by omega))
  ·rw[zCq]; exact yK hn w hl hi (key 2 2 h rfl (by omega))
  ·rw[zCr]; exact yK hn w hl hi (key 3 1 h rfl (by omega))
  ·rw[zCs]; exact yK hn w hl hi (key 4 0 h rfl (by omega))
def zvr:zf:=fun l K=>la1 l fun v=>XZ v fun x=>x.ok∧K (nI 0)
def zvs:zf:=fun l K=>la1 l fun v=>Qf v fun x=>x.ok∧K (nI 0)
def zvt:zf:=fun l K=>la1 l fun v=>Qg v fun x=>x.ok∧K (nI 0)
def lsF (n:Nat) (f:Nat→Nat):List Nat:=@Nat.rec (fun _=>Nat→List Nat) (fun _=>[]) (fun _ ih i=>f i::ih (Nat.succ i)) n 0
def apL (l m:List Nat):List Nat:=@List.rec Nat (fun _=>List Nat) m (fun x _ ih=>x::ih) l
def P32 (a:Nat):List Nat:=[Nat.mod (Nat.div (Nat.mod a 18446744073709551616) 16777216) 256,Nat.mod (Nat.div (Nat.mod a 18446744073709551616) 65536) 256,Nat.mod (Nat.div (Nat.mod a 18446744073709551616) 256) 256,Nat.mod (Nat.div (Nat.mod a 18446744073709551616) 1) 256]
def P64 (a:Nat):List Nat:=[Nat.mod (Nat.div a 72057594037927936) 256,Nat.mod (Nat.div a 281474976710656) 256,Nat.mod (Nat.div a 1099511627776) 256,Nat.mod (Nat.div a 4294967296) 256,Nat.mod (Nat.div a 16777216) 256,Nat.mod (Nat.div a 65536) 256,Nat.mod (Nat.div a 256) 256,Nat.mod (Nat.div a 1) 256]
def zh6 (p64:Nat→List Nat) (m:List Nat) (L tot j:Nat):Nat:=@Bool.rec (fun _=>Nat) (@Bool.rec (fun _=>Nat) (@Bool.rec (fun _=>Nat) (nN (p64 (Nat.mul 8 L)) (Nat.sub j (Nat.sub tot 8))) 0 (Nat.blt j (Nat.sub tot 8))) 128 (Nat.beq j L)) (nN m j) (Nat.blt j L)
def zfw (p64:Nat→List Nat) (m:List Nat) (L tot k:Nat):List Nat:=lsF 64 fun i=>zh6 p64 m L tot (Nat.add (Nat.mul 64 k) i)
def zBb:List Nat:=[1779033703,3144134277,1013904242,2773480762,1359893119,2600822924,528734635,1541459225]
def stL (cp:CP) (p64:Nat→List Nat) (m:List Nat) (L tot:Nat) (k:Nat):List Nat:=@Nat.rec (fun _=>List Nat) zBb (fun k ih=>lsF 8 fun i=>cp ih (zfw p64 m L tot k) i) k
def jI (cp:CP) (p32 p64:Nat→List Nat) (m:List Nat) (L nb:Nat):List Nat:=lsF 32 fun j=>nN (p32 (nN (stL cp p64 m L (Nat.mul 64 nb) nb) (Nat.div j 4))) (Nat.mod j 4)
def rcL (p32 p64:Nat→List Nat) (r:Rc):List Nat:=r.st::apL (p32 r.sh) (apL (p64 r.ct) (lsF 32 (nN r.tg)))
def enL (r:En):List Nat:=r.st::lsF 32 (nN r.dg)
def qs (px p32 p64:Nat→List Nat) (x:Nd):List Nat:=x.lv::apL (px x.ix) (apL (rcL p32 p64 (x.rc 0)) (apL (rcL p32 p64 (x.rc 1)) (apL (rcL p32 p64 (x.rc 2)) (rcL p32 p64 (x.rc 3)))))
def jx (px:Nat→List Nat) (x:Nd):List Nat:=x.lv::apL (px x.ix) (apL (enL (x.en 0)) (apL (enL (x.en 1)) (apL (enL (x.en 2)) (enL (x.en 3)))))
def zaZ (cp:CP):KEnv:=EO0.tab [(192,zvr),(125,zvs),(247,zvt),(276,sCp cp)]
def tQ (L:List Nat) (r:KV):Prop:=QL (fun l=>onC l fun a r=>onC r fun e r2=>onE r2 (kvb e (nI 0)=true∧byQ 32 L a)) (BadN 930) r
def zsz (cp:CP) (x:Nd) (L:List Nat):Prop:=zk (zaZ cp) (zp (zaZ cp) 300) 0 158 [({ x with lv:=0 }:Nd).k] .e 0 0 fun r _ _ _=>tQ L r
def qL (L:List Nat):Prop:=true=true∧true=true∧L=L
def z0 (x:Nd):Nd:={ x with lv:=0 }
theorem zBc (cp:CP) (x:Nd):zsz cp x (jI cp P32 P64 (qs P32 P32 P64 (z0 x)) 185 4)=((z0 x).nf.ok∧(x.rc 0).nf.ok∧(x.rc 1).nf.ok∧(x.rc 2).nf.ok∧(x.rc 3).nf.ok∧qL (jI cp P32 P64 (qs P32 P32 P64 (z0 x)) 185 4)):=by kernel_rfl
def s1 (l:Nat) (x:Nd):Nd:={ x with lv:=Nat.succ l }
def zd9 (cp:CP) (l:Nat) (x:Nd) (L:List Nat):Prop:=zk (zaZ cp) (zp (zaZ cp) 300) 0 158 [(s1 l x).k] .e 0 0 fun r _ _ _=>tQ L r
theorem zvu (cp:CP) (x:Nd):zd9 cp 0 x (jI cp P32 P64 (jx P32 (s1 0 x)) 137 3)=((s1 0 x).nf.ok∧(x.en 0).nf.ok∧(x.en 1).nf.ok∧(x.en 2).nf.ok∧(x.en 3).nf.ok∧qL (jI cp P32 P64 (jx P32 (s1 0 x)) 137 3)):=by kernel_rfl
theorem zvv (cp:CP) (x:Nd):zd9 cp 1 x (jI cp P32 P64 (jx P32 (s1 1 x)) 137 3)=((s1 1 x).nf.ok∧(x.en 0).nf.ok∧(x.en 1).nf.ok∧(x.en 2).nf.ok∧(x.en 3).nf.ok∧qL (jI cp P32 P64 (jx P32 (s1 1 x)) 137 3)):=by kernel_rfl
def lsO (c:KV) (off n:Nat):List Nat:=@Nat.rec (fun _=>Nat→List Nat) (fun _=>[]) (fun _ ih i=>ntK c i::ih (Nat.succ i)) n off
def isO (off n:Nat) (c:KV):Bool:=nd (arK c) (zo0 (fun i=>isI .u8 (z7 (Nat.add off i) c)) n)
def zBd (cp:CP):zf:=fun l K=>la2 l fun x y=>chk (isA .u32 8 x) 900 (Jf (fun u cl e off len c=>chk (nd (xZ e) (nd (Nat.beq len 64) (isO off 64 c))) 902 (K (kAr 8 (ZR 0) fun i=>ZR (cp (lsK x 8) (lsO c off 64) i)))) (BadN 903) y)
def rr (a:Nat):Nat:=Nat.mod (Nat.mod a 256) 256
def dd (a:Nat):Nat:=Nat.mod (Nat.div a 256) 18446744073709551616
def R32 (a:Nat):List Nat:=[rr (dd (dd (dd (Nat.mod a 18446744073709551616)))),rr (dd (dd (Nat.mod a 18446744073709551616))),rr (dd (Nat.mod a 18446744073709551616)),rr (Nat.mod a 18446744073709551616)]
def R64 (a:Nat):List Nat:=[rr (dd (dd (dd (dd (dd (dd (dd a))))))),rr (dd (dd (dd (dd (dd (dd a)))))),rr (dd (dd (dd (dd (dd a))))),rr (dd (dd (dd (dd a)))),rr (dd (dd (dd a))),rr (dd (dd a)),rr (dd a),rr a]
def S32 (a:Nat):List Nat:=[Nat.mod (Nat.div a 16777216) 256,Nat.mod (Nat.div a 65536) 256,Nat.mod (Nat.div a 256) 256,Nat.mod a 256]
def E55 (cp:CP):KEnv:=EO0.tab [(190,zBd cp)]
def zBe (cp:CP) (x:Nd) (L:List Nat):Prop:=zk (E55 cp) (zp (E55 cp) 300) 0 55 [(z0 x).k] .e 0 0 fun r _ _ _=>byQ 32 L r
def zvw (cp:CP) (l:Nat) (x:Nd) (L:List Nat):Prop:=zk (E55 cp) (zp (E55 cp) 300) 0 55 [(s1 l x).k] .e 0 0 fun r _ _ _=>byQ 32 L r
def qB (L:List Nat):Prop:=true=true∧L=L
theorem zGV (cp:CP) (x:Nd):zBe cp x (jI cp R32 R64 (qs S32 R32 R64 (z0 x)) 185 4)=qB (jI cp R32 R64 (qs S32 R32 R64 (z0 x)) 185 4):=by kernel_rfl
theorem zBf (cp:CP) (l:Nat) (x:Nd):zvw cp l x (jI cp R32 R64 (jx S32 (s1 l x)) 137 3)=qB (jI cp R32 R64 (jx S32 (s1 l x)) 137 3):=by kernel_rfl
end
end Go.K
