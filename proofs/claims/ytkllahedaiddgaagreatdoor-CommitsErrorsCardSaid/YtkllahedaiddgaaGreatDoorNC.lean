/- The digest of a node: what the program's run comes to, over whatever compression. No condition. -/
import Derived.Test.YtkllahedaiddgaaGreatDoorND
import Derived.Test.YtkllahedaiddgaaGreatDoorK19
set_option linter.unusedSimpArgs false
set_option linter.unusedVariables false
set_option maxRecDepth 100000
namespace Go.K
open Go.Ab Go.RowKit Go.Y Go.Proofs
noncomputable section
attribute [local instance 10000] gO
def JU (fid:FuncId):Prop:=∃ fn,Tryz.prog.funcs[fid]?=some fn∧(fn.name == "runtime.NumGoroutine")=false∧fn.body.isNone=false
theorem zFy {α:Type}{E:KEnv}(hE:KOk E) (hP:E.P=Tryz.prog) {fid:FuncId}(hf:JU fid) {on:KV→(α→Prop)→Prop}{k:α→KV}{W:α→Prop}{sp:α→KV}{pre:α→Prop}(n:Nat)
  (hon:∀ v f,on v f→∃ x,W x∧Imp v.v (k x).v∧f x) (hr:∀ x,xl (sp x).v=true)
  (h:∀ x,W x→pre x→zn E (zu E n) 0 fid [k x] .e 0 0 fun r _ _ _=>Imp r.v (sp x).v):KCS Tryz.prog fid (fun l K=>la1 l fun v=>on v fun x=>pre x∧K (sp x)):=by
 refine zhu hf fun l K hs=>?_
 obtain⟨v,rfl,h1⟩:=wO hs
 obtain⟨x,w,hi,hp,hk⟩:=hon _ _ h1
 refine⟨E,hE,hP,n,fun r=>Imp r.v (sp x).v,sp x,[k x],hk,hr x,fun r hr=>hr,fun C m hm=>?_,h x w hp⟩
 exact Imp.cons hi (Imp.refl _) C m hm
theorem Va {α:Type}{E:KEnv}(hE:KOk E) (hP:E.P=Tryz.prog) {fid:FuncId}(hf:JU fid) {on:KV→(α→Prop)→Prop}{k:α→KV}{W:α→Prop}{sp:α→KV}(n:Nat)
  (hon:∀ v f,on v f→∃ x,W x∧Imp v.v (k x).v∧f x) (hr:∀ x,xl (sp x).v=true)
  (h:∀ x,W x→zn E (zu E n) 0 fid [k x] .e 0 0 fun r _ _ _=>Imp r.v (sp x).v):KCS Tryz.prog fid (fun l K=>la1 l fun v=>on v fun x=>K (sp x)):=by
 refine zhu hf fun l K hs=>?_
 obtain⟨v,rfl,h1⟩:=wO hs
 obtain⟨x,w,hi,hk⟩:=hon _ _ h1
 refine⟨E,hE,hP,n,fun r=>Imp r.v (sp x).v,sp x,[k x],hk,hr x,fun r hr=>hr,fun C m hm=>?_,h x w⟩
 exact Imp.cons hi (Imp.refl _) C m hm
def zB (n:Nat) (f:Nat→Nat):Bool:=@Nat.rec (fun _=>Bool) true (fun i ih=>nd ih (eqI (.ofNat (f i)) (.ofNat 0))) n
theorem zcU {f:Nat→Nat}:∀ {n:Nat},zB n f=true↔∀ i,i < n→f i=0
 | 0=>⟨fun _ i h=>by omega,fun _=>rfl⟩
 | n + 1=>by
  show nd (zB n f) (eqI (.ofNat (f n)) (.ofNat 0))=true↔_
  rw[za,zcU,zaX]
  constructor
  ·rintro⟨h1,h2⟩ i hi
   by_cases h:i=n
   ·rw[h]; exact h2
   ·exact h1 i (by omega)
  ·intro h
   exact⟨fun i hi=>h i (by omega),h n (by omega)⟩
def Rc.zero (x:Rc):Prop:=x.st=0∧x.sh=0∧x.ct=0∧∀ i,i < 32→nN x.tg i=0
def En.zero (x:En):Prop:=x.st=0∧∀ i,i < 32→nN x.dg i=0
def Rc.ok (x:Rc):Prop:=x.st≤2∧(x.st=0→x.zero)
def En.ok (x:En):Prop:=x.st≤2∧(x.st=0→x.zero)
open Classical in
def Rc.e (x:Rc):Nat:=if x.ok then 0 else 1
open Classical in
def En.e (x:En):Nat:=if x.ok then 0 else 1
def zCl (x:Rc) (K:KV→Prop):Prop:=zn EO0 (zu EO0 60) 0 125 [x.k] .e 0 0 fun r _ _ _=>K r
def zCm (x:En) (K:KV→Prop):Prop:=zn EO0 (zu EO0 60) 0 247 [x.k] .e 0 0 fun r _ _ _=>K r
def zCn (x:Rc) (K:KV→Prop):Prop:=zn EO0 (zu EO0 60) 0 133 [x.k] .e 0 0 fun r _ _ _=>K r
def zCo (x:En) (K:KV→Prop):Prop:=zn EO0 (zu EO0 60) 0 134 [x.k] .e 0 0 fun r _ _ _=>K r
def eZ (a:Nat):Bool:=eqI (.ofNat a) (.ofNat 0)
theorem vV {a:Nat}:eZ a=true↔a=0:=zaX
def gt2 (a:Nat):Bool:=ltI (.ofNat 2) (.ofNat a)
def Rc.zb (x:Rc):Bool:=nd (eZ x.st) (nd (nd (eZ x.sh) (nd (eZ x.ct) true)) (nd (zB 32 (nN x.tg)) true))
def En.zb (x:En):Bool:=nd (eZ x.st) (nd (zB 32 (nN x.dg)) true)
theorem Rc.zb_t {x:Rc}:x.zb=true↔x.zero:=by
 unfold Rc.zb Rc.zero
 simp only[za,vV,zcU,and_true,and_assoc]
theorem En.zb_t {x:En}:x.zb=true↔x.zero:=by
 unfold En.zb En.zero
 simp only[za,vV,zcU,and_true]
theorem zFz (x:Rc) (K:KV→Prop):zCl x K=alt (gt2 x.st) (K (nI 1)) (alt (eZ x.st) (alt (!x.zb) (K (nI 1)) (K (nI 0))) (K (nI 0))):=by kernel_rfl
theorem zFA (x:En) (K:KV→Prop):zCm x K=alt (gt2 x.st) (K (nI 1)) (alt (eZ x.st) (alt (!x.zb) (K (nI 1)) (K (nI 0))) (K (nI 0))):=by kernel_rfl
def eN (n a:Nat):Bool:=eqI (.ofNat a) (.ofNat n)
def t12 (st:Nat) (K:KV→Prop):Prop:=alt (eN 1 st) (K (nI 0)) (alt (eN 2 st) (K (nI 0)) (K (nI 1)))
theorem zFB (x:Rc) (K:KV→Prop):zCn x K=alt (eZ x.sh) (alt (eZ x.ct) (alt (eZ x.st) (alt (zB 32 (nN x.tg)) (K (nI 0)) (t12 x.st K)) (t12 x.st K)) (alt (eZ x.st) (t12 x.st K) (t12 x.st K))) (alt (eZ x.st) (t12 x.st K) (t12 x.st K)):=by kernel_rfl
theorem zFC (x:En) (K:KV→Prop):zCo x K=alt (eZ x.st) (alt (zB 32 (nN x.dg)) (K (nI 0)) (t12 x.st K)) (t12 x.st K):=by kernel_rfl
theorem Rc.e_t {x:Rc}(h:x.ok):x.e=0:=if_pos h
theorem Rc.e_f {x:Rc}(h:¬ x.ok):x.e=1:=if_neg h
theorem En.e_t {x:En}(h:x.ok):x.e=0:=if_pos h
theorem En.e_f {x:En}(h:¬ x.ok):x.e=1:=if_neg h
theorem zeQ {a:Nat}:gt2 a=true↔2 < a:=qM
theorem zCp {n a:Nat}:eN n a=true↔a=n:=zaX
theorem bf {b:Bool}{p:Prop}(h:b=true↔p):b=false↔¬ p:=by rw[←h]; cases b<;>simp
abbrev Is (w:KV):KV→Prop:=fun r=>Imp r.v w.v
theorem Is.rfl' (w:KV):Is w w:=Imp.refl _
theorem Is.of {w w':KV}(h:w=w'):Is w' w:=by rw[h]; exact Imp.refl _
theorem zFD (x:Rc):zCl x (Is (nI x.e)):=by
 rw[zFz]
 simp only[zo,zeQ,bf zeQ,vV,bf vV,Bool.not_eq_true',Bool.not_eq_false',bf Rc.zb_t,Rc.zb_t]
 refine⟨fun h=>Is.of ?_,fun h=>⟨fun h1=>⟨fun h2=>Is.of ?_,fun h2=>Is.of ?_⟩,fun h1=>Is.of ?_⟩⟩
 ·rw[Rc.e_f fun hk=>by have:=hk.1; omega]
 ·rw[Rc.e_f fun hk=>h2 (hk.2 h1)]
 ·rw[Rc.e_t ⟨by omega,fun _=>h2⟩]
 ·rw[Rc.e_t ⟨by omega,fun h2=>absurd h2 h1⟩]
theorem zFE (x:En):zCm x (Is (nI x.e)):=by
 rw[zFA]
 simp only[zo,zeQ,bf zeQ,vV,bf vV,Bool.not_eq_true',Bool.not_eq_false',bf En.zb_t,En.zb_t]
 refine⟨fun h=>Is.of ?_,fun h=>⟨fun h1=>⟨fun h2=>Is.of ?_,fun h2=>Is.of ?_⟩,fun h1=>Is.of ?_⟩⟩
 ·rw[En.e_f fun hk=>by have:=hk.1; omega]
 ·rw[En.e_f fun hk=>h2 (hk.2 h1)]
 ·rw[En.e_t ⟨by omega,fun _=>h2⟩]
 ·rw[En.e_t ⟨by omega,fun h2=>absurd h2 h1⟩]
theorem zlw {st:Nat}{n:Nat}(h1:st=1∨st=2→n=0) (h2:¬ (st=1∨st=2)→n=1):t12 st (Is (nI n)):=by
 unfold t12
 simp only[zo,zCp,bf zCp]
 refine⟨fun h=>Is.of ?_,fun h=>⟨fun h3=>Is.of ?_,fun h3=>Is.of ?_⟩⟩
 ·rw[h1 (.inl h)]
 ·rw[h1 (.inr h3)]
 ·rw[h2 (by omega)]
theorem zFF (x:Rc):zCn x (Is (nI x.e)):=by
 rw[zFB]
 have ok:x.st=1∨x.st=2→x.e=0:=fun h=>Rc.e_t ⟨by omega,fun h2=>by omega⟩
 have no:¬ x.zero→¬ (x.st=1∨x.st=2)→x.e=1:=fun h1 h2=>Rc.e_f fun hk=>by
  have:=hk.1
  exact h1 (hk.2 (by omega))
 have t:¬ x.zero→t12 x.st (Is (nI x.e)):=fun h=>zlw ok (no h)
 simp only[zo,vV,bf vV,zcU,bf zcU]
 refine⟨fun h1=>⟨fun h2=>⟨fun h3=>⟨fun h4=>Is.of ?_,fun h4=>t fun z=>h4 z.2.2.2⟩,fun h3=>t fun z=>h3 z.1⟩,fun h2=>⟨fun _=>t fun z=>h2 z.2.2.1,fun _=>t fun z=>h2 z.2.2.1⟩⟩,fun h1=>⟨fun _=>t fun z=>h1 z.2.1,fun _=>t fun z=>h1 z.2.1⟩⟩
 rw[Rc.e_t ⟨by omega,fun _=>⟨h3,h1,h2,h4⟩⟩]
theorem zFG (x:En):zCo x (Is (nI x.e)):=by
 rw[zFC]
 have ok:x.st=1∨x.st=2→x.e=0:=fun h=>En.e_t ⟨by omega,fun h2=>by omega⟩
 have no:¬ x.zero→¬ (x.st=1∨x.st=2)→x.e=1:=fun h1 h2=>En.e_f fun hk=>by
  have:=hk.1
  exact h1 (hk.2 (by omega))
 have t:¬ x.zero→t12 x.st (Is (nI x.e)):=fun h=>zlw ok (no h)
 simp only[zo,vV,bf vV,zcU,bf zcU]
 refine⟨fun h1=>⟨fun h2=>Is.of ?_,fun h2=>t fun z=>h2 z.2⟩,fun h1=>t fun z=>h1 z.1⟩
 rw[En.e_t ⟨by omega,fun _=>⟨h1,h2⟩⟩]
def zq4:zg:=fun l K=>la1 l fun v=>QC v fun x=>K (nI x.e)
def zq5:zg:=fun l K=>la1 l fun v=>QD v fun x=>K (nI x.e)
theorem zlx:KCS Tryz.prog 125 zq4:=Va xA rfl ⟨Tryz.f125,Tryz.func125,by kernel_rfl,by kernel_rfl⟩ 60 (fun v f h=>zcy h) (fun x=>rfl) fun x _=>zFD x
theorem zly:KCS Tryz.prog 247 zq5:=Va xA rfl ⟨Tryz.f247,Tryz.func247,by kernel_rfl,by kernel_rfl⟩ 60 (fun v f h=>zcz h) (fun x=>rfl) fun x _=>zFE x
theorem zxl:KCS Tryz.prog 133 zq4:=Va xA rfl ⟨Tryz.f133,Tryz.func133,by kernel_rfl,by kernel_rfl⟩ 60 (fun v f h=>zcy h) (fun x=>rfl) fun x _=>zFF x
theorem zxm:KCS Tryz.prog 134 zq5:=Va xA rfl ⟨Tryz.f134,Tryz.func134,by kernel_rfl,by kernel_rfl⟩ 60 (fun v f h=>zcz h) (fun x=>rfl) fun x _=>zFG x
def nfL (n:Nat) (l:List Nat):List Nat:=lsK (kBy n (nN l)) n
theorem zxn {n i:Nat}{f:Nat→Nat}(h:i < n):ntK (kBy n f) i=f i:=by
 have e:(xb i (kBy n f)).v=(kU8 (f i)).v:=by
  rw[x7]
  exact wu (f:=fun i=>kU8 (f i)) (n:=n) (z:=(kU8 0).v) h
 show xp (xb i (kBy n f)).v=_
 rw[e]; rfl
theorem zcV:∀ {a b:List Nat},a.length=b.length→(∀ i,i < a.length→nN a i=nN b i)→a=b
 | [],[],_,_=>rfl
 | x::a,y::b,h,h2=>by
  have h0:x=y:=h2 0 (Nat.succ_pos _)
  rw[h0,zcV (a:=a) (b:=b) (by simpa using h) fun i hi=>h2 (i + 1) (by simpa using hi)]
theorem zlz {n:Nat}{l:List Nat}(h:l.length=n):nfL n l=l :=
 zcV (by rw[show (nfL n l).length=n from YD _ _,h]) fun i hi=>by
  have hi':i < n:=by rw[←YD (kBy n (nN l)) n]; exact hi
  show nN (lsK (kBy n (nN l)) n) i=_
  rw[Z0 _ n i hi',zxn hi']
def Rc.nf (x:Rc):Rc:=⟨x.st,x.sh,x.ct,nfL 32 x.tg⟩
def En.nf (x:En):En:=⟨x.st,nfL 32 x.dg⟩
theorem Rc.nf_eq {x:Rc}(h:x.tg.length=32):x.nf=x:=by unfold Rc.nf; rw[zlz h]
theorem En.nf_eq {x:En}(h:x.dg.length=32):x.nf=x:=by unfold En.nf; rw[zlz h]
def zET:List (Nat×zg):=[(125,zq4),(247,zq5),(133,zq4),(134,zq5)]
def EN1:KEnv:=EO0.tab zET
theorem zBy:KOk EN1:=xA.tab ⟨zlx,zly,zxl,zxm,trivial⟩
def Nd.ok (x:Nd):Prop:=x.lv≤5∧(x.lv=0→(∀ i,i < 4→(x.en i).zero)∧∀ i,i < 4→(x.rc i).ok)∧(x.lv≠0→(∀ i,i < 4→(x.rc i).zero)∧∀ i,i < 4→(x.en i).ok)
open Classical in
def Nd.e (x:Nd):Nat:=if x.ok then 0 else 1
def z4 (f:Nat→Bool):Bool:=@Nat.rec (fun _=>Bool) true (fun i ih=>nd ih (f i)) 4
theorem zEU {f:Nat→Bool}{P:Nat→Prop}(h:∀ i,f i=true↔P i):z4 f=true↔∀ i,i < 4→P i:=by
 show nd (nd (nd (nd true (f 0)) (f 1)) (f 2)) (f 3)=true↔_
 simp only[za,h,true_and]
 constructor
 ·rintro⟨⟨⟨h0,h1⟩,h2⟩,h3⟩ i hi
  match i,hi with
  | 0,_=>exact h0
  | 1,_=>exact h1
  | 2,_=>exact h2
  | 3,_=>exact h3
 ·intro q
  exact⟨⟨⟨q 0 (by omega),q 1 (by omega)⟩,q 2 (by omega)⟩,q 3 (by omega)⟩
def qT (f:Nat→Nat) (K:KV→Prop):Prop:=alt (!eZ (f 0)) (K (nI (f 0))) (alt (!eZ (f 1)) (K (nI (f 1))) (alt (!eZ (f 2)) (K (nI (f 2))) (alt (!eZ (f 3)) (K (nI (f 3))) (K (nI 0)))))
def zbo (f:Nat→Bool) (p q:Prop):Prop:=alt (!f 0) p (alt (!f 1) p (alt (!f 2) p (alt (!f 3) p q)))
def zs5 (x:Nd) (K:KV→Prop):Prop:=zn EN1 (zu EN1 60) 0 192 [({ x with lv:=0 }:Nd).k] .e 0 0 fun r _ _ _=>K r
def zs6 (l:Nat) (x:Nd) (K:KV→Prop):Prop:=zn EN1 (zu EN1 60) 0 192 [({ x with lv:=Nat.succ l }:Nd).k] .e 0 0 fun r _ _ _=>K r
def zBz (x:Nd) (K:KV→Prop):Prop:=zn EN1 (zu EN1 60) 0 60 [({ x with lv:=0 }:Nd).k] .e 0 0 fun r _ _ _=>K r
def zBA (l:Nat) (x:Nd) (K:KV→Prop):Prop:=zn EN1 (zu EN1 60) 0 60 [({ x with lv:=Nat.succ l }:Nd).k] .e 0 0 fun r _ _ _=>K r
def gt5 (a:Nat):Bool:=ltI (.ofNat 5) (.ofNat a)
theorem zBB (x:Nd) (K:KV→Prop):zs5 x K=alt (!z4 fun i=>(x.en i).zb) (K (nI 1)) (qT (fun i=>(x.rc i).nf.e) K):=by kernel_rfl
theorem zBC (l:Nat) (x:Nd) (K:KV→Prop):zs6 l x K=alt (gt5 (Nat.succ l)) (K (nI 1)) (alt (!z4 fun i=>(x.rc i).zb) (K (nI 1)) (qT (fun i=>(x.en i).nf.e) K)):=by kernel_rfl
theorem zEV (x:Nd) (K:KV→Prop):zBz x K=zbo (fun i=>(x.en i).zb) (K (nI 1)) (qT (fun i=>(x.rc i).nf.e) K):=by kernel_rfl
theorem zEW (l:Nat) (x:Nd) (K:KV→Prop):zBA l x K=alt (gt5 (Nat.succ l)) (K (nI 1)) (zbo (fun i=>(x.rc i).zb) (K (nI 1)) (qT (fun i=>(x.en i).nf.e) K)):=by kernel_rfl
theorem X7 {f g:Nat→Nat}{K:KV→Prop}(h:∀ i,i < 4→f i=g i):qT f K=qT g K:=by
 unfold qT
 rw[h 0 (by omega),h 1 (by omega),h 2 (by omega),h 3 (by omega)]
theorem zbp {f:Nat→Nat}{P:Nat→Prop}{n:Nat}(h1:∀ i,P i→f i=0) (h2:∀ i,¬ P i→f i=1) (h3:(∀ i,i < 4→P i)→n=0) (h4:(∃ i,i < 4∧¬ P i)→n=1):qT f (Is (nI n)):=by
 have e1:∀ i,i < 4→f i≠0→nI (f i)=nI n:=fun i hi h=>by
  have hp:¬ P i:=fun hp=>h (h1 i hp)
  rw[h2 i hp,h4 ⟨i,hi,hp⟩]
 have e2:∀ i,f i=0→P i:=fun i h=>Classical.byContradiction fun hp=>by rw[h2 i hp] at h; cases h
 unfold qT
 simp only[zo,Bool.not_eq_true',Bool.not_eq_false',bf vV,vV]
 refine⟨fun h=>Is.of (e1 0 (by omega) h),fun a=>⟨fun h=>Is.of (e1 1 (by omega) h),fun b=>⟨fun h=>Is.of (e1 2 (by omega) h),fun c=>⟨fun h=>Is.of (e1 3 (by omega) h),fun d=>Is.of ?_⟩⟩⟩⟩
 rw[h3 fun i hi=>by
  match i,hi with
  | 0,_=>exact e2 _ a
  | 1,_=>exact e2 _ b
  | 2,_=>exact e2 _ c
  | 3,_=>exact e2 _ d]
theorem zeI {f:Nat→Bool}{P:Nat→Prop}{p q:Prop}(h:∀ i,f i=true↔P i) (h1:(∃ i,i < 4∧¬ P i)→p) (h2:(∀ i,i < 4→P i)→q):zbo f p q:=by
 unfold zbo
 simp only[zo,Bool.not_eq_true',Bool.not_eq_false',h,bf (h _)]
 refine⟨fun a=>h1 ⟨0,by omega,a⟩,fun a=>⟨fun b=>h1 ⟨1,by omega,b⟩,fun b=>⟨fun c=>h1 ⟨2,by omega,c⟩,fun c=>⟨fun d=>h1 ⟨3,by omega,d⟩,fun d=>h2 fun i hi=>?_⟩⟩⟩⟩
 match i,hi with
 | 0,_=>exact a
 | 1,_=>exact b
 | 2,_=>exact c
 | 3,_=>exact d
theorem zkc {f:Nat→Bool}{p q:Prop}(h:zbo f p q):alt (!z4 f) p q:=by
 unfold zbo at h
 show alt (!nd (nd (nd (nd true (f 0)) (f 1)) (f 2)) (f 3)) p q
 revert h
 cases f 0<;>cases f 1<;>cases f 2<;>cases f 3<;>simp [alt,nd]
theorem Nd.nf_rc {x:Nd}(h:x.wl) {i:Nat}(hi:i < 4):(x.rc i).nf.e=(x.rc i).e:=by rw[Rc.nf_eq (h.1 i hi)]
theorem zBD {x:Nd}(h:x.wl) (h0:x.lv=0):zbo (fun i=>(x.en i).zb) (Is (nI x.e) (nI 1)) (qT (fun i=>(x.rc i).nf.e) (Is (nI x.e))):=by
 refine zeI (P:=fun i=>(x.en i).zero) (fun i=>En.zb_t) (fun⟨i,hi,hn⟩=>Is.of ?_) fun hz=>?_
 ·unfold Nd.e; rw[if_neg fun ok=>hn ((ok.2.1 h0).1 i hi)]
 ·have hc:qT (fun i=>(x.rc i).e) (Is (nI x.e)):=by
   refine zbp (P:=fun i=>(x.rc i).ok) (fun i h=>Rc.e_t h) (fun i h=>Rc.e_f h) (fun h=>?_) fun⟨i,hi,hn⟩=>?_
   ·unfold Nd.e; rw[if_pos ⟨by omega,fun _=>⟨hz,h⟩,fun h=>absurd h0 h⟩]
   ·unfold Nd.e; rw[if_neg fun ok=>hn ((ok.2.1 h0).2 i hi)]
  rw[X7 fun i hi=>Nd.nf_rc h hi]
  exact hc
theorem Nd.nf_en {x:Nd}(h:x.wl) {i:Nat}(hi:i < 4):(x.en i).nf.e=(x.en i).e:=by rw[En.nf_eq (h.2 i hi)]
theorem zBE {x:Nd}(h:x.wl) (h0:x.lv≠0) (h5:x.lv≤5):zbo (fun i=>(x.rc i).zb) (Is (nI x.e) (nI 1)) (qT (fun i=>(x.en i).nf.e) (Is (nI x.e))):=by
 refine zeI (P:=fun i=>(x.rc i).zero) (fun i=>Rc.zb_t) (fun⟨i,hi,hn⟩=>Is.of ?_) fun hz=>?_
 ·unfold Nd.e; rw[if_neg fun ok=>hn ((ok.2.2 h0).1 i hi)]
 ·have hc:qT (fun i=>(x.en i).e) (Is (nI x.e)):=by
   refine zbp (P:=fun i=>(x.en i).ok) (fun i h=>En.e_t h) (fun i h=>En.e_f h) (fun h=>?_) fun⟨i,hi,hn⟩=>?_
   ·unfold Nd.e; rw[if_pos ⟨h5,fun h=>absurd h h0,fun _=>⟨hz,h⟩⟩]
   ·unfold Nd.e; rw[if_neg fun ok=>hn ((ok.2.2 h0).2 i hi)]
  rw[X7 fun i hi=>Nd.nf_en h hi]
  exact hc
theorem zkd {x:Nd}{q:Prop}(h:x.lv≤5→q):alt (gt5 x.lv) (Is (nI x.e) (nI 1)) q:=by
 simp only[zo,show gt5 x.lv=true↔5 < x.lv from qM,bf (show gt5 x.lv=true↔5 < x.lv from qM)]
 refine⟨fun h=>Is.of ?_,fun h'=>h (by omega)⟩
 unfold Nd.e; rw[if_neg fun ok=>by have:=ok.1; omega]
def zfU:zg:=fun l K=>la1 l fun v=>Vf v fun x=>K (nI x.e)
theorem zcL:KCS Tryz.prog 192 zfU:=Va zBy rfl ⟨Tryz.f192,Tryz.func192,by kernel_rfl,by kernel_rfl⟩ 60 (fun v f h=>w6 h) (fun x=>rfl) fun x w=>by
 obtain⟨lv,ix,rc,en⟩:=x
 cases lv with
 | zero =>
  show zs5 ⟨0,ix,rc,en⟩ (Is (nI _))
  rw[zBB]
  exact zkc (zBD w rfl)
 | succ l =>
  show zs6 l ⟨Nat.succ l,ix,rc,en⟩ (Is (nI _))
  rw[zBC]
  exact zkd (x:=⟨l + 1,ix,rc,en⟩) fun h5=>zkc (zBE w (by simp) h5)
theorem zs7:KCS Tryz.prog 60 zfU:=Va zBy rfl ⟨Tryz.f60,Tryz.func60,by kernel_rfl,by kernel_rfl⟩ 60 (fun v f h=>w6 h) (fun x=>rfl) fun x w=>by
 obtain⟨lv,ix,rc,en⟩:=x
 cases lv with
 | zero =>
  show zBz ⟨0,ix,rc,en⟩ (Is (nI _))
  rw[zEV]
  exact zBD w rfl
 | succ l =>
  show zBA l ⟨Nat.succ l,ix,rc,en⟩ (Is (nI _))
  rw[zEW]
  exact zkd (x:=⟨l + 1,ix,rc,en⟩) fun h5=>zBE w (by simp) h5
def upC (c:Nat):Nat:=Nat.div (Nat.add c 3) 4
def zQ (n:Nat) (l:Nat):Nat:=@Nat.rec (fun _=>Nat) (upC n) (fun _ c=>@Nat.rec (fun _=>Nat) 0 (fun k _=>@Nat.rec (fun _=>Nat) 0 (fun _ _=>upC c) k) c) l
def zBK (n:Nat) (l:Nat):Nat:=@Nat.rec (fun _=>Nat) n (fun k _=>zQ n k) l
def isS (n l i:Nat):Bool:=Nat.blt i (zQ n l)
def zw (n l i:Nat):Nat:=@Bool.rec (fun _=>Nat) 0 (@Bool.rec (fun _=>Nat) (Nat.sub (zBK n l) (Nat.mul 4 i)) 4 (Nat.ble 4 (Nat.sub (zBK n l) (Nat.mul 4 i)))) (isS n l i)
def jL (P:Nat→Prop) (n:Nat):Prop:=@Nat.rec (fun _=>Prop) True (fun i ih=>ih∧P i) n
theorem xC {P:Nat→Prop}:∀ {n:Nat},jL P n→∀ i,i < n→P i
 | 0,_,i,h=>by omega
 | n + 1,h,i,hi=>by
  obtain⟨h1,h2⟩:=(show jL P n∧P n from h)
  by_cases e:i=n
  ·rw[e]; exact h2
  ·exact xC h1 i (by omega)
def whB (b:Bool) (p:Prop):Prop:=@Bool.rec (fun _=>Prop) True p b
theorem zkj {b:Bool}{p:Prop}(h:whB b p) (hb:b=true):p:=by rw[hb] at h; exact h
def zqu (f n l i:Nat) (w:KV):Prop:=zn EO0 (zu EO0 200) 0 f [nI n,nI l,nI i] .e 0 0 fun r _ _ _=>tK (kvb r w)
def QF (f:Nat) (w:Nat→Nat→Nat→KV) (q:Bool):Prop:=jL (fun n=>jL (fun l=>jL (fun i=>whB (isS (Nat.succ n) l i) (@Bool.rec (fun _=>Prop) True (zqu f (Nat.succ n) l i (w (Nat.succ n) l i)) q)) 6) 3) 24
def zcP (f:Nat) (z:KV) (q:Bool):Prop:=jL (fun n=>jL (fun l=>∀ j,@Bool.rec (fun _=>Prop) True (zqu f (Nat.succ n) l (Nat.add j (zQ (Nat.succ n) l)) z) q) 3) 24
def zcQ (f:Nat) (z:KV) (q:Bool):Prop:=jL (fun n=>∀ l j,@Bool.rec (fun _=>Prop) True (zqu f (Nat.succ n) (Nat.add l 3) j z) q) 24
def JP (a e:Nat):KV:=.tup (.cons (nI a) (.cons (nI e) .nl))
def zkk (n l i:Nat):KV:=JP (zw n l i) 0
def zqv (n l i:Nat):KV:=.bool true
def zwK (n l i:Nat):KV:=nI (zw n l i)
attribute [local irreducible] zn zu
theorem vu {P:Nat→Prop}(hp:∀ i,P i):∀ n,jL P n
 | 0=>trivial
 | n + 1=>⟨vu hp n,hp n⟩
theorem zcR (f:Nat) (w:Nat→Nat→Nat→KV):QF f w false :=
 vu (fun n=>vu (fun l=>vu (fun i=>by cases isS (Nat.succ n) l i<;>trivial) 6) 3) 24
theorem zkl (f:Nat) (z:KV):zcP f z false:=vu (fun n=>vu (fun l=>fun j=>trivial) 3) 24
theorem zkm (f:Nat) (z:KV):zcQ f z false:=vu (fun n=>fun l j=>trivial) 24
theorem zBL:QF 193 zkk true=QF 193 zkk false:=by kernel_rfl
theorem zBM:QF 124 zqv true=QF 124 zqv false:=by kernel_rfl
theorem zBN:QF 117 zwK true=QF 117 zwK false:=by kernel_rfl
theorem zBO:zcP 193 (JP 0 1) true=zcP 193 (JP 0 1) false:=by kernel_rfl
theorem zBP:zcP 124 (.bool false) true=zcP 124 (.bool false) false:=by kernel_rfl
theorem zBQ:zcQ 193 (JP 0 1) true=zcQ 193 (JP 0 1) false:=by kernel_rfl
theorem zBR:zcQ 124 (.bool false) true=zcQ 124 (.bool false) false:=by kernel_rfl
theorem VC (n l:Nat) (hn:n < 24):zQ (Nat.succ n) (Nat.add l 3)=0:=by
 have h2:∀ m,m < 24→zQ (Nat.succ m) 2=0∨zQ (Nat.succ m) 2=1:=by
  intro m hm
  have:jL (fun m=>zQ (Nat.succ m) 2=0∨zQ (Nat.succ m) 2=1) 24:=by
   have h:∀ m:Fin 24,zQ (Nat.succ m.1) 2=0∨zQ (Nat.succ m.1) 2=1:=by decide
   have h1:∀ k,k≤24→jL (fun m=>zQ (Nat.succ m) 2=0∨zQ (Nat.succ m) 2=1) k:=by
    intro k
    induction k with
    | zero=>intro _; trivial
    | succ k ih=>intro hk; exact⟨ih (by omega),h ⟨k,by omega⟩⟩
   exact h1 24 (by omega)
  exact xC this m hm
 induction l with
 | zero =>
  show (@Nat.rec (fun _=>Nat) 0 (fun k _=>@Nat.rec (fun _=>Nat) 0 (fun _ _=>upC (zQ (Nat.succ n) 2)) k) (zQ (Nat.succ n) 2))=0
  rcases h2 n hn with h | h<;>rw[h]<;>rfl
 | succ l ih =>
  show (@Nat.rec (fun _=>Nat) 0 (fun k _=>@Nat.rec (fun _=>Nat) 0 (fun _ _=>upC (zQ (Nat.succ n) (Nat.succ (Nat.succ (Nat.add l 1))))) k) (zQ (Nat.succ n) (Nat.add l 3)))=0
  rw[ih]
  rfl
theorem zs8 {n l i:Nat}:isS n l i=false↔zQ n l≤i:=by
 show Nat.blt i _=false↔_
 rw[←Bool.not_eq_true,v5]; exact Nat.not_lt
theorem qa {n l i:Nat}:isS n l i=true↔i < zQ n l:=v5
theorem Z9 (n l:Nat) (hn:n < 24) (hl:l < 3):zQ (Nat.succ n) l≤6:=by
 have h:∀ m:Fin 24,∀ l:Fin 3,zQ (Nat.succ m.1) l.1≤6:=by decide
 exact h ⟨n,hn⟩ ⟨l,hl⟩
theorem zqw {f:Nat}{w:Nat→Nat→Nat→KV}{z:KV}(h1:QF f w true) (h2:zcP f z true) (h3:zcQ f z true) {n l i:Nat}(hn:1≤n) (hn2:n≤24):zqu f n l i (@Bool.rec (fun _=>KV) z (w n l i) (isS n l i)):=by
 obtain⟨m,rfl⟩:∃ m,n=Nat.succ m:=⟨n - 1,by omega⟩
 have hm:m < 24:=by omega
 by_cases hl:l < 3
 ·cases hb:isS (Nat.succ m) l i with
  | true =>
   have hi:=qa.1 hb
   have:=Z9 m l hm hl
   exact zkj (xC (xC (xC h1 m hm) l hl) i (by omega)) hb
  | false =>
   have hi:=zs8.1 hb
   have:=xC (xC h2 m hm) l hl (i - zQ (Nat.succ m) l)
   rwa [show Nat.add (i - zQ (Nat.succ m) l) (zQ (Nat.succ m) l)=i from Nat.sub_add_cancel hi] at this
 ·obtain⟨k,rfl⟩:∃ k,l=Nat.add k 3:=⟨l - 3,by show l=l - 3 + 3; omega⟩
  rw[show isS (Nat.succ m) (Nat.add k 3) i=false by rw[zs8,VC m k hm]; omega]
  exact xC h3 m hm k i
def zT (n:Nat):Bool:=nd (Nat.ble 1 n) (Nat.ble n 24)
theorem xc {n:Nat}(h:zT n=true):1≤n∧n≤24:=by
 obtain⟨h1,h2⟩:=za.1 h
 exact⟨Nat.le_of_ble_eq_true h1,Nat.le_of_ble_eq_true h2⟩
def la3 (l:List KV) (f:KV→KV→KV→Prop):Prop:=match l with
 | [a,b,c]=>f a b c
 | _=>BadN 920
theorem zeN {l:List KV}{f:KV→KV→KV→Prop}(h:la3 l f):∃ a b c,l=[a,b,c]∧f a b c:=by
 unfold la3 at h
 split at h
 ·exact⟨_,_,_,rfl,h⟩
 ·exact h.elim
def s3 (w:Nat→Nat→Nat→KV):zg:=fun l K=>la3 l fun a b c=>jg a fun n=>jg b fun l=>jg c fun i=>chk (zT n) 921 (K (w n l i))
theorem zBS {f:Nat}(hf:JU f) {w:Nat→Nat→Nat→KV}{z:KV}(h1:QF f w true) (h2:zcP f z true) (h3:zcQ f z true) (hr:∀ n l i,xl (@Bool.rec (fun _=>KV) z (w n l i) (isS n l i):KV).v=true):KCS Tryz.prog f (s3 fun n l i=>@Bool.rec (fun _=>KV) z (w n l i) (isS n l i)) :=
 ZV hf fun l K hs=>by
  obtain⟨a,b,c,rfl,hs⟩:=zeN hs
  obtain⟨n,rfl,hs⟩:=xz hs
  obtain⟨l,rfl,hs⟩:=xz hs
  obtain⟨i,rfl,hs⟩:=xz hs
  obtain⟨hn,hk⟩:=zd hs
  obtain⟨q1,q2⟩:=xc hn
  exact⟨EO0,xA,rfl,200,_,_,hk,hr n l i,fun r hr=>by rw[qN (za2 hr)]; exact Imp.refl _,zqw h1 h2 h3 q1 q2⟩
def zE5:zg:=s3 fun n l i=>@Bool.rec (fun _=>KV) (JP 0 1) (zkk n l i) (isS n l i)
def zE6:zg:=s3 fun n l i=>@Bool.rec (fun _=>KV) (.bool false) (zqv n l i) (isS n l i)
theorem zkn:KCS Tryz.prog 193 zE5:=zBS ⟨Tryz.f193,Tryz.func193,by kernel_rfl,by kernel_rfl⟩ (Eq.mpr zBL (zcR _ _)) (Eq.mpr zBO (zkl _ _)) (Eq.mpr zBQ (zkm _ _)) fun n l i=>by cases isS n l i<;>rfl
theorem zwL:KCS Tryz.prog 124 zE6:=zBS ⟨Tryz.f124,Tryz.func124,by kernel_rfl,by kernel_rfl⟩ (Eq.mpr zBM (zcR _ _)) (Eq.mpr zBP (zkl _ _)) (Eq.mpr zBR (zkm _ _)) fun n l i=>by cases isS n l i<;>rfl
def zE7:zg:=fun l K=>la3 l fun a b c=>jg a fun n=>jg b fun l=>jg c fun i=>chk (nd (zT n) (isS n l i)) 922 (K (nI (zw n l i)))
theorem zko:KCS Tryz.prog 117 zE7 :=
 ZV ⟨Tryz.f117,Tryz.func117,by kernel_rfl,by kernel_rfl⟩ fun l K hs=>by
  obtain⟨a,b,c,rfl,hs⟩:=zeN hs
  obtain⟨n,rfl,hs⟩:=xz hs
  obtain⟨l,rfl,hs⟩:=xz hs
  obtain⟨i,rfl,hs⟩:=xz hs
  obtain⟨hn,hk⟩:=zd hs
  obtain⟨hn,hi⟩:=za.1 hn
  obtain⟨q1,q2⟩:=xc hn
  obtain⟨m,rfl⟩:∃ m,n=Nat.succ m:=⟨n - 1,by omega⟩
  have hm:m < 24:=by omega
  have hl:l < 3:=by
   refine Classical.byContradiction fun hl=>?_
   obtain⟨k,rfl⟩:∃ k,l=Nat.add k 3:=⟨l - 3,by show l=l - 3 + 3; omega⟩
   rw[qa,VC m k hm] at hi
   omega
  have:=Z9 m l hm hl
  have hi':=qa.1 hi
  exact⟨EO0,xA,rfl,200,_,_,hk,rfl,fun r hr=>by rw[qN (za2 hr)]; exact Imp.refl _,zkj (xC (xC (xC (Eq.mpr zBN (zcR _ _):QF 117 zwK true) m hm) l hl) i (by omega)) hi⟩
end
end Go.K
set_option maxRecDepth 100000
namespace Go.K
open Go.Ab Go.RowKit Go.Y Go.Proofs
noncomputable section
attribute [local instance 10000] gO
theorem KCS.imp {P:Program}{f:FuncId}{s s':zg}(h:KCS P f s) (hs:∀ l K,s' l K→s l K):KCS P f s':=⟨h.1,fun l K hk=>h.2 l K (hs l K hk)⟩
def on3 (l:List KV) (f:Nat→Nat→Nat→Prop):Prop:=la3 l fun a b c=>jg a fun n=>jg b fun l=>jg c fun i=>f n l i
theorem JN {l:List KV}{f:Nat→Nat→Nat→Prop}(h:on3 l f):∃ n m i,l=[nI n,nI m,nI i]∧f n m i:=by
 obtain⟨a,b,c,rfl,h0⟩:=zeN h
 obtain⟨n,rfl,h1⟩:=xz h0
 obtain⟨l,rfl,h2⟩:=xz h1
 obtain⟨i,rfl,h3⟩:=xz h2
 exact⟨n,l,i,rfl,h3⟩
def sPp (p:Nat):zg:=fun l K=>on3 l fun n l i=>(zT n=true∧isS n l i=true∧zw n l i=p)∧K (JP p 0)
def sPe:zg:=fun l K=>on3 l fun n l i=>(zT n=true∧isS n l i=false)∧K (JP 0 1)
def sQp (p:Nat):zg:=fun l K=>on3 l fun n l i=>(zT n=true∧isS n l i=true∧zw n l i=p)∧K (nI p)
def sIp (b:Bool):zg:=fun l K=>on3 l fun n l i=>(zT n=true∧isS n l i=b)∧K (.bool b)
theorem kPp (p:Nat):KCS Tryz.prog 193 (sPp p):=zkn.imp fun l K h=>by
 obtain⟨n,l,i,rfl,⟨h1,h2,h3⟩,h4⟩:=JN h
 show chk (zT n) 921 (K (@Bool.rec (fun _=>KV) (JP 0 1) (zkk n l i) (isS n l i)))
 rw[h1,h2]
 show K (JP (zw n l i) 0)
 rw[h3]; exact h4
theorem kPe:KCS Tryz.prog 193 sPe:=zkn.imp fun l K h=>by
 obtain⟨n,l,i,rfl,⟨h1,h2⟩,h4⟩:=JN h
 show chk (zT n) 921 (K (@Bool.rec (fun _=>KV) (JP 0 1) (zkk n l i) (isS n l i)))
 rw[h1,h2]
 exact h4
theorem kQp (p:Nat):KCS Tryz.prog 117 (sQp p):=zko.imp fun l K h=>by
 obtain⟨n,l,i,rfl,⟨h1,h2,h3⟩,h4⟩:=JN h
 show chk (nd (zT n) (isS n l i)) 922 (K _)
 rw[h1,h2,h3]; exact h4
theorem kIp (b:Bool):KCS Tryz.prog 124 (sIp b):=zwL.imp fun l K h=>by
 obtain⟨n,l,i,rfl,⟨h1,h2⟩,h4⟩:=JN h
 show chk (zT n) 921 (K (@Bool.rec (fun _=>KV) (.bool false) (zqv n l i) (isS n l i)))
 rw[h1,h2]
 cases b<;>exact h4
def zqn (p:Nat):KEnv:=EO0.tab [(192,zfU),(193,sPp p)]
def zeC:KEnv:=EO0.tab [(192,zfU),(193,sPe)]
def E58 (p:Nat):KEnv:=EO0.tab [(60,zfU),(124,sIp true),(117,sQp p)]
def zqo:KEnv:=EO0.tab [(60,zfU),(124,sIp false)]
theorem zAS (p:Nat):KOk (zqn p):=xA.tab ⟨zcL,kPp p,trivial⟩
theorem zv2:KOk zeC:=xA.tab ⟨zcL,kPe,trivial⟩
theorem zEF (p:Nat):KOk (E58 p):=xA.tab ⟨zs7,kIp true,kQp p,trivial⟩
theorem zAT:KOk zqo:=xA.tab ⟨zs7,kIp false,trivial⟩
def Nd.nf (x:Nd):Nd:=⟨x.lv,x.ix,c4 (x.rc 0).nf (x.rc 1).nf (x.rc 2).nf (x.rc 3).nf,c4 (x.en 0).nf (x.en 1).nf (x.en 2).nf (x.en 3).nf⟩
theorem zsV {α:Type}{f g:Nat→α}(h:∀ i,i < 4→g i=f i):∀ i,i < 4→c4 (g 0) (g 1) (g 2) (g 3) i=f i
 | 0,_=>h 0 (by omega)
 | 1,_=>h 1 (by omega)
 | 2,_=>h 2 (by omega)
 | 3,_=>h 3 (by omega)
 | n + 4,h=>by omega
theorem Nd.nf_rc' {x:Nd}(h:x.wl):∀ i,i < 4→x.nf.rc i=x.rc i:=zsV (g:=fun i=>(x.rc i).nf) fun i hi=>Rc.nf_eq (h.1 i hi)
theorem Nd.nf_en' {x:Nd}(h:x.wl):∀ i,i < 4→x.nf.en i=x.en i:=zsV (g:=fun i=>(x.en i).nf) fun i hi=>En.nf_eq (h.2 i hi)
theorem Nd.ok_congr {x y:Nd}(h1:x.lv=y.lv) (h2:∀ i,i < 4→x.rc i=y.rc i) (h3:∀ i,i < 4→x.en i=y.en i):x.ok↔y.ok:=by
 have a:∀ P:Rc→Prop,(∀ i,i < 4→P (x.rc i))↔∀ i,i < 4→P (y.rc i):=fun P=>⟨fun h i hi=>by rw[←h2 i hi]; exact h i hi,fun h i hi=>by rw[h2 i hi]; exact h i hi⟩
 have b:∀ P:En→Prop,(∀ i,i < 4→P (x.en i))↔∀ i,i < 4→P (y.en i):=fun P=>⟨fun h i hi=>by rw[←h3 i hi]; exact h i hi,fun h i hi=>by rw[h3 i hi]; exact h i hi⟩
 unfold Nd.ok
 rw[h1,a Rc.zero,a Rc.ok,b En.zero,b En.ok]
theorem Nd.nf_e {x:Nd}(h:x.wl):x.nf.e=x.e:=by
 have:=Nd.ok_congr (x:=x.nf) (y:=x) rfl (Nd.nf_rc' h) (Nd.nf_en' h)
 unfold Nd.e
 by_cases hk:x.ok
 ·rw[if_pos hk,if_pos (this.2 hk)]
 ·rw[if_neg hk,if_neg fun h=>hk (this.1 h)]
def Nd.fits (n:Nat) (x:Nd):Prop:=x.ok∧isS n x.lv x.ix=true∧∀ i,i < 4→zw n x.lv x.ix≤i→(x.rc i).zero∧(x.en i).zero
open Classical in
def Nd.fe (n:Nat) (x:Nd):Nat:=if x.ok then (if x.fits n then 0 else 17) else 1
def b63 (a:Nat):Bool:=Nat.blt a 9223372036854775808
def lt1 (n:Nat):Bool:=ltI (.ofNat n) (.ofNat 1)
def gtM (n:Nat):Bool:=ltI (.ofNat 4096) (.ofNat n)
def rst (x:Nd) (K:KV→Prop) (k:Nat):Prop:=@Nat.rec (fun _=>Prop) (K (nI 0)) (fun k ih=>alt (!(x.rc (Nat.sub 3 k)).zb) (K (nI 17)) (alt (!(x.en (Nat.sub 3 k)).zb) (K (nI 17)) ih)) k
def hd (n:Nat) (x:Nd) (K:KV→Prop) (q:Prop):Prop:=alt (lt1 n) (K (nI 1)) (alt (gtM n) (K (nI 1)) (alt (!eZ x.nf.e) (K (nI x.nf.e)) (cnd (b63 x.lv) (cnd (b63 x.ix) q))))
def zsW (n:Nat) (x:Nd) (K:KV→Prop):Prop:=zn zeC (zu zeC 60) 0 123 [nI n,x.k] .e 0 0 fun r _ _ _=>K r
def zjZ (p:Nat) (n:Nat) (x:Nd) (K:KV→Prop):Prop:=zn (zqn p) (zu (zqn p) 60) 0 123 [nI n,x.k] .e 0 0 fun r _ _ _=>K r
def zAU (n:Nat) (x:Nd) (K:KV→Prop):Prop:=zn zqo (zu zqo 60) 0 58 [nI n,x.k] .e 0 0 fun r _ _ _=>K r
def p58 (p:Nat) (n:Nat) (x:Nd) (K:KV→Prop):Prop:=zn (E58 p) (zu (E58 p) 60) 0 58 [nI n,x.k] .e 0 0 fun r _ _ _=>K r
def cP (p n:Nat) (x:Nd):Prop:=zT n=true∧isS n x.lv x.ix=true∧zw n x.lv x.ix=p
def cI (b:Bool) (n:Nat) (x:Nd):Prop:=zT n=true∧isS n x.lv x.ix=b
theorem zAV (n:Nat) (x:Nd) (K:KV→Prop):zsW n x K=hd n x K (cI false n x∧K (nI 17)):=by kernel_rfl
theorem zEG (n:Nat) (x:Nd) (K:KV→Prop):zAU n x K=hd n x K (cI false n x∧K (nI 17)):=by kernel_rfl
theorem zv3 (n:Nat) (x:Nd) (K:KV→Prop):zjZ 1 n x K=hd n x K (cP 1 n x∧rst x K 3):=by kernel_rfl
theorem zv4 (n:Nat) (x:Nd) (K:KV→Prop):zjZ 2 n x K=hd n x K (cP 2 n x∧rst x K 2):=by kernel_rfl
theorem zv5 (n:Nat) (x:Nd) (K:KV→Prop):zjZ 3 n x K=hd n x K (cP 3 n x∧rst x K 1):=by kernel_rfl
theorem zv6 (n:Nat) (x:Nd) (K:KV→Prop):zjZ 4 n x K=hd n x K (cP 4 n x∧rst x K 0):=by kernel_rfl
def h2 (n:Nat) (x:Nd) (p:Nat) (q:Prop):Prop:=cI true n x∧cnd (b63 x.lv) (cnd (b63 x.ix) (cP p n x∧q))
theorem zAW (n:Nat) (x:Nd) (K:KV→Prop):p58 1 n x K=hd n x K (h2 n x 1 (rst x K 3)):=by kernel_rfl
theorem zAX (n:Nat) (x:Nd) (K:KV→Prop):p58 2 n x K=hd n x K (h2 n x 2 (rst x K 2)):=by kernel_rfl
theorem zAY (n:Nat) (x:Nd) (K:KV→Prop):p58 3 n x K=hd n x K (h2 n x 3 (rst x K 1)):=by kernel_rfl
theorem zAZ (n:Nat) (x:Nd) (K:KV→Prop):p58 4 n x K=hd n x K (h2 n x 4 (rst x K 0)):=by kernel_rfl
theorem xB {a:Nat}:b63 a=true↔a < 9223372036854775808:=v5
theorem yU {n:Nat}{x:Nd}{q:Prop}(hn:zT n=true) (hw:x.wl) (hl:x.lv < 256) (hi:x.ix < 4294967296) (h:x.ok→q):hd n x (Is (nI (x.fe n))) q:=by
 obtain⟨n1,n2⟩:=xc hn
 unfold hd
 rw[Nd.nf_e hw]
 simp only[zo,ze,show lt1 n=true↔n < 1 from qM,bf (show lt1 n=true↔n < 1 from qM),show gtM n=true↔4096 < n from qM,bf (show gtM n=true↔4096 < n from qM),Bool.not_eq_true',Bool.not_eq_false',bf vV,vV,xB]
 refine⟨fun h=>by omega,fun _=>⟨fun h=>by omega,fun _=>⟨fun he=>Is.of ?_,fun he=>⟨by omega,by omega,h ?_⟩⟩⟩⟩
 ·have hk:¬ x.ok:=fun hk=>he (if_pos hk)
  unfold Nd.fe
  rw[if_neg hk,show x.e=1 from if_neg hk]
 ·exact Classical.byContradiction fun hk=>by rw[show x.e=1 from if_neg hk] at he; cases he
theorem zeD {n:Nat}{x:Nd}(hk:x.ok) (h:¬ x.fits n):x.fe n=17:=by unfold Nd.fe; rw[if_pos hk,if_neg h]
theorem zEH {n:Nat}{x:Nd}(h:x.fits n):x.fe n=0:=by unfold Nd.fe; rw[if_pos h.1,if_pos h]
theorem zcI {n:Nat}{x:Nd}(hk:x.ok) (hs:isS n x.lv x.ix=true):∀ k,k≤3→(∀ i,zw n x.lv x.ix≤i→i < 4 - k→(x.rc i).zero∧(x.en i).zero)→zw n x.lv x.ix≤4 - k→rst x (Is (nI (x.fe n))) k
 | 0,_,h,_=>Is.of (by rw[zEH ⟨hk,hs,fun i hi hp=>h i hp (by omega)⟩])
 | k + 1,hk3,h,hp=>by
  show alt (!(x.rc (Nat.sub 3 k)).zb) (Is (nI (x.fe n)) (nI 17)) (alt (!(x.en (Nat.sub 3 k)).zb) (Is (nI (x.fe n)) (nI 17)) (rst x (Is (nI (x.fe n))) k))
  have hi3:Nat.sub 3 k < 4:=by show 3 - k < 4; omega
  have hip:zw n x.lv x.ix≤Nat.sub 3 k:=by show _≤3 - k; omega
  simp only[zo,Bool.not_eq_true',Bool.not_eq_false',bf Rc.zb_t,Rc.zb_t,bf En.zb_t,En.zb_t]
  refine⟨fun h1=>Is.of ?_,fun h1=>⟨fun h2=>Is.of ?_,fun h2=>zcI hk hs k (by omega) (fun i hi hi2=>?_) (by omega)⟩⟩
  ·rw[zeD hk fun hf=>h1 (hf.2.2 _ hi3 hip).1]
  ·rw[zeD hk fun hf=>h2 (hf.2.2 _ hi3 hip).2]
  ·by_cases e:i=Nat.sub 3 k
   ·rw[e]; exact⟨h1,h2⟩
   ·exact h i hi (by have:i≠3 - k:=e; omega)
theorem w9 {n l i:Nat}(hn:zT n=true) (h:isS n l i=true):1≤zw n l i∧zw n l i≤4:=by
 obtain⟨n1,n2⟩:=xc hn
 obtain⟨m,rfl⟩:∃ m,n=Nat.succ m:=⟨n - 1,by omega⟩
 have hm:m < 24:=by omega
 have hl:l < 3:=by
  refine Classical.byContradiction fun hl=>?_
  obtain⟨k,rfl⟩:∃ k,l=Nat.add k 3:=⟨l - 3,by show l=l - 3 + 3; omega⟩
  rw[qa,VC m k hm] at h
  omega
 have hc:=Z9 m l hm hl
 have hi:=qa.1 h
 have hd:∀ m:Fin 24,∀ l:Fin 3,∀ i:Fin 6,isS (Nat.succ m.1) l.1 i.1=true→1≤zw (Nat.succ m.1) l.1 i.1∧zw (Nat.succ m.1) l.1 i.1≤4:=by decide
 exact hd ⟨m,hm⟩ ⟨l,hl⟩ ⟨i,by omega⟩ h
def zqp:zg:=fun l K=>la2 l fun a v=>jg a fun n=>Vf v fun x=>(zT n=true∧x.lv < 256∧x.ix < 4294967296)∧K (nI (x.fe n))
def zA0 (n:Nat) (x:Nd):Prop:=zT n=true∧x.lv < 256∧x.ix < 4294967296
theorem zj0 {α:Type}{fid:FuncId}(hf:JU fid) {on:KV→(α→Prop)→Prop}{k:α→KV}{W:α→Prop}{sp:Nat→α→KV}{pre:Nat→α→Prop}
  (hon:∀ v f,on v f→∃ x,W x∧Imp v.v (k x).v∧f x) (hr:∀ N x,xl (sp N x).v=true)
  (h:∀ N x,W x→pre N x→∃ E:KEnv,KOk E∧E.P=Tryz.prog∧∃ n,zn E (zu E n) 0 fid [nI N,k x] .e 0 0 fun r _ _ _=>Imp r.v (sp N x).v):KCS Tryz.prog fid (fun l K=>la2 l fun a v=>jg a fun N=>on v fun x=>pre N x∧K (sp N x)):=by
 refine zhu hf fun l K hs=>?_
 obtain⟨a,v,rfl,h0⟩:=X4 hs
 obtain⟨N,rfl,h1⟩:=xz h0
 obtain⟨x,w,hi,hp,hk⟩:=hon _ _ h1
 obtain⟨E,hE,hP,n,hc⟩:=h N x w hp
 refine⟨E,hE,hP,n,fun r=>Imp r.v (sp N x).v,sp N x,[nI N,k x],hk,hr N x,fun r hr=>hr,fun C m hm=>?_,hc⟩
 exact Imp.cons (Imp.refl _) (Imp.cons hi (Imp.refl _)) C m hm
theorem zv7:KCS Tryz.prog 123 zqp:=zj0 (pre:=zA0) ⟨Tryz.f123,Tryz.func123,by kernel_rfl,by kernel_rfl⟩ (fun v f h=>w6 h) (fun _ x=>rfl) fun n x w hp=>by
 obtain⟨hn,hl,hi⟩:=hp
 cases hs:isS n x.lv x.ix with
 | false =>
  refine⟨zeC,zv2,rfl,60,?_⟩
  show zsW n x (Is (nI (x.fe n)))
  rw[zAV]
  exact yU hn w hl hi fun hk=>⟨⟨hn,hs⟩,Is.of (by rw[zeD hk fun hf=>by rw[hf.2.1] at hs; cases hs])⟩
 | true =>
  obtain⟨p1,p2⟩:=w9 hn hs
  refine⟨zqn (zw n x.lv x.ix),zAS _,rfl,60,?_⟩
  show zjZ (zw n x.lv x.ix) n x (Is (nI (x.fe n)))
  have key:∀ p k,zw n x.lv x.ix=p→p=4 - k→k≤3→x.ok→cP p n x∧rst x (Is (nI (x.fe n))) k:=fun p k h1 h2 h3 hk=>⟨⟨hn,hs,h1⟩,zcI hk hs k h3 (fun i hi hi2=>by omega) (by omega)⟩
  have h4:zw n x.lv x.ix=1∨zw n x.lv x.ix=2∨zw n x.lv x.ix=3∨zw n x.lv x.ix=4:=by omega
  rcases h4 with h | h | h | h<;>rw[h]
  ·rw[zv3]; exact yU hn w hl hi (key 1 3 h rfl (by omega))
  ·rw[zv4]; exact yU hn w hl hi (key 2 2 h rfl (by omega))
  ·rw[zv5]; exact yU hn w hl hi (key 3 1 h rfl (by omega))
  ·rw[zv6]; exact yU hn w hl hi (key 4 0 h rfl (by omega))
theorem zA1:KCS Tryz.prog 58 zqp:=zj0 (pre:=zA0) ⟨Tryz.f58,Tryz.func58,by kernel_rfl,by kernel_rfl⟩ (fun v f h=>w6 h) (fun _ x=>rfl) fun n x w hp=>by
 obtain⟨hn,hl,hi⟩:=hp
 cases hs:isS n x.lv x.ix with
 | false =>
  refine⟨zqo,zAT,rfl,60,?_⟩
  show zAU n x (Is (nI (x.fe n)))
  rw[zEG]
  exact yU hn w hl hi fun hk=>⟨⟨hn,hs⟩,Is.of (by rw[zeD hk fun hf=>by rw[hf.2.1] at hs; cases hs])⟩
 | true =>
  obtain⟨p1,p2⟩:=w9 hn hs
  refine⟨E58 (zw n x.lv x.ix),zEF _,rfl,60,?_⟩
  show p58 (zw n x.lv x.ix) n x (Is (nI (x.fe n)))
  have key:∀ p k,zw n x.lv x.ix=p→p=4 - k→k≤3→x.ok→h2 n x p (rst x (Is (nI (x.fe n))) k):=fun p k h1 h2 h3 hk=>⟨⟨hn,hs⟩,ze.2 ⟨xB.2 (by omega),ze.2 ⟨xB.2 (by omega),⟨hn,hs,h1⟩,zcI hk hs k h3 (fun i hi hi2=>by omega) (by omega)⟩⟩⟩
  have h4:zw n x.lv x.ix=1∨zw n x.lv x.ix=2∨zw n x.lv x.ix=3∨zw n x.lv x.ix=4:=by omega
  rcases h4 with h | h | h | h<;>rw[h]
  ·rw[zAW]; exact yU hn w hl hi (key 1 3 h rfl (by omega))
  ·rw[zAX]; exact yU hn w hl hi (key 2 2 h rfl (by omega))
  ·rw[zAY]; exact yU hn w hl hi (key 3 1 h rfl (by omega))
  ·rw[zAZ]; exact yU hn w hl hi (key 4 0 h rfl (by omega))
def zz3:zg:=fun l K=>la1 l fun v=>Vf v fun x=>x.ok∧K (nI 0)
def zz4:zg:=fun l K=>la1 l fun v=>QC v fun x=>x.ok∧K (nI 0)
def zz5:zg:=fun l K=>la1 l fun v=>QD v fun x=>x.ok∧K (nI 0)
def lsF (n:Nat) (f:Nat→Nat):List Nat:=@Nat.rec (fun _=>Nat→List Nat) (fun _=>[]) (fun _ ih i=>f i::ih (Nat.succ i)) n 0
def apL (l m:List Nat):List Nat:=@List.rec Nat (fun _=>List Nat) m (fun x _ ih=>x::ih) l
def P32 (a:Nat):List Nat:=[Nat.mod (Nat.div (Nat.mod a 18446744073709551616) 16777216) 256,Nat.mod (Nat.div (Nat.mod a 18446744073709551616) 65536) 256,Nat.mod (Nat.div (Nat.mod a 18446744073709551616) 256) 256,Nat.mod (Nat.div (Nat.mod a 18446744073709551616) 1) 256]
def P64 (a:Nat):List Nat:=[Nat.mod (Nat.div a 72057594037927936) 256,Nat.mod (Nat.div a 281474976710656) 256,Nat.mod (Nat.div a 1099511627776) 256,Nat.mod (Nat.div a 4294967296) 256,Nat.mod (Nat.div a 16777216) 256,Nat.mod (Nat.div a 65536) 256,Nat.mod (Nat.div a 256) 256,Nat.mod (Nat.div a 1) 256]
def ziA (p64:Nat→List Nat) (m:List Nat) (L tot j:Nat):Nat:=@Bool.rec (fun _=>Nat) (@Bool.rec (fun _=>Nat) (@Bool.rec (fun _=>Nat) (nN (p64 (Nat.mul 8 L)) (Nat.sub j (Nat.sub tot 8))) 0 (Nat.blt j (Nat.sub tot 8))) 128 (Nat.beq j L)) (nN m j) (Nat.blt j L)
def zfJ (p64:Nat→List Nat) (m:List Nat) (L tot k:Nat):List Nat:=lsF 64 fun i=>ziA p64 m L tot (Nat.add (Nat.mul 64 k) i)
def zz6:List Nat:=[1779033703,3144134277,1013904242,2773480762,1359893119,2600822924,528734635,1541459225]
def stL (cp:CP) (p64:Nat→List Nat) (m:List Nat) (L tot:Nat) (k:Nat):List Nat:=@Nat.rec (fun _=>List Nat) zz6 (fun k ih=>lsF 8 fun i=>cp ih (zfJ p64 m L tot k) i) k
def jK (cp:CP) (p32 p64:Nat→List Nat) (m:List Nat) (L nb:Nat):List Nat:=lsF 32 fun j=>nN (p32 (nN (stL cp p64 m L (Nat.mul 64 nb) nb) (Nat.div j 4))) (Nat.mod j 4)
def rcL (p32 p64:Nat→List Nat) (r:Rc):List Nat:=r.st::apL (p32 r.sh) (apL (p64 r.ct) (lsF 32 (nN r.tg)))
def enL (r:En):List Nat:=r.st::lsF 32 (nN r.dg)
def ZZ (px p32 p64:Nat→List Nat) (x:Nd):List Nat:=x.lv::apL (px x.ix) (apL (rcL p32 p64 (x.rc 0)) (apL (rcL p32 p64 (x.rc 1)) (apL (rcL p32 p64 (x.rc 2)) (rcL p32 p64 (x.rc 3)))))
def wG (px:Nat→List Nat) (x:Nd):List Nat:=x.lv::apL (px x.ix) (apL (enL (x.en 0)) (apL (enL (x.en 1)) (apL (enL (x.en 2)) (enL (x.en 3)))))
def zbj (cp:CP):KEnv:=EO0.tab [(192,zz3),(125,zz4),(247,zz5),(276,sCp cp)]
def tQ (L:List Nat) (r:KV):Prop:=Wj (fun l=>onC l fun a r=>onC r fun e r2=>onE r2 (kvb e (nI 0)=true∧byQ 32 L a)) (BadN 930) r
def zsF (cp:CP) (x:Nd) (L:List Nat):Prop:=zn (zbj cp) (zu (zbj cp) 300) 0 158 [({ x with lv:=0 }:Nd).k] .e 0 0 fun r _ _ _=>tQ L r
def qL (L:List Nat):Prop:=true=true∧true=true∧L=L
def z0 (x:Nd):Nd:={ x with lv:=0 }
theorem zz7 (cp:CP) (x:Nd):zsF cp x (jK cp P32 P64 (ZZ P32 P32 P64 (z0 x)) 185 4)=((z0 x).nf.ok∧(x.rc 0).nf.ok∧(x.rc 1).nf.ok∧(x.rc 2).nf.ok∧(x.rc 3).nf.ok∧qL (jK cp P32 P64 (ZZ P32 P32 P64 (z0 x)) 185 4)):=by kernel_rfl
def s1 (l:Nat) (x:Nd):Nd:={ x with lv:=Nat.succ l }
def zes (cp:CP) (l:Nat) (x:Nd) (L:List Nat):Prop:=zn (zbj cp) (zu (zbj cp) 300) 0 158 [(s1 l x).k] .e 0 0 fun r _ _ _=>tQ L r
theorem zu0 (cp:CP) (x:Nd):zes cp 0 x (jK cp P32 P64 (wG P32 (s1 0 x)) 137 3)=((s1 0 x).nf.ok∧(x.en 0).nf.ok∧(x.en 1).nf.ok∧(x.en 2).nf.ok∧(x.en 3).nf.ok∧qL (jK cp P32 P64 (wG P32 (s1 0 x)) 137 3)):=by kernel_rfl
theorem zu1 (cp:CP) (x:Nd):zes cp 1 x (jK cp P32 P64 (wG P32 (s1 1 x)) 137 3)=((s1 1 x).nf.ok∧(x.en 0).nf.ok∧(x.en 1).nf.ok∧(x.en 2).nf.ok∧(x.en 3).nf.ok∧qL (jK cp P32 P64 (wG P32 (s1 1 x)) 137 3)):=by kernel_rfl
def lsO (c:KV) (off n:Nat):List Nat:=@Nat.rec (fun _=>Nat→List Nat) (fun _=>[]) (fun _ ih i=>ntK c i::ih (Nat.succ i)) n off
def isO (off n:Nat) (c:KV):Bool:=nd (arK c) (zpW (fun i=>isI .u8 (xb (Nat.add off i) c)) n)
def zz8 (cp:CP):zg:=fun l K=>la2 l fun x y=>chk (isA .u32 8 x) 900 (Jy (fun u cl e off len c=>chk (nd (va e) (nd (Nat.beq len 64) (isO off 64 c))) 902 (K (kAr 8 (yH 0) fun i=>yH (cp (lsK x 8) (lsO c off 64) i)))) (BadN 903) y)
def rr (a:Nat):Nat:=Nat.mod (Nat.mod a 256) 256
def dd (a:Nat):Nat:=Nat.mod (Nat.div a 256) 18446744073709551616
def R32 (a:Nat):List Nat:=[rr (dd (dd (dd (Nat.mod a 18446744073709551616)))),rr (dd (dd (Nat.mod a 18446744073709551616))),rr (dd (Nat.mod a 18446744073709551616)),rr (Nat.mod a 18446744073709551616)]
def R64 (a:Nat):List Nat:=[rr (dd (dd (dd (dd (dd (dd (dd a))))))),rr (dd (dd (dd (dd (dd (dd a)))))),rr (dd (dd (dd (dd (dd a))))),rr (dd (dd (dd (dd a)))),rr (dd (dd (dd a))),rr (dd (dd a)),rr (dd a),rr a]
def S32 (a:Nat):List Nat:=[Nat.mod (Nat.div a 16777216) 256,Nat.mod (Nat.div a 65536) 256,Nat.mod (Nat.div a 256) 256,Nat.mod a 256]
def E55 (cp:CP):KEnv:=EO0.tab [(190,zz8 cp)]
def zz9 (cp:CP) (x:Nd) (L:List Nat):Prop:=zn (E55 cp) (zu (E55 cp) 300) 0 55 [(z0 x).k] .e 0 0 fun r _ _ _=>byQ 32 L r
def zu2 (cp:CP) (l:Nat) (x:Nd) (L:List Nat):Prop:=zn (E55 cp) (zu (E55 cp) 300) 0 55 [(s1 l x).k] .e 0 0 fun r _ _ _=>byQ 32 L r
def qB (L:List Nat):Prop:=true=true∧L=L
theorem zEg (cp:CP) (x:Nd):zz9 cp x (jK cp R32 R64 (ZZ S32 R32 R64 (z0 x)) 185 4)=qB (jK cp R32 R64 (ZZ S32 R32 R64 (z0 x)) 185 4):=by kernel_rfl
theorem zAa (cp:CP) (l:Nat) (x:Nd):zu2 cp l x (jK cp R32 R64 (wG S32 (s1 l x)) 137 3)=qB (jK cp R32 R64 (wG S32 (s1 l x)) 137 3):=by kernel_rfl
end
end Go.K
