/- Numbers of qF. No condition. -/
import Derived.Test.YtkllahedaiddgaaGreatDoorPT
import Derived.Test.YtkllahedaiddgaaGreatDoorKS3
import Derived.Test.YtkllahedaiddgaaGreatDoorAE1
import Derived.Test.YtkllahedaiddgaaGreatDoorK25
set_option linter.unusedSimpArgs false
set_option linter.unusedVariables false
set_option maxRecDepth 100000
namespace Go.K
open Go.Ab Go.RowKit Go.Y Go.Proofs
noncomputable section
attribute [local instance 10000] gO
theorem KCS.imp {P:Program}{f:FuncId}{s s':zh}(h:KCS P f s) (hs:∀ l K,s' l K→s l K):KCS P f s':=⟨h.1,fun l K hk=>h.2 l K (hs l K hk)⟩
def on3 (l:List KV) (f:Nat→Nat→Nat→Prop):Prop:=la3 l fun a b c=>z6 a fun n=>z6 b fun l=>z6 c fun i=>f n l i
theorem Js {l:List KV}{f:Nat→Nat→Nat→Prop}(h:on3 l f):∃ n m i,l=[nI n,nI m,nI i]∧f n m i:=by
 obtain⟨a,b,c,rfl,h0⟩:=ZU h
 obtain⟨n,rfl,h1⟩:=zu h0
 obtain⟨l,rfl,h2⟩:=zu h1
 obtain⟨i,rfl,h3⟩:=zu h2
 exact⟨n,l,i,rfl,h3⟩
def sPp (p:Nat):zh:=fun l K=>on3 l fun n l i=>(zC n=true∧isS n l i=true∧zx n l i=p)∧K (Jv p 0)
def sPe:zh:=fun l K=>on3 l fun n l i=>(zC n=true∧isS n l i=false)∧K (Jv 0 1)
def sQp (p:Nat):zh:=fun l K=>on3 l fun n l i=>(zC n=true∧isS n l i=true∧zx n l i=p)∧K (nI p)
def sIp (b:Bool):zh:=fun l K=>on3 l fun n l i=>(zC n=true∧isS n l i=b)∧K (.bool b)
theorem kPp (p:Nat):KCS Tryz.prog 193 (sPp p):=zi6.imp fun l K h=>by
 obtain⟨n,l,i,rfl,⟨h1,h2,h3⟩,h4⟩:=Js h
 show chk (zC n) 921 (K (@Bool.rec (fun _=>KV) (Jv 0 1) (zi3 n l i) (isS n l i)))
 rw[h1,h2]
 show K (Jv (zx n l i) 0)
 rw[h3]; exact h4
theorem kPe:KCS Tryz.prog 193 sPe:=zi6.imp fun l K h=>by
 obtain⟨n,l,i,rfl,⟨h1,h2⟩,h4⟩:=Js h
 show chk (zC n) 921 (K (@Bool.rec (fun _=>KV) (Jv 0 1) (zi3 n l i) (isS n l i)))
 rw[h1,h2]
 exact h4
theorem kQp (p:Nat):KCS Tryz.prog 117 (sQp p):=zi7.imp fun l K h=>by
 obtain⟨n,l,i,rfl,⟨h1,h2,h3⟩,h4⟩:=Js h
 show chk (nd (zC n) (isS n l i)) 922 (K _)
 rw[h1,h2,h3]; exact h4
theorem kIp (b:Bool):KCS Tryz.prog 124 (sIp b):=zsP.imp fun l K h=>by
 obtain⟨n,l,i,rfl,⟨h1,h2⟩,h4⟩:=Js h
 show chk (zC n) 921 (K (@Bool.rec (fun _=>KV) (.bool false) (zmM n l i) (isS n l i)))
 rw[h1,h2]
 cases b<;>exact h4
def zmu (p:Nat):KEnv:=EO0.tab [(192,zba),(193,sPp p)]
def zeh:KEnv:=EO0.tab [(192,zba),(193,sPe)]
def E58 (p:Nat):KEnv:=EO0.tab [(60,zba),(124,sIp true),(117,sQp p)]
def zmv:KEnv:=EO0.tab [(60,zba),(124,sIp false)]
theorem zwS (p:Nat):KOk (zmu p):=zr.tab ⟨zcs,kPp p,trivial⟩
theorem zr6:KOk zeh:=zr.tab ⟨zcs,kPe,trivial⟩
theorem zCf (p:Nat):KOk (E58 p):=zr.tab ⟨zbb,kIp true,kQp p,trivial⟩
theorem zwT:KOk zmv:=zr.tab ⟨zbb,kIp false,trivial⟩
def Nd.nf (x:Nd):Nd:=⟨x.lv,x.ix,c4 (x.rc 0).nf (x.rc 1).nf (x.rc 2).nf (x.rc 3).nf,c4 (x.en 0).nf (x.en 1).nf (x.en 2).nf (x.en 3).nf⟩
theorem zo0 {α:Type}{f g:Nat→α}(h:∀ i,i < 4→g i=f i):∀ i,i < 4→c4 (g 0) (g 1) (g 2) (g 3) i=f i
 | 0,_=>h 0 (by omega)
 | 1,_=>h 1 (by omega)
 | 2,_=>h 2 (by omega)
 | 3,_=>h 3 (by omega)
 | n + 4,h=>by omega
theorem Nd.nf_rc' {x:Nd}(h:x.wl):∀ i,i < 4→x.nf.rc i=x.rc i:=zo0 (g:=fun i=>(x.rc i).nf) fun i hi=>Rc.nf_eq (h.1 i hi)
theorem Nd.nf_en' {x:Nd}(h:x.wl):∀ i,i < 4→x.nf.en i=x.en i:=zo0 (g:=fun i=>(x.en i).nf) fun i hi=>En.nf_eq (h.2 i hi)
theorem Nd.ok_congr {x y:Nd}(h1:x.lv=y.lv) (h2:∀ i,i < 4→x.rc i=y.rc i) (h3:∀ i,i < 4→x.en i=y.en i):x.ok↔y.ok:=by
 have a:∀ P:Rc→Prop,(∀ i,i < 4→P (x.rc i))↔∀ i,i < 4→P (y.rc i):=fun P=>⟨fun h i hi=>by rw[←h2 i hi]; exact h i hi,fun h i hi=>by rw[h2 i hi]; exact h i hi⟩
 have b:∀ P:En→Prop,(∀ i,i < 4→P (x.en i))↔∀ i,i < 4→P (y.en i):=fun P=>⟨fun h i hi=>by rw[←h3 i hi]; exact h i hi,fun h i hi=>by rw[h3 i hi]; exact h i hi⟩
 unfold Nd.ok
 rw[h1,a Rc.zero,a Rc.ok,b En.zero,b En.ok]
theorem Nd.nf_e {x:Nd}(h:x.wl):x.nf.e=x.e:=by
 have:=Nd.ok_congr (x:=x.nf) (y:=x) rfl (Nd.nf_rc' h) (Nd.nf_en' h)
 unfold Nd.e
 by_cases hk:x.ok
 ·rw[if_pos hk,if_pos (this.2 hk)]
 ·rw[if_neg hk,if_neg fun h=>hk (this.1 h)]
def Nd.fits (n:Nat) (x:Nd):Prop:=x.ok∧isS n x.lv x.ix=true∧∀ i,i < 4→zx n x.lv x.ix≤i→(x.rc i).zero∧(x.en i).zero
open Classical in
def Nd.fe (n:Nat) (x:Nd):Nat:=if x.ok then (if x.fits n then 0 else 17) else 1
def b63 (a:Nat):Bool:=Nat.blt a 9223372036854775808
def lt1 (n:Nat):Bool:=ltI (.ofNat n) (.ofNat 1)
def gtM (n:Nat):Bool:=ltI (.ofNat 4096) (.ofNat n)
def rst (x:Nd) (K:KV→Prop) (k:Nat):Prop:=@Nat.rec (fun _=>Prop) (K (nI 0)) (fun k ih=>alt (!(x.rc (Nat.sub 3 k)).zb) (K (nI 17)) (alt (!(x.en (Nat.sub 3 k)).zb) (K (nI 17)) ih)) k
def hd (n:Nat) (x:Nd) (K:KV→Prop) (q:Prop):Prop:=alt (lt1 n) (K (nI 1)) (alt (gtM n) (K (nI 1)) (alt (!eZ x.nf.e) (K (nI x.nf.e)) (cnd (b63 x.lv) (cnd (b63 x.ix) q))))
def zo1 (n:Nat) (x:Nd) (K:KV→Prop):Prop:=zi zeh (zj zeh 60) 0 123 [nI n,x.k] .e 0 0 fun r _ _ _=>K r
def ziE (p:Nat) (n:Nat) (x:Nd) (K:KV→Prop):Prop:=zi (zmu p) (zj (zmu p) 60) 0 123 [nI n,x.k] .e 0 0 fun r _ _ _=>K r
def zwU (n:Nat) (x:Nd) (K:KV→Prop):Prop:=zi zmv (zj zmv 60) 0 58 [nI n,x.k] .e 0 0 fun r _ _ _=>K r
def p58 (p:Nat) (n:Nat) (x:Nd) (K:KV→Prop):Prop:=zi (E58 p) (zj (E58 p) 60) 0 58 [nI n,x.k] .e 0 0 fun r _ _ _=>K r
def cP (p n:Nat) (x:Nd):Prop:=zC n=true∧isS n x.lv x.ix=true∧zx n x.lv x.ix=p
def cI (b:Bool) (n:Nat) (x:Nd):Prop:=zC n=true∧isS n x.lv x.ix=b
theorem zwV (n:Nat) (x:Nd) (K:KV→Prop):zo1 n x K=hd n x K (cI false n x∧K (nI 17)):=by kernel_rfl
theorem zCg (n:Nat) (x:Nd) (K:KV→Prop):zwU n x K=hd n x K (cI false n x∧K (nI 17)):=by kernel_rfl
theorem zr7 (n:Nat) (x:Nd) (K:KV→Prop):ziE 1 n x K=hd n x K (cP 1 n x∧rst x K 3):=by kernel_rfl
theorem zr8 (n:Nat) (x:Nd) (K:KV→Prop):ziE 2 n x K=hd n x K (cP 2 n x∧rst x K 2):=by kernel_rfl
theorem zr9 (n:Nat) (x:Nd) (K:KV→Prop):ziE 3 n x K=hd n x K (cP 3 n x∧rst x K 1):=by kernel_rfl
theorem zsa (n:Nat) (x:Nd) (K:KV→Prop):ziE 4 n x K=hd n x K (cP 4 n x∧rst x K 0):=by kernel_rfl
def h2 (n:Nat) (x:Nd) (p:Nat) (q:Prop):Prop:=cI true n x∧cnd (b63 x.lv) (cnd (b63 x.ix) (cP p n x∧q))
theorem zwW (n:Nat) (x:Nd) (K:KV→Prop):p58 1 n x K=hd n x K (h2 n x 1 (rst x K 3)):=by kernel_rfl
theorem zwX (n:Nat) (x:Nd) (K:KV→Prop):p58 2 n x K=hd n x K (h2 n x 2 (rst x K 2)):=by kernel_rfl
theorem zwY (n:Nat) (x:Nd) (K:KV→Prop):p58 3 n x K=hd n x K (h2 n x 3 (rst x K 1)):=by kernel_rfl
theorem zwZ (n:Nat) (x:Nd) (K:KV→Prop):p58 4 n x K=hd n x K (h2 n x 4 (rst x K 0)):=by kernel_rfl
theorem zH {a:Nat}:b63 a=true↔a < 9223372036854775808:=xZ
theorem yH {n:Nat}{x:Nd}{q:Prop}(hn:zC n=true) (hw:x.wl) (hl:x.lv < 256) (hi:x.ix < 4294967296) (h:x.ok→q):hd n x (Is (nI (x.fe n))) q:=by
 obtain⟨n1,n2⟩:=zR hn
 unfold hd
 rw[Nd.nf_e hw]
 simp only[zg,za,show lt1 n=true↔n < 1 from jS,bf (show lt1 n=true↔n < 1 from jS),show gtM n=true↔4096 < n from jS,bf (show gtM n=true↔4096 < n from jS),Bool.not_eq_true',Bool.not_eq_false',bf yn,yn,zH]
 refine⟨fun h=>by omega,fun _=>⟨fun h=>by omega,fun _=>⟨fun he=>Is.of ?_,fun he=>⟨by omega,by omega,h ?_⟩⟩⟩⟩
 ·have hk:¬ x.ok:=fun hk=>he (if_pos hk)
  unfold Nd.fe
  rw[if_neg hk,show x.e=1 from if_neg hk]
 ·exact Classical.byContradiction fun hk=>by rw[show x.e=1 from if_neg hk] at he; cases he
theorem zei {n:Nat}{x:Nd}(hk:x.ok) (h:¬ x.fits n):x.fe n=17:=by unfold Nd.fe; rw[if_pos hk,if_neg h]
theorem zw0 {n:Nat}{x:Nd}(h:x.fits n):x.fe n=0:=by unfold Nd.fe; rw[if_pos h.1,if_pos h]
theorem zck {n:Nat}{x:Nd}(hk:x.ok) (hs:isS n x.lv x.ix=true):∀ k,k≤3→(∀ i,zx n x.lv x.ix≤i→i < 4 - k→(x.rc i).zero∧(x.en i).zero)→zx n x.lv x.ix≤4 - k→rst x (Is (nI (x.fe n))) k
 | 0,_,h,_=>Is.of (by rw[zw0 ⟨hk,hs,fun i hi hp=>h i hp (by omega)⟩])
 | k + 1,hk3,h,hp=>by
  show alt (!(x.rc (Nat.sub 3 k)).zb) (Is (nI (x.fe n)) (nI 17)) (alt (!(x.en (Nat.sub 3 k)).zb) (Is (nI (x.fe n)) (nI 17)) (rst x (Is (nI (x.fe n))) k))
  have hi3:Nat.sub 3 k < 4:=by show 3 - k < 4; omega
  have hip:zx n x.lv x.ix≤Nat.sub 3 k:=by show _≤3 - k; omega
  simp only[zg,Bool.not_eq_true',Bool.not_eq_false',bf Rc.zb_t,Rc.zb_t,bf En.zb_t,En.zb_t]
  refine⟨fun h1=>Is.of ?_,fun h1=>⟨fun h2=>Is.of ?_,fun h2=>zck hk hs k (by omega) (fun i hi hi2=>?_) (by omega)⟩⟩
  ·rw[zei hk fun hf=>h1 (hf.2.2 _ hi3 hip).1]
  ·rw[zei hk fun hf=>h2 (hf.2.2 _ hi3 hip).2]
  ·by_cases e:i=Nat.sub 3 k
   ·rw[e]; exact⟨h1,h2⟩
   ·exact h i hi (by have:i≠3 - k:=e; omega)
theorem y7 {n l i:Nat}(hn:zC n=true) (h:isS n l i=true):1≤zx n l i∧zx n l i≤4:=by
 obtain⟨n1,n2⟩:=zR hn
 obtain⟨m,rfl⟩:∃ m,n=Nat.succ m:=⟨n - 1,by omega⟩
 have hm:m < 24:=by omega
 have hl:l < 3:=by
  refine Classical.byContradiction fun hl=>?_
  obtain⟨k,rfl⟩:∃ k,l=Nat.add k 3:=⟨l - 3,by show l=l - 3 + 3; omega⟩
  rw[ZS,Vm m k hm] at h
  omega
 have hc:=ZT m l hm hl
 have hi:=ZS.1 h
 have hd:∀ m:Fin 24,∀ l:Fin 3,∀ i:Fin 6,isS (Nat.succ m.1) l.1 i.1=true→1≤zx (Nat.succ m.1) l.1 i.1∧zx (Nat.succ m.1) l.1 i.1≤4:=by decide
 exact hd ⟨m,hm⟩ ⟨l,hl⟩ ⟨i,by omega⟩ h
def zw1:zh:=fun l K=>la2 l fun a v=>z6 a fun n=>qj v fun x=>(zC n=true∧x.lv < 256∧x.ix < 4294967296)∧K (nI (x.fe n))
def zw2 (n:Nat) (x:Nd):Prop:=zC n=true∧x.lv < 256∧x.ix < 4294967296
theorem ziF {α:Type}{fid:FuncId}(hf:Q4 fid) {on:KV→(α→Prop)→Prop}{k:α→KV}{W:α→Prop}{sp:Nat→α→KV}{pre:Nat→α→Prop}
  (hon:∀ v f,on v f→∃ x,W x∧Imp v.v (k x).v∧f x) (hr:∀ N x,zA (sp N x).v=true)
  (h:∀ N x,W x→pre N x→∃ E:KEnv,KOk E∧E.P=Tryz.prog∧∃ n,zi E (zj E n) 0 fid [nI N,k x] .e 0 0 fun r _ _ _=>Imp r.v (sp N x).v):KCS Tryz.prog fid (fun l K=>la2 l fun a v=>z6 a fun N=>on v fun x=>pre N x∧K (sp N x)):=by
 refine zbR hf fun l K hs=>?_
 obtain⟨a,v,rfl,h0⟩:=ju hs
 obtain⟨N,rfl,h1⟩:=zu h0
 obtain⟨x,w,hi,hp,hk⟩:=hon _ _ h1
 obtain⟨E,hE,hP,n,hc⟩:=h N x w hp
 refine⟨E,hE,hP,n,fun r=>Imp r.v (sp N x).v,sp N x,[nI N,k x],hk,hr N x,fun r hr=>hr,fun C m hm=>?_,hc⟩
 exact Imp.cons (Imp.refl _) (Imp.cons hi (Imp.refl _)) C m hm
theorem ziG:KCS Tryz.prog 123 zw1:=ziF (pre:=zw2) ⟨Tryz.f123,Tryz.func123,by kernel_rfl,by kernel_rfl⟩ (fun v f h=>XA h) (fun _ x=>rfl) fun n x w hp=>by
 obtain⟨hn,hl,hi⟩:=hp
 cases hs:isS n x.lv x.ix with
 | false =>
  refine⟨zeh,zr6,rfl,60,?_⟩
  show zo1 n x (Is (nI (x.fe n)))
  rw[zwV]
  exact yH hn w hl hi fun hk=>⟨⟨hn,hs⟩,Is.of (by rw[zei hk fun hf=>by rw[hf.2.1] at hs; cases hs])⟩
 | true =>
  obtain⟨p1,p2⟩:=y7 hn hs
  refine⟨zmu (zx n x.lv x.ix),zwS _,rfl,60,?_⟩
  show ziE (zx n x.lv x.ix) n x (Is (nI (x.fe n)))
  have key:∀ p k,zx n x.lv x.ix=p→p=4 - k→k≤3→x.ok→cP p n x∧rst x (Is (nI (x.fe n))) k:=fun p k h1 h2 h3 hk=>⟨⟨hn,hs,h1⟩,zck hk hs k h3 (fun i hi hi2=>by omega) (by omega)⟩
  have h4:zx n x.lv x.ix=1∨zx n x.lv x.ix=2∨zx n x.lv x.ix=3∨zx n x.lv x.ix=4:=by omega
  rcases h4 with h | h | h | h<;>rw[h]
  ·rw[zr7]; exact yH hn w hl hi (key 1 3 h rfl (by omega))
  ·rw[zr8]; exact yH hn w hl hi (key 2 2 h rfl (by omega))
  ·rw[zr9]; exact yH hn w hl hi (key 3 1 h rfl (by omega))
  ·rw[zsa]; exact yH hn w hl hi (key 4 0 h rfl (by omega))
theorem zo2:KCS Tryz.prog 58 zw1:=ziF (pre:=zw2) ⟨Tryz.f58,Tryz.func58,by kernel_rfl,by kernel_rfl⟩ (fun v f h=>XA h) (fun _ x=>rfl) fun n x w hp=>by
 obtain⟨hn,hl,hi⟩:=hp
 cases hs:isS n x.lv x.ix with
 | false =>
  refine⟨zmv,zwT,rfl,60,?_⟩
  show zwU n x (Is (nI (x.fe n)))
  rw[zCg]
  exact yH hn w hl hi fun hk=>⟨⟨hn,hs⟩,Is.of (by rw[zei hk fun hf=>by rw[hf.2.1] at hs; cases hs])⟩
 | true =>
  obtain⟨p1,p2⟩:=y7 hn hs
  refine⟨E58 (zx n x.lv x.ix),zCf _,rfl,60,?_⟩
  show p58 (zx n x.lv x.ix) n x (Is (nI (x.fe n)))
  have key:∀ p k,zx n x.lv x.ix=p→p=4 - k→k≤3→x.ok→h2 n x p (rst x (Is (nI (x.fe n))) k):=fun p k h1 h2 h3 hk=>⟨⟨hn,hs⟩,za.2 ⟨zH.2 (by omega),za.2 ⟨zH.2 (by omega),⟨hn,hs,h1⟩,zck hk hs k h3 (fun i hi hi2=>by omega) (by omega)⟩⟩⟩
  have h4:zx n x.lv x.ix=1∨zx n x.lv x.ix=2∨zx n x.lv x.ix=3∨zx n x.lv x.ix=4:=by omega
  rcases h4 with h | h | h | h<;>rw[h]
  ·rw[zwW]; exact yH hn w hl hi (key 1 3 h rfl (by omega))
  ·rw[zwX]; exact yH hn w hl hi (key 2 2 h rfl (by omega))
  ·rw[zwY]; exact yH hn w hl hi (key 3 1 h rfl (by omega))
  ·rw[zwZ]; exact yH hn w hl hi (key 4 0 h rfl (by omega))
def zv6:zh:=fun l K=>la1 l fun v=>qj v fun x=>x.ok∧K (nI 0)
def zv7:zh:=fun l K=>la1 l fun v=>y6 v fun x=>x.ok∧K (nI 0)
def zv8:zh:=fun l K=>la1 l fun v=>Qg v fun x=>x.ok∧K (nI 0)
def lsF (n:Nat) (f:Nat→Nat):List Nat:=@Nat.rec (fun _=>Nat→List Nat) (fun _=>[]) (fun _ ih i=>f i::ih (Nat.succ i)) n 0
def apL (l m:List Nat):List Nat:=@List.rec Nat (fun _=>List Nat) m (fun x _ ih=>x::ih) l
def P32 (a:Nat):List Nat:=[Nat.mod (Nat.div (Nat.mod a 18446744073709551616) 16777216) 256,Nat.mod (Nat.div (Nat.mod a 18446744073709551616) 65536) 256,Nat.mod (Nat.div (Nat.mod a 18446744073709551616) 256) 256,Nat.mod (Nat.div (Nat.mod a 18446744073709551616) 1) 256]
def P64 (a:Nat):List Nat:=[Nat.mod (Nat.div a 72057594037927936) 256,Nat.mod (Nat.div a 281474976710656) 256,Nat.mod (Nat.div a 1099511627776) 256,Nat.mod (Nat.div a 4294967296) 256,Nat.mod (Nat.div a 16777216) 256,Nat.mod (Nat.div a 65536) 256,Nat.mod (Nat.div a 256) 256,Nat.mod (Nat.div a 1) 256]
def zca (p64:Nat→List Nat) (m:List Nat) (L tot j:Nat):Nat:=@Bool.rec (fun _=>Nat) (@Bool.rec (fun _=>Nat) (@Bool.rec (fun _=>Nat) (nN (p64 (Nat.mul 8 L)) (Nat.sub j (Nat.sub tot 8))) 0 (Nat.blt j (Nat.sub tot 8))) 128 (Nat.beq j L)) (nN m j) (Nat.blt j L)
def zfM (p64:Nat→List Nat) (m:List Nat) (L tot k:Nat):List Nat:=lsF 64 fun i=>zca p64 m L tot (Nat.add (Nat.mul 64 k) i)
def zv9:List Nat:=[1779033703,3144134277,1013904242,2773480762,1359893119,2600822924,528734635,1541459225]
def stL (cp:CP) (p64:Nat→List Nat) (m:List Nat) (L tot:Nat) (k:Nat):List Nat:=@Nat.rec (fun _=>List Nat) zv9 (fun k ih=>lsF 8 fun i=>cp ih (zfM p64 m L tot k) i) k
def vD (cp:CP) (p32 p64:Nat→List Nat) (m:List Nat) (L nb:Nat):List Nat:=lsF 32 fun j=>nN (p32 (nN (stL cp p64 m L (Nat.mul 64 nb) nb) (Nat.div j 4))) (Nat.mod j 4)
def rcL (p32 p64:Nat→List Nat) (r:Rc):List Nat:=r.st::apL (p32 r.sh) (apL (p64 r.ct) (lsF 32 (nN r.tg)))
def enL (r:En):List Nat:=r.st::lsF 32 (nN r.dg)
def qS (px p32 p64:Nat→List Nat) (x:Nd):List Nat:=x.lv::apL (px x.ix) (apL (rcL p32 p64 (x.rc 0)) (apL (rcL p32 p64 (x.rc 1)) (apL (rcL p32 p64 (x.rc 2)) (rcL p32 p64 (x.rc 3)))))
def jX (px:Nat→List Nat) (x:Nd):List Nat:=x.lv::apL (px x.ix) (apL (enL (x.en 0)) (apL (enL (x.en 1)) (apL (enL (x.en 2)) (enL (x.en 3)))))
def zaW (cp:CP):KEnv:=EO0.tab [(192,zv6),(125,zv7),(247,zv8),(276,sCp cp)]
def tQ (L:List Nat) (r:KV):Prop:=QQ (fun l=>onC l fun a r=>onC r fun e r2=>onE r2 (kvb e (nI 0)=true∧byQ 32 L a)) (BadN 930) r
def zoC (cp:CP) (x:Nd) (L:List Nat):Prop:=zi (zaW cp) (zj (zaW cp) 300) 0 158 [({ x with lv:=0 }:Nd).k] .e 0 0 fun r _ _ _=>tQ L r
def qL (L:List Nat):Prop:=true=true∧true=true∧L=L
def z0 (x:Nd):Nd:={ x with lv:=0 }
theorem zwa (cp:CP) (x:Nd):zoC cp x (vD cp P32 P64 (qS P32 P32 P64 (z0 x)) 185 4)=((z0 x).nf.ok∧(x.rc 0).nf.ok∧(x.rc 1).nf.ok∧(x.rc 2).nf.ok∧(x.rc 3).nf.ok∧qL (vD cp P32 P64 (qS P32 P32 P64 (z0 x)) 185 4)):=by kernel_rfl
def s1 (l:Nat) (x:Nd):Nd:={ x with lv:=Nat.succ l }
def zd3 (cp:CP) (l:Nat) (x:Nd) (L:List Nat):Prop:=zi (zaW cp) (zj (zaW cp) 300) 0 158 [(s1 l x).k] .e 0 0 fun r _ _ _=>tQ L r
theorem zri (cp:CP) (x:Nd):zd3 cp 0 x (vD cp P32 P64 (jX P32 (s1 0 x)) 137 3)=((s1 0 x).nf.ok∧(x.en 0).nf.ok∧(x.en 1).nf.ok∧(x.en 2).nf.ok∧(x.en 3).nf.ok∧qL (vD cp P32 P64 (jX P32 (s1 0 x)) 137 3)):=by kernel_rfl
theorem zrj (cp:CP) (x:Nd):zd3 cp 1 x (vD cp P32 P64 (jX P32 (s1 1 x)) 137 3)=((s1 1 x).nf.ok∧(x.en 0).nf.ok∧(x.en 1).nf.ok∧(x.en 2).nf.ok∧(x.en 3).nf.ok∧qL (vD cp P32 P64 (jX P32 (s1 1 x)) 137 3)):=by kernel_rfl
def lsO (c:KV) (off n:Nat):List Nat:=@Nat.rec (fun _=>Nat→List Nat) (fun _=>[]) (fun _ ih i=>ntK c i::ih (Nat.succ i)) n off
def isO (off n:Nat) (c:KV):Bool:=nd (arK c) (zmo (fun i=>isI .u8 (zQ (Nat.add off i) c)) n)
def zwb (cp:CP):zh:=fun l K=>la2 l fun x y=>chk (isA .u32 8 x) 900 (Xu (fun u cl e off len c=>chk (nd (xF e) (nd (Nat.beq len 64) (isO off 64 c))) 902 (K (kAr 8 (je 0) fun i=>je (cp (lsK x 8) (lsO c off 64) i)))) (BadN 903) y)
def rr (a:Nat):Nat:=Nat.mod (Nat.mod a 256) 256
def dd (a:Nat):Nat:=Nat.mod (Nat.div a 256) 18446744073709551616
def R32 (a:Nat):List Nat:=[rr (dd (dd (dd (Nat.mod a 18446744073709551616)))),rr (dd (dd (Nat.mod a 18446744073709551616))),rr (dd (Nat.mod a 18446744073709551616)),rr (Nat.mod a 18446744073709551616)]
def R64 (a:Nat):List Nat:=[rr (dd (dd (dd (dd (dd (dd (dd a))))))),rr (dd (dd (dd (dd (dd (dd a)))))),rr (dd (dd (dd (dd (dd a))))),rr (dd (dd (dd (dd a)))),rr (dd (dd (dd a))),rr (dd (dd a)),rr (dd a),rr a]
def S32 (a:Nat):List Nat:=[Nat.mod (Nat.div a 16777216) 256,Nat.mod (Nat.div a 65536) 256,Nat.mod (Nat.div a 256) 256,Nat.mod a 256]
def E55 (cp:CP):KEnv:=EO0.tab [(190,zwb cp)]
def zwc (cp:CP) (x:Nd) (L:List Nat):Prop:=zi (E55 cp) (zj (E55 cp) 300) 0 55 [(z0 x).k] .e 0 0 fun r _ _ _=>byQ 32 L r
def zrk (cp:CP) (l:Nat) (x:Nd) (L:List Nat):Prop:=zi (E55 cp) (zj (E55 cp) 300) 0 55 [(s1 l x).k] .e 0 0 fun r _ _ _=>byQ 32 L r
def qB (L:List Nat):Prop:=true=true∧L=L
theorem zBD (cp:CP) (x:Nd):zwc cp x (vD cp R32 R64 (qS S32 R32 R64 (z0 x)) 185 4)=qB (vD cp R32 R64 (qS S32 R32 R64 (z0 x)) 185 4):=by kernel_rfl
theorem zwd (cp:CP) (l:Nat) (x:Nd):zrk cp l x (vD cp R32 R64 (jX S32 (s1 l x)) 137 3)=qB (vD cp R32 R64 (jX S32 (s1 l x)) 137 3):=by kernel_rfl
end
end Go.K
set_option maxRecDepth 100000
namespace Go.K
open Go.Ab Go.RowKit Go.Y Go.Proofs
noncomputable section
theorem vR {f:Nat→Nat}:∀ {n i:Nat},i < n→nN (lsF n f) i=f i:=by
 have h:∀(n s i:Nat),i < n→nN (@Nat.rec (fun _=>Nat→List Nat) (fun _=>[]) (fun _ ih i=>f i::ih (Nat.succ i)) n s) i=f (s + i):=by
  intro n
  induction n with
  | zero=>intro s i h; omega
  | succ n ih =>
   intro s i h
   cases i with
   | zero=>rfl
   | succ i =>
    show nN (@Nat.rec (fun _=>Nat→List Nat) (fun _=>[]) (fun _ ih i=>f i::ih (Nat.succ i)) n (Nat.succ s)) i=_
    rw[ih (Nat.succ s) i (by omega),show Nat.succ s + i=s + (i + 1) by omega]
 intro n i hi
 have:=h n 0 i hi
 rwa [Nat.zero_add] at this
theorem vE {f:Nat→Nat}(n:Nat):(lsF n f).length=n:=by
 have h:∀(n s:Nat),(@Nat.rec (fun _=>Nat→List Nat) (fun _=>[]) (fun _ ih i=>f i::ih (Nat.succ i)) n s).length=n:=by
  intro n
  induction n with
  | zero=>intro s; rfl
  | succ n ih=>intro s; show (_::_).length=_; rw[List.length_cons,ih]
 exact h n 0
theorem qT {f g:Nat→Nat}{n:Nat}(h:∀ i,i < n→f i=g i):lsF n f=lsF n g :=
 Yv (by rw[vE,vE]) fun i hi=>by
  rw[vE] at hi
  rw[vR hi,vR hi,h i hi]
theorem xV {l:List Nat}{B:Nat}(hB:0 < B) (h:∀ x∈l,x < B):∀ i,nN l i < B:=by
 intro i
 induction l generalizing i with
 | nil=>exact hB
 | cons x l ih =>
  cases i with
  | zero=>exact h x List.mem_cons_self
  | succ i=>exact ih (fun y hy=>h y (List.mem_cons_of_mem _ hy)) i
theorem zmg {h h' b b':Nat→Nat}(h1:∀ i,i < 8→h i=h' i) (h2:∀ i,i < 64→b i=b' i) {j:Nat}(hj:j < 8):S.comp h b j=S.comp h' b' j:=by
 have e1:S.stOf h=S.stOf h':=by
  unfold S.stOf
  rw[h1 0 (by omega),h1 1 (by omega),h1 2 (by omega),h1 3 (by omega),h1 4 (by omega),h1 5 (by omega),h1 6 (by omega),h1 7 (by omega)]
 have e2:S.sched b=S.sched b':=by
  funext j
  unfold S.sched
  rw[SR.gL_congr (ld':=S.load32 b') (nw':=S.nextW) (fun t ht=>by
   rw[SR.l1,SR.l1,h2 _ (by omega),h2 _ (by omega),h2 _ (by omega),h2 _ (by omega)]) (fun _ _ _ _=>rfl) 64]
 unfold S.comp
 rw[h1 j hj,e1,e2]
theorem zmh {h h' b b':Nat→Nat}(h1:∀ i,i < 8→h i=h' i) (h2:∀ i,i < 64→b i=b' i) {j:Nat}(hj:j < 8):R.comp h b j=R.comp h' b' j:=by
 have e1:S.stOf h=S.stOf h':=by
  unfold S.stOf
  rw[h1 0 (by omega),h1 1 (by omega),h1 2 (by omega),h1 3 (by omega),h1 4 (by omega),h1 5 (by omega),h1 6 (by omega),h1 7 (by omega)]
 have e2:R.sched b=R.sched b':=by
  funext j
  unfold R.sched
  rw[SR.gL_congr (ld':=R.load32 b') (nw':=R.nextW) (fun t ht=>by
   rw[SR.l2,SR.l2,h2 _ (by omega),h2 _ (by omega),h2 _ (by omega),h2 _ (by omega)]) (fun _ _ _ _=>rfl) 64]
 unfold R.comp
 rw[h1 j hj,e1,e2]
def cfS:CP:=fun h b i=>S.comp (nN h) (nN b) i
def cfR:CP:=fun h b i=>R.comp (nN h) (nN b) i
theorem Ya:KCS Tryz.prog 276 (sCp cfS):=by
 have hc:=zep
 refine⟨hc.1,fun l K hs=>?_⟩
 obtain⟨x,y,rfl,h1⟩:=ju hs
 obtain⟨h2,h3⟩:=ze h1
 obtain⟨h4,h5⟩:=ze h3
 obtain⟨f,hf,hfa,hfi⟩:=zeb h2
 obtain⟨g,hg,hga,hgi⟩:=zeb h4
 refine⟨_,h5,fun B μ nx mx l0 hl=>?_⟩
 have hcall:=vd (B:=B) (μ:=μ) (nx:=nx) (mx:=mx) gnL hc rfl hl (by
  rw[jH,List.map_cons,List.map_cons,List.map_nil,hf,hg]
  show (qk .u32 8 f&&qk .u8 64 g)=true
  rw[hfa,hga]; rfl)
 rw[jH,List.map_cons,List.map_cons,List.map_nil,hf,hg] at hcall
 refine hcall.imp ?_ (MImp.refl _) (Nat.le_refl _) (Nat.le_refl _)
 refine qV fun i hi=>?_
 show wV .u32 (S.comp (fun i=>xK (f i)) (fun i=>xK (g i)) i)=_
 rw[zmg (h':=nN (lsK x 8)) (b':=nN (lsK y 64)) (fun i hi=>by rw[ZP x 8 i hi,hfi i]; rfl) (fun i hi=>by rw[ZP y 64 i hi,hgi i]; rfl) hi]
 rfl
theorem zd6 (x:KV) (off:Nat):∀(n i:Nat),i < n→nN (lsO x off n) i=ntK x (off + i):=by
 have h:∀(n s i:Nat),i < n→nN (@Nat.rec (fun _=>Nat→List Nat) (fun _=>[]) (fun _ ih i=>ntK x i::ih (Nat.succ i)) n s) i=ntK x (s + i):=by
  intro n
  induction n with
  | zero=>intro s i h; omega
  | succ n ih =>
   intro s i h
   cases i with
   | zero=>rfl
   | succ i =>
    show nN (@Nat.rec (fun _=>Nat→List Nat) (fun _=>[]) (fun _ ih i=>ntK x i::ih (Nat.succ i)) n (Nat.succ s)) i=_
    rw[ih (Nat.succ s) i (by omega),show Nat.succ s + i=s + (i + 1) by omega]
 exact fun n i hi=>h n off i hi
theorem zmi:KCS Tryz.prog 190 (zwb cfR):=by
 have hc:=zeq
 refine⟨hc.1,fun l K hs=>?_⟩
 obtain⟨x,y,rfl,h1⟩:=ju hs
 obtain⟨h2,h3⟩:=ze h1
 obtain⟨f,hf,hfa,hfi⟩:=zeb h2
 rcases xJ h3 with ⟨u,cl,e,off,len,c,rfl,h7⟩ | ⟨_,h7⟩
 ·obtain⟨h8,h5⟩:=ze h7
  obtain⟨h10,h11⟩:=zd.1 h8
  obtain⟨h12,h13⟩:=zd.1 h11
  obtain rfl:=jB h10
  obtain rfl:=zI h12
  obtain⟨h14,h15⟩:=zd.1 h13
  obtain⟨m,g,hv,hg⟩:=we h14
  have hga:qk .u8 64 (fun i=>g (off + i))=true:=List.all_eq_true.2 fun i hi=>by
   show Go.Y.isW .u8 (g (off + i))=true
   rw[hg (off + i)]
   exact zoR (Jp h15 i (List.mem_range.1 hi))
  have hro:(KV.ro u cl .sc off 64 c).v=.ro u cl .sc 64 fun i=>g (off + i):=by
   rw[Xx]
   congr 1
   funext i
   rw[hv]; rfl
  refine⟨_,h5,fun B μ nx mx l0 hl=>?_⟩
  have hcall:=vd (B:=B) (μ:=μ) (nx:=nx) (mx:=mx) gnL hc rfl hl (by
   rw[jH,List.map_cons,List.map_cons,List.map_nil,hf,hro]
   show (qk .u32 8 f&&qk .u8 64 fun i=>g (off + i))=true
   rw[hfa,hga]; rfl)
  rw[jH,List.map_cons,List.map_cons,List.map_nil,hf,hro] at hcall
  refine hcall.imp ?_ (MImp.refl _) (Nat.le_refl _) (Nat.le_refl _)
  refine qV fun i hi=>?_
  show wV .u32 (R.comp (fun i=>xK (f i)) (fun i=>xK (g (off + i))) i)=_
  rw[zmh (h':=nN (lsK x 8)) (b':=nN (lsO c off 64)) (fun i hi=>by rw[ZP x 8 i hi,hfi i]; rfl) (fun i hi=>by rw[zd6 c off 64 i hi,hg (off + i)]; rfl) hi]
  rfl
 ·exact h7.elim
end
end Go.K
set_option maxRecDepth 100000
namespace Go.K
open Go.Ab Go.RowKit Go.Y Go.Proofs
noncomputable section
attribute [local instance 10000] gO
def Rc.wb (x:Rc):Prop:=x.st < 256∧x.sh < 4294967296∧x.ct < 18446744073709551616∧∀ b∈x.tg,b < 256
def En.wb (x:En):Prop:=x.st < 256∧∀ b∈x.dg,b < 256
def Nd.wb (x:Nd):Prop:=x.lv < 256∧x.ix < 4294967296∧(∀ i,i < 4→(x.rc i).wb)∧∀ i,i < 4→(x.en i).wb
theorem zne (a b:Nat):Nat.mod a b=a % b:=rfl
theorem znf (a b:Nat):Nat.div a b=a / b:=rfl
theorem XE {a:Nat}(h:a < 4294967296):R32 a=P32 a:=by
 unfold R32 P32 rr dd
 simp only[zne,znf]
 refine List.cons_eq_cons.2 ⟨by omega,List.cons_eq_cons.2 ⟨by omega,List.cons_eq_cons.2 ⟨by omega,List.cons_eq_cons.2 ⟨by omega,rfl⟩⟩⟩⟩
theorem zjS {a:Nat}(h:a < 4294967296):S32 a=P32 a:=by
 unfold S32 P32
 simp only[zne,znf]
 refine List.cons_eq_cons.2 ⟨by omega,List.cons_eq_cons.2 ⟨by omega,List.cons_eq_cons.2 ⟨by omega,List.cons_eq_cons.2 ⟨by omega,rfl⟩⟩⟩⟩
theorem JB {a:Nat}(h:a < 18446744073709551616):dd a=a / 256:=by
 unfold dd
 simp only[zne,znf]; omega
theorem Yx {a:Nat}(h:a < 18446744073709551616):R64 a=P64 a:=by
 have d1:dd a=a / 256:=JB h
 have d2:dd (dd a)=a / 65536:=by rw[d1,JB (by omega)]; omega
 have d3:dd (dd (dd a))=a / 16777216:=by rw[d2,JB (by omega)]; omega
 have d4:dd (dd (dd (dd a)))=a / 4294967296:=by rw[d3,JB (by omega)]; omega
 have d5:dd (dd (dd (dd (dd a))))=a / 1099511627776:=by rw[d4,JB (by omega)]; omega
 have d6:dd (dd (dd (dd (dd (dd a)))))=a / 281474976710656:=by rw[d5,JB (by omega)]; omega
 have d7:dd (dd (dd (dd (dd (dd (dd a))))))=a / 72057594037927936:=by rw[d6,JB (by omega)]; omega
 unfold R64 P64
 rw[d7,d6,d5,d4,d3,d2,d1]
 unfold rr
 simp only[zne,znf,Nat.mod_mod,Nat.div_one]
theorem Yy {x:Rc}(h:x.wb):rcL R32 R64 x=rcL P32 P64 x:=by
 unfold rcL; rw[XE h.2.1,Yx h.2.2.1]
theorem zeP {x:Nd}(h:x.wb):qS S32 R32 R64 x=qS P32 P32 P64 x:=by
 unfold qS
 rw[zjS h.2.1,Yy (h.2.2.1 0 (by omega)),Yy (h.2.2.1 1 (by omega)),Yy (h.2.2.1 2 (by omega)),Yy (h.2.2.1 3 (by omega))]
theorem Yz {x:Nd}(h:x.wb):jX S32 x=jX P32 x:=by
 unfold jX
 rw[zjS h.2.1]
theorem zT {l m:List Nat}{B:Nat}(h1:∀ x∈l,x < B) (h2:∀ x∈m,x < B):∀ x∈apL l m,x < B:=by
 induction l with
 | nil=>exact h2
 | cons y l ih =>
  intro x hx
  rcases List.mem_cons.1 (show x∈y::apL l m from hx) with rfl | h
  ·exact h1 _ List.mem_cons_self
  ·exact ih (fun z hz=>h1 z (List.mem_cons_of_mem _ hz)) x h
theorem xy {f:Nat→Nat}{B n:Nat}(h:∀ i,i < n→f i < B):∀ x∈lsF n f,x < B:=by
 intro x hx
 obtain⟨i,hi,rfl⟩:=List.getElem_of_mem hx
 have hi':i < n:=by rw[←vE (f:=f) n]; exact hi
 have e:nN (lsF n f) i=(lsF n f)[i]:=by
  have:∀(l:List Nat) (i:Nat) (h:i < l.length),nN l i=l[i]:=by
   intro l
   induction l with
   | nil=>intro i h; simp at h
   | cons y l ih=>intro i h; cases i with
    | zero=>rfl
    | succ i=>exact ih i (by simpa using h)
  exact this _ _ hi
 rw[←e,vR hi']
 exact h i hi'
theorem jF (a:Nat):∀ x∈P32 a,x < 256:=by
 intro x hx
 unfold P32 at hx
 simp only[List.mem_cons,List.not_mem_nil,or_false] at hx
 rcases hx with rfl | rfl | rfl | rfl<;>exact Nat.mod_lt _ (by omega)
theorem Vo (a:Nat):∀ x∈P64 a,x < 256:=by
 intro x hx
 unfold P64 at hx
 simp only[List.mem_cons,List.not_mem_nil,or_false] at hx
 rcases hx with rfl | rfl | rfl | rfl | rfl | rfl | rfl | rfl<;>exact Nat.mod_lt _ (by omega)
theorem Z5 {l:List Nat}{a B:Nat}(h:a < B) (h2:∀ x∈l,x < B):∀ x∈a::l,x < B:=by
 intro x hx
 rcases List.mem_cons.1 hx with rfl | h3
 ·exact h
 ·exact h2 x h3
theorem YA {x:Rc}(h:x.wb):∀ b∈rcL P32 P64 x,b < 256 :=
 Z5 h.1 (zT (jF _) (zT (Vo _) (xy fun i _=>xV (by omega) h.2.2.2 i)))
theorem YB {x:En}(h:x.wb):∀ b∈enL x,b < 256:=Z5 h.1 (xy fun i _=>xV (by omega) h.2 i)
theorem zng {x:Nd}(h:x.wb):∀ b∈qS P32 P32 P64 x,b < 256 :=
 Z5 h.1 (zT (jF _) (zT (YA (h.2.2.1 0 (by omega))) (zT (YA (h.2.2.1 1 (by omega))) (zT (YA (h.2.2.1 2 (by omega))) (YA (h.2.2.1 3 (by omega)))))))
theorem zeQ {x:Nd}(h:x.wb):∀ b∈jX P32 x,b < 256 :=
 Z5 h.1 (zT (jF _) (zT (YB (h.2.2.2 0 (by omega))) (zT (YB (h.2.2.2 1 (by omega))) (zT (YB (h.2.2.2 2 (by omega))) (YB (h.2.2.2 3 (by omega)))))))
theorem ztT {m:List Nat}{L tot j:Nat}(h:∀ b∈m,b < 256):zca P64 m L tot j < 256:=by
 unfold zca
 cases Nat.blt j L with
 | true=>exact xV (by omega) h j
 | false =>
  cases Nat.beq j L with
  | true=>show 128 < 256; omega
  | false =>
   cases Nat.blt j (Nat.sub tot 8) with
   | true=>show 0 < 256; omega
   | false=>exact xV (by omega) (Vo _) _
theorem ztU {m:List Nat}{L tot k:Nat}(hL:L < 2305843009213693952):zfM R64 m L tot k=zfM P64 m L tot k:=by
 unfold zfM zca
 rw[Yx (a:=Nat.mul 8 L) (by show 8 * L < _; omega)]
theorem zzq {h b:List Nat}{i:Nat}(hb:∀ j,j < 64→nN b j < 256):cfR h b i=cfS h b i:=(SR.comp_eq hb i).symm
theorem zjT (a b:Nat):S.add32 a b < 4294967296:=Nat.mod_lt _ (by omega)
theorem zzr (h b:List Nat) (i:Nat):cfS h b i < 4294967296:=by
 unfold cfS S.comp
 exact zjT _ _
theorem JC (cp:CP) (p32 p64:Nat→List Nat) (m:List Nat) (L nb:Nat):(vD cp p32 p64 m L nb).length=32:=vE 32
theorem Vp (cp:CP) (p64:Nat→List Nat) (m:List Nat) (L nb:Nat):∀ b∈vD cp P32 p64 m L nb,b < 256:=xy fun i _=>xV (by omega) (jF _) _
attribute [local irreducible] cfS cfR zca vD
theorem stS (cp:CP) (p:Nat→List Nat) (m:List Nat) (L tot k:Nat):stL cp p m L tot (k + 1)=lsF 8 fun i=>cp (stL cp p m L tot k) (zfM p m L tot k) i:=rfl
theorem zzs {m:List Nat}{L tot:Nat}(hL:L < 2305843009213693952) (h:∀ b∈m,b < 256) (k:Nat):stL cfR R64 m L tot k=stL cfS P64 m L tot k:=by
 induction k with
 | zero=>rfl
 | succ k ih =>
  rw[stS,stS,ih,ztU hL]
  refine qT fun i hi=>zzq fun j hj=>?_
  unfold zfM
  rw[vR hj]
  exact ztT h
theorem ztV:∀ x∈zv9,x < 4294967296:=by decide
theorem zzt {p:Nat→List Nat}{m:List Nat}{L tot:Nat}(k i:Nat):nN (stL cfS p m L tot k) i < 4294967296:=by
 cases k with
 | zero=>exact xV (by omega) ztV i
 | succ k =>
  rw[stS]
  exact xV (by omega) (xy fun i hi=>zzr _ _ _) i
theorem JD {m:List Nat}{L nb:Nat}(hL:L < 2305843009213693952) (h:∀ b∈m,b < 256):vD cfR R32 R64 m L nb=vD cfS P32 P64 m L nb:=by
 unfold vD
 refine qT fun j hj=>?_
 rw[zzs hL h,XE (zzt _ _)]
def Nd.dg (x:Nd):List Nat:=@Nat.rec (fun _=>List Nat) (vD cfS P32 P64 (qS P32 P32 P64 x) 185 4) (fun _ _=>vD cfS P32 P64 (jX P32 x) 137 3) x.lv
theorem ztW (x:Nd):x.dg.length=32:=by
 unfold Nd.dg
 cases x.lv with
 | zero=>exact JC _ _ _ _ _ _
 | succ n=>exact JC _ _ _ _ _ _
theorem zzu (x:Nd):∀ b∈x.dg,b < 256:=by
 unfold Nd.dg
 cases x.lv with
 | zero=>exact Vp _ _ _ _ _
 | succ n=>exact Vp _ _ _ _ _
theorem zjU {n:Nat}{L:List Nat}{r:KV}(h:byQ n L r):Imp r.v (kBy n (nN L)).v:=by
 rw[←h.2]
 exact XU h.1
theorem zzv {L:List Nat}{r:KV}(h:tQ L r):Imp r.v (KV.tup (.cons (kBy 32 (nN L)) (.cons (nI 0) .nl))).v:=by
 rcases ya h with ⟨l,rfl,h1⟩ | ⟨_,h1⟩
 ·obtain⟨a,r,rfl,h2⟩:=jv h1
  obtain⟨e,r2,rfl,h3⟩:=jv h2
  obtain⟨rfl,h4,h5⟩:=Jq h3
  obtain rfl:=vC h4
  exact Imp.tup (Imp.cons (zjU h5) (Imp.refl _))
 ·exact h1.elim
theorem wO {v:KV}{f g:KV→KV→Prop}(h:onC v f) (H:∀ a b,f a b→g a b):onC v g:=by
 obtain⟨a,b,rfl,h1⟩:=jv h
 exact (show g a b from H a b h1)
theorem Q6 {k:IntKind}{v:KV}{f g:Nat→Prop}(h:onN k v f) (H:∀ n,f n→g n):onN k v g:=by
 unfold onN at h ⊢
 rcases zz h with ⟨k',a,rfl,h1⟩ | ⟨_,h1⟩
 ·obtain⟨h2,h3⟩:=ze h1
  show chk (xa k' k) 910 _
  rw[h2]
  cases a with
  | ofNat n=>exact H n h3
  | negSucc n=>exact h3
 ·exact h1.elim
theorem zeR {v:KV}{p q:Prop}(h:onE v p) (H:p→q):onE v q:=by
 obtain⟨rfl,h1⟩:=Jq h
 exact (show q from H h1)
theorem zpz {c:Bool}{n:Nat}{p q:Prop}(h:chk c n p) (H:p→q):chk c n q:=by
 obtain⟨h1,h2⟩:=ze h
 rw[h1]; exact H h2
theorem zjV {n:Nat}{v:KV}{f g:List Nat→Prop}(h:ziv n v f) (H:∀ l,f l→g l):ziv n v g:=zpz h (H _)
theorem zjW {v:KV}{f g:Rc→Prop}(h:y6 v f) (H:∀ x,f x→g x):y6 v g:=by
 unfold y6 at h ⊢
 refine wO h fun _ _ h=>?_
 refine Q6 h fun _ h=>?_
 refine wO h fun _ _ h=>?_
 refine wO h fun _ _ h=>?_
 refine Q6 h fun _ h=>?_
 refine wO h fun _ _ h=>?_
 refine Q6 h fun _ h=>?_
 refine zeR h fun h=>?_
 refine wO h fun _ _ h=>?_
 refine zjV h fun _ h=>?_
 exact zeR h fun h=>H _ h
theorem zjX {v:KV}{f g:En→Prop}(h:Qg v f) (H:∀ x,f x→g x):Qg v g:=by
 unfold Qg at h ⊢
 refine wO h fun _ _ h=>?_
 refine Q6 h fun _ h=>?_
 refine wO h fun _ _ h=>?_
 refine zjV h fun _ h=>?_
 exact zeR h fun h=>H _ h
theorem zpA {α:Type}{on:KV→(α→Prop)→Prop}(hon:∀ v (f g:α→Prop),on v f→(∀ x,f x→g x)→on v g) {v:KV}{f g:(Nat→α)→Prop}(h:on4 on v f) (H:∀ x,f x→g x):on4 on v g:=by
 unfold on4 at h ⊢
 refine zpz h fun h=>?_
 refine hon _ _ _ h fun _ h=>?_
 refine hon _ _ _ h fun _ h=>?_
 refine hon _ _ _ h fun _ h=>?_
 exact hon _ _ _ h fun _ h=>H _ h
attribute [local irreducible] y6 Qg on4 in
theorem zjY {v:KV}{f g:Nd→Prop}(h:qj v f) (H:∀ x,f x→g x):qj v g:=by
 unfold qj at h ⊢
 refine wO h fun _ _ h=>?_
 refine Q6 h fun lv h=>?_
 refine wO h fun _ _ h=>?_
 refine Q6 h fun ix h=>?_
 refine wO h fun _ _ h=>?_
 refine zpA (on:=y6) (fun v f g h H=>zjW h H) h fun rc h=>?_
 refine wO h fun _ _ h=>?_
 refine zpA (on:=Qg) (fun v f g h H=>zjX h H) h fun en h=>?_
 exact zeR h (H ⟨lv,ix,rc,en⟩)
theorem zDR:KCS Tryz.prog 192 zv6:=zcs.imp fun l K h=>by
 obtain⟨v,rfl,h1⟩:=j3 h
 show qj v fun x=>K (nI x.e)
 exact zjY h1 fun x hx=>by rw[show x.e=0 from if_pos hx.1]; exact hx.2
theorem zDS:KCS Tryz.prog 125 zv7:=Zc.imp fun l K h=>by
 obtain⟨v,rfl,h1⟩:=j3 h
 show y6 v fun x=>K (nI x.e)
 exact zjW h1 fun x hx=>by rw[Rc.e_t hx.1]; exact hx.2
theorem zDT:KCS Tryz.prog 247 zv8:=zcO.imp fun l K h=>by
 obtain⟨v,rfl,h1⟩:=j3 h
 show Qg v fun x=>K (nI x.e)
 exact zjX h1 fun x hx=>by rw[En.e_t hx.1]; exact hx.2
theorem zjZ:KOk (zaW cfS):=zr.tab ⟨zDR,zDS,zDT,Ya.opn,trivial⟩
theorem znh:KOk (E55 cfR):=zr.tab ⟨zmi.opn,trivial⟩
theorem zpB {α:Type}{fid:FuncId}(hf:Q4 fid) {on:KV→(α→Prop)→Prop}{k:α→KV}{W:α→Prop}{sp:α→KV}{pre:α→Prop}
  (hon:∀ v f,on v f→∃ x,W x∧Imp v.v (k x).v∧f x) (hr:∀ x,zA (sp x).v=true)
  (h:∀ x,W x→pre x→∃(E:KEnv) (n:Nat) (Q:KV→Prop),KOk E∧E.P=Tryz.prog∧(∀ r,Q r→Imp r.v (sp x).v)∧zi E (zj E n) 0 fid [k x] .e 0 0 fun r _ _ _=>Q r):KCS Tryz.prog fid (fun l K=>la1 l fun v=>on v fun x=>pre x∧K (sp x)):=by
 refine zbR hf fun l K hs=>?_
 obtain⟨v,rfl,h1⟩:=j3 hs
 obtain⟨x,w,hi,hp,hk⟩:=hon _ _ h1
 obtain⟨E,n,Q,hE,hP,hq,hc⟩:=h x w hp
 refine⟨E,hE,hP,n,Q,sp x,[k x],hk,hr x,hq,fun C m hm=>?_,hc⟩
 exact Imp.cons hi (Imp.refl _) C m hm
def zf5 (x:Nd):Prop:=x.ok∧x.lv≤2
def zzw:zh:=fun l K=>la1 l fun v=>qj v fun x=>zf5 x∧K (.tup (.cons (kBy 32 (nN x.dg)) (.cons (nI 0) .nl)))
theorem YC {x:Nd}(w:x.wl) (hk:x.ok) (h0:x.lv=0) {i:Nat}(hi:i < 4):(x.rc i).nf.ok:=by rw[Rc.nf_eq (w.1 i hi)]; exact (hk.2.1 h0).2 i hi
theorem wP {x:Nd}(w:x.wl) (hk:x.ok) (h0:x.lv≠0) {i:Nat}(hi:i < 4):(x.en i).nf.ok:=by rw[En.nf_eq (w.2 i hi)]; exact (hk.2.2 h0).2 i hi
theorem zj0 {x:Nd}(w:x.wl) (hk:x.ok):x.nf.ok:=(Nd.ok_congr (x:=x.nf) (y:=x) rfl (Nd.nf_rc' w) (Nd.nf_en' w)).2 hk
attribute [local irreducible] zi zj
theorem zj1:KCS Tryz.prog 158 zzw:=zpB (pre:=zf5) ⟨Tryz.f158,Tryz.func158,by kernel_rfl,by kernel_rfl⟩ (fun v f h=>XA h) (fun x=>rfl) fun x w hp=>by
 obtain⟨hk,hl⟩:=hp
 have fin:∀ L,x.dg=L→∀ r,tQ L r→Imp r.v (KV.tup (.cons (kBy 32 (nN x.dg)) (.cons (nI 0) .nl))).v:=fun L h r hr=>by rw[h]; exact zzv hr
 obtain⟨lv,ix,rc,en⟩:=x
 match lv,hl with
 | 0,_ =>
  have h:zoC cfS ⟨0,ix,rc,en⟩ (vD cfS P32 P64 (qS P32 P32 P64 (z0 ⟨0,ix,rc,en⟩)) 185 4):=Eq.mpr (zwa cfS ⟨0,ix,rc,en⟩) ⟨zj0 w hk,YC w hk rfl (by omega),YC w hk rfl (by omega),YC w hk rfl (by omega),YC w hk rfl (by omega),rfl,rfl,rfl⟩
  exact⟨zaW cfS,300,tQ _,zjZ,rfl,fin _ rfl,h⟩
 | 1,_ =>
  have h:zd3 cfS 0 ⟨1,ix,rc,en⟩ (vD cfS P32 P64 (jX P32 (s1 0 ⟨1,ix,rc,en⟩)) 137 3):=Eq.mpr (zri cfS ⟨1,ix,rc,en⟩) ⟨zj0 (x:=⟨1,ix,rc,en⟩) w hk,wP w hk (by simp) (by omega),wP w hk (by simp) (by omega),wP w hk (by simp) (by omega),wP w hk (by simp) (by omega),rfl,rfl,rfl⟩
  exact⟨zaW cfS,300,tQ _,zjZ,rfl,fin _ rfl,h⟩
 | 2,_ =>
  have h:zd3 cfS 1 ⟨2,ix,rc,en⟩ (vD cfS P32 P64 (jX P32 (s1 1 ⟨2,ix,rc,en⟩)) 137 3):=Eq.mpr (zrj cfS ⟨2,ix,rc,en⟩) ⟨zj0 (x:=⟨2,ix,rc,en⟩) w hk,wP w hk (by simp) (by omega),wP w hk (by simp) (by omega),wP w hk (by simp) (by omega),wP w hk (by simp) (by omega),rfl,rfl,rfl⟩
  exact⟨zaW cfS,300,tQ _,zjZ,rfl,fin _ rfl,h⟩
def zcP (x:Nd):Prop:=x.wb∧x.lv≤2
def zbm:zh:=fun l K=>la1 l fun v=>qj v fun x=>zcP x∧K (kBy 32 (nN x.dg))
theorem zbn:KCS Tryz.prog 55 zbm:=zpB (pre:=zcP) ⟨Tryz.f55,Tryz.func55,by kernel_rfl,by kernel_rfl⟩ (fun v f h=>XA h) (fun x=>rfl) fun x w hp=>by
 obtain⟨hb,hl⟩:=hp
 have fin:∀ L,x.dg=L→∀ r,byQ 32 L r→Imp r.v (kBy 32 (nN x.dg)).v:=fun L h r hr=>by rw[h]; exact zjU hr
 obtain⟨lv,ix,rc,en⟩:=x
 match lv,hl with
 | 0,_ =>
  have h:zwc cfR ⟨0,ix,rc,en⟩ (vD cfR R32 R64 (qS S32 R32 R64 (z0 ⟨0,ix,rc,en⟩)) 185 4):=Eq.mpr (zBD cfR ⟨0,ix,rc,en⟩) ⟨rfl,rfl⟩
  refine⟨E55 cfR,300,byQ 32 _,znh,rfl,fin _ ?_,h⟩
  rw[zeP (x:=z0 ⟨0,ix,rc,en⟩) hb,JD (by omega) (zng (x:=z0 ⟨0,ix,rc,en⟩) hb)]
  rfl
 | 1,_ =>
  have h:zrk cfR 0 ⟨1,ix,rc,en⟩ (vD cfR R32 R64 (jX S32 (s1 0 ⟨1,ix,rc,en⟩)) 137 3):=Eq.mpr (zwd cfR 0 ⟨1,ix,rc,en⟩) ⟨rfl,rfl⟩
  refine⟨E55 cfR,300,byQ 32 _,znh,rfl,fin _ ?_,h⟩
  rw[Yz (x:=s1 0 ⟨1,ix,rc,en⟩) hb,JD (by omega) (zeQ (x:=s1 0 ⟨1,ix,rc,en⟩) hb)]
  rfl
 | 2,_ =>
  have h:zrk cfR 1 ⟨2,ix,rc,en⟩ (vD cfR R32 R64 (jX S32 (s1 1 ⟨2,ix,rc,en⟩)) 137 3):=Eq.mpr (zwd cfR 1 ⟨2,ix,rc,en⟩) ⟨rfl,rfl⟩
  refine⟨E55 cfR,300,byQ 32 _,znh,rfl,fin _ ?_,h⟩
  rw[Yz (x:=s1 1 ⟨2,ix,rc,en⟩) hb,JD (by omega) (zeQ (x:=s1 1 ⟨2,ix,rc,en⟩) hb)]
  rfl
end
end Go.K
set_option maxRecDepth 100000
namespace Go.K
open Go.Ab Go.RowKit Go.Y Go.Proofs
noncomputable section
attribute [local instance 10000] gO
noncomputable def cOf (n:Nat):Code:=match Tryz.prog.funcs[n]? with
 | some fn=>match fn.body with
  | some c=>c
  | none=>.skip
 | none=>.skip
noncomputable def rOf (n:Nat):List ResultVar:=match Tryz.prog.funcs[n]? with
 | some fn=>fn.results.toList
 | none=>[]
noncomputable def mOf (n:Nat):Nat:=zeV.getD n 0
abbrev QT:=Exit→List KV→List (Option KBlk)→Nat→Prop
abbrev RT:=KV→List (Option KBlk)→Nat→Prop
noncomputable def bx (t:Nat) (s:Shape) (v:KV):KBlk:=⟨.box t,s,v⟩
def pc (E:KEnv) (f:Nat) (l:List Code) (lt li:List Nat) (s:LS) (Q:QT) (R:RT):Prop:=kpre E 60 (mOf f) l (vj s.1) (vK s.2.1) s.2.2 0 (zfw Tryz.prog (rOf f) lt li Q R)
noncomputable def vT:Shape:=.cons .sc (.cons (.cons .sc (.cons .sc .nl)) (.cons (.arr 32 .sc) .nl))
noncomputable def zCb:Shape:=.cons .sc (.cons (.arr 32 .sc) .nl)
noncomputable def Qh:Shape:=.cons .sc (.cons .sc (.cons (.arr 4 vT) (.cons (.arr 4 zCb) .nl)))
structure Un where
 nd:Nd
 sl:Int
 di:Bool
 ch:Nat→Bool
noncomputable def zo (n l j:Nat):Nat:=@Nat.rec (fun _=>Nat) j (fun k ih=>Nat.add ih (zE n k)) l
noncomputable def zr0:zh:=fun l K=>on3 l fun n l j=>(zC n=true∧l≤2∧j < 4294967296)∧K (nI (zo n l j))
noncomputable def zwO:zh:=fun l K=>on3 l fun n l i=>(zC n=true∧isS n l i=true)∧K (nI (zx n l i))
abbrev zfP:=KV→Prop
noncomputable def eqN (a b:Nat):Bool:=eqI (.ofNat a) (.ofNat b)
noncomputable def ltN (a b:Nat):Bool:=ltI (.ofNat a) (.ofNat b)
noncomputable def j4 (j w:Nat):Nat:=Nat.add (Nat.mul 4 j) w
noncomputable def eqB (n:Nat) (f g:Nat→Nat):Bool:=@Nat.rec (fun _=>Bool) true (fun i ih=>nd ih (eqN (f i) (g i))) n
noncomputable def En.eqb (a b:En):Bool:=nd (eqN a.st b.st) (nd (eqB 32 (nN a.dg) (nN b.dg)) true)
noncomputable def Un.stS (z:Un):Nat:=@Int.rec (fun _=>Nat) (fun a=>@Nat.rec (fun _=>Nat) (@Bool.rec (fun _=>Nat) 1 2 z.di) (fun _ _=>@Bool.rec (fun _=>Nat) 2 1 z.di) a) (fun _=>0) z.sl
def zAi (n l j:Nat):Prop:=zi EO0 (zj EO0 200) 0 82 [nI n,nI l,nI j] .e 0 0 fun r _ _ _=>r=nI (zo n l j)
def f82 (n l j:Nat):Prop:=@Nat.rec (fun _=>Prop→Prop) (fun q=>q) (fun k ih q=>ih (cnd (b63 (zo n (Nat.succ k) j)) q)) l (nI (zo n l j)=nI (zo n l j))
def zkm (j:Nat) (b:Bool):Prop:=xr (fun n=>xr (fun l=>@Bool.rec (fun _=>Prop) (f82 (Nat.succ n) l j) (zAi (Nat.succ n) l j) b) 3) 24
theorem e82 (j:Nat):zkm j true=zkm j false:=by kernel_rfl
theorem znu {n l:Nat}(hn:n < 24) (hl:l < 3):zE (Nat.succ n) l≤6:=ZT n l hn hl
theorem zus {n l j:Nat}(hn:n < 24) (hl:l≤3):zo (Nat.succ n) l j≤j + 6 * l:=by
 induction l with
 | zero=>exact Nat.le_refl _
 | succ l ih =>
  have h1:=ih (by omega)
  have h2:=znu hn (show l < 3 by omega)
  show Nat.add (zo (Nat.succ n) l j) (zE (Nat.succ n) l)≤_
  have:Nat.add (zo (Nat.succ n) l j) (zE (Nat.succ n) l)=zo (Nat.succ n) l j + zE (Nat.succ n) l:=rfl
  omega
theorem zc1 {P:Nat→Prop}:∀ {n:Nat},(∀ i,i < n→P i)→xr P n
 | 0,_=>trivial
 | n + 1,h=>⟨zc1 fun i hi=>h i (by omega),h n (by omega)⟩
theorem zAj {n j:Nat}(hn:n < 24) (hj:j < 4294967296) {l:Nat}(hl:l < 3):f82 (Nat.succ n) l j:=by
 have h:∀ k,k≤2→b63 (zo (Nat.succ n) k j)=true:=fun k hk=>zH.2 (by have:=zus (j:=j) hn (show k≤3 by omega); omega)
 match l,hl with
 | 0,_=>exact rfl
 | 1,_=>exact za.2 ⟨h 1 (by omega),rfl⟩
 | 2,_=>exact za.2 ⟨h 1 (by omega),za.2 ⟨h 2 (by omega),rfl⟩⟩
theorem znv:KCS Tryz.prog 82 zr0 :=
 xm ⟨Tryz.f82,Tryz.func82,by kernel_rfl,by kernel_rfl⟩ fun l K hs=>by
  obtain⟨n,l,j,rfl,⟨h1,h2,h3⟩,hk⟩:=Js hs
  obtain⟨n1,n2⟩:=zR h1
  obtain⟨m,rfl⟩:∃ m,n=Nat.succ m:=⟨n - 1,by omega⟩
  have hm:m < 24:=by omega
  exact⟨EO0,zr,rfl,200,fun r=>r=nI (zo (Nat.succ m) l j),_,hk,rfl,fun r hr=>by rw[hr]; exact Imp.refl _,zw (zw (Eq.mpr (e82 j) (zc1 fun i hi=>zc1 fun l hl=>zAj hi h3 hl):zkm j true) m hm) l (by omega)⟩
end
end Go.K
