/- Nodes, records, entries as data; the compression as a function of lists. No condition. -/
import Derived.Test.YtkllahedaiddgaaGreatDoorKSB
import Derived.Test.YtkllahedaiddgaaGreatDoorKL0
import Derived.Test.YtkllahedaiddgaaGreatDoorK21
import Derived.Test.YtkllahedaiddgaaGreatDoorK19
set_option linter.unusedSimpArgs false
set_option linter.unusedVariables false
set_option maxRecDepth 100000
namespace Go.K
open Go.Ab Go.RowKit Go.Y Go.Proofs
noncomputable section
def kU8 (a:Nat):KV:=.int .u8 (.ofNat a)
def zex (a:Nat):KV:=.int .u32 (.ofNat a)
def ztG (a:Nat):KV:=.int .u64 (.ofNat a)
def kAr (n:Nat) (d:KV) (f:Nat→KV):KV:=.ar n d (@Nat.rec (fun _=>KV) .te (fun i t=>vm (f i) (enc i) t) n)
def kBy (n:Nat) (f:Nat→Nat):KV:=kAr n (kU8 0) fun i=>kU8 (f i)
def rcZ:KV:=.cons (kU8 0) (.cons (.cons (zex 0) (.cons (ztG 0) .nl)) (.cons (.ar 32 (kU8 0) .te) .nl))
def enZ:KV:=.cons (kU8 0) (.cons (.ar 32 (kU8 0) .te) .nl)
theorem We {f:Nat→KV}{z:V}:∀ {n i:Nat},i < n→KV.atv (@Nat.rec (fun _=>KV) .te (fun i t=>vm (f i) (enc i) t) n) (enc i) z=(f i).v
 | 0,i,h=>absurd h (by omega)
 | n + 1,i,h=>by
  show (vm (f n) (enc n) (@Nat.rec (fun _=>KV) .te (fun i t=>vm (f i) (enc i) t) n)).atv (enc i) z=_
  rw[wB]
  by_cases he:i=n
  ·rw[if_pos he,he]
  ·rw[if_neg he]; exact We (by omega)
theorem zdh {n:Nat}{d:KV}{f:Nat→KV}{g:Nat→V}(h:∀ i,i < n→g i=(f i).v):Imp (.arr n g) (kAr n d f).v :=
 Imp.arrE fun i hi=>by rw[h i hi]; exact (We hi).symm
structure Rc where
 st:Nat
 sh:Nat
 ct:Nat
 tg:List Nat
structure En where
 st:Nat
 dg:List Nat
structure Nd where
 lv:Nat
 ix:Nat
 rc:Nat→Rc
 en:Nat→En
def nN (l:List Nat) (i:Nat):Nat:=@List.rec Nat (fun _=>Nat→Nat) (fun _=>0) (fun x _ ih i=>@Nat.rec (fun _=>Nat) x (fun j _=>ih j) i) l i
def Rc.k (x:Rc):KV:=.cons (kU8 x.st) (.cons (.cons (zex x.sh) (.cons (ztG x.ct) .nl)) (.cons (kBy 32 (nN x.tg)) .nl))
def En.k (x:En):KV:=.cons (kU8 x.st) (.cons (kBy 32 (nN x.dg)) .nl)
def Nd.k (x:Nd):KV:=.cons (kU8 x.lv) (.cons (zex x.ix) (.cons (kAr 4 rcZ fun i=>(x.rc i).k) (.cons (kAr 4 enZ fun i=>(x.en i).k) .nl)))
def isI (k:IntKind) (x:KV):Bool:=match x with
 | .int k' a=>nd (z8 k' k) (@Int.rec (fun _=>Bool) (fun _=>true) (fun _=>false) a)
 | _=>false
theorem zmd {k:IntKind}{x:KV}(h:isI k x=true):Go.Y.isW k x.v=true:=by
 unfold isI at h
 split at h
 ·obtain⟨h1,h2⟩:=za.1 h
  rename_i a
  cases a with
  | ofNat n=>exact h1
  | negSucc n=>cases h2
 ·cases h
def zkw (f:Nat→Bool) (n:Nat):Bool:=@Nat.rec (fun _=>Bool) true (fun i ih=>nd (f i) ih) n
theorem Wf {f:Nat→Bool}:∀ {n:Nat},zkw f n=true→∀ i,i < n→f i=true
 | 0,_,i,h=>absurd h (by omega)
 | n + 1,h,i,hi=>by
  obtain⟨h1,h2⟩:=za.1 (show nd (f n) (zkw f n)=true from h)
  by_cases he:i=n
  ·subst he; exact h1
  ·exact Wf h2 i (by omega)
def isA (k:IntKind) (n:Nat) (x:KV):Bool:=nd (arK x) (nd (Nat.beq (arZ x) n) (zkw (fun i=>isI k (zM i x)) n))
theorem zme {k:IntKind}{n:Nat}{x:KV}(h:isA k n x=true):∃ f,x.v=.arr n f∧qp k n f=true∧∀ i,f i=(zM i x).v:=by
 obtain⟨h1,h2⟩:=za.1 h
 obtain⟨h3,h4⟩:=za.1 h2
 obtain⟨m,f,hv,hf⟩:=j1 h1
 obtain rfl:=(JX h1 hv).symm.trans (zx h3)
 refine⟨f,hv,List.all_eq_true.2 fun i hi=>?_,hf⟩
 rw[hf i]
 exact zmd (Wf h4 i (List.mem_range.1 hi))
def ntK (x:KV) (i:Nat):Nat:=xP (zM i x).v
def lsK (x:KV) (n:Nat):List Nat:=@Nat.rec (fun _=>Nat→List Nat) (fun _=>[]) (fun _ ih i=>ntK x i::ih (Nat.succ i)) n 0
abbrev CP:=List Nat→List Nat→Nat→Nat
def byQ (n:Nat) (L:List Nat) (r:KV):Prop:=isA .u8 n r=true∧lsK r n=L
theorem Wg (x:KV):∀(n i:Nat),i < n→nN (lsK x n) i=ntK x i:=by
 have h:∀(n s i:Nat),i < n→nN (@Nat.rec (fun _=>Nat→List Nat) (fun _=>[]) (fun _ ih i=>ntK x i::ih (Nat.succ i)) n s) i=ntK x (s + i):=by
  intro n
  induction n with
  | zero=>intro s i h; omega
  | succ n ih =>
   intro s i h
   cases i with
   | zero=>rfl
   | succ i =>
    show nN (@Nat.rec (fun _=>Nat→List Nat) (fun _=>[]) (fun _ ih i=>ntK x i::ih (Nat.succ i)) n (Nat.succ s)) i=_
    rw[ih (Nat.succ s) i (by omega),show Nat.succ s + i=s + (i + 1) by omega]
 intro n i hi
 have:=h n 0 i hi
 rwa [Nat.zero_add] at this
theorem Wh (x:KV) (n:Nat):(lsK x n).length=n:=by
 have h:∀(n s:Nat),(@Nat.rec (fun _=>Nat→List Nat) (fun _=>[]) (fun _ ih i=>ntK x i::ih (Nat.succ i)) n s).length=n:=by
  intro n
  induction n with
  | zero=>intro s; rfl
  | succ n ih=>intro s; show (_::_).length=_; rw[List.length_cons,ih]
 exact h n 0
def onN (k:IntKind) (v:KV) (f:Nat→Prop):Prop:=zW (fun k' a=>chk (z8 k' k) 910 (@Int.rec (fun _=>Prop) (fun n=>f n) (fun _=>BadN 911) a)) (BadN 912) v
theorem J7 {k:IntKind}{v:KV}{f:Nat→Prop}(h:onN k v f):∃ n,v=.int k (.ofNat n)∧f n:=by
 rcases zt h with ⟨k',a,rfl,h1⟩ | ⟨_,h1⟩
 ·obtain⟨h2,h3⟩:=zf h1
  obtain rfl:=zw h2
  cases a with
  | ofNat n=>exact⟨n,rfl,h3⟩
  | negSucc n=>exact (show BadN 911 from h3).elim
 ·exact h1.elim
def zoP (n:Nat) (v:KV) (f:List Nat→Prop):Prop:=chk (isA .u8 n v) 913 (f (lsK v n))
theorem zoQ {k:IntKind}{x:KV}(h:isI k x=true):∃ n,x=.int k (.ofNat n):=by
 unfold isI at h
 split at h
 ·obtain⟨h1,h2⟩:=za.1 h
  rename_i k' a
  cases a with
  | ofNat n=>exact⟨n,by rw[zw h1]⟩
  | negSucc n=>cases h2
 ·cases h
theorem zoR {k:IntKind}{n:Nat}{x:KV}(h:isA k n x=true):∃ f,x.v=.arr n f∧∀ i,i < n→f i=.int k (.ofNat (ntK x i)):=by
 obtain⟨f,h1,_,h3⟩:=zme h
 refine⟨f,h1,fun i hi=>?_⟩
 obtain⟨_,h4⟩:=za.1 h
 obtain⟨n',hn⟩:=zoQ (Wf (za.1 h4).2 i hi)
 rw[h3 i]
 unfold ntK
 rw[hn]; rfl
theorem zmf {n:Nat}{v:KV}(h:isA .u8 n v=true):Imp v.v (kBy n (nN (lsK v n))).v:=by
 obtain⟨f,h1,h2⟩:=zoR h
 rw[h1]
 exact zdh fun i hi=>by rw[h2 i hi,Wg v n i hi]; rfl
theorem zhc {n:Nat}{v:KV}{f:List Nat→Prop}(h:zoP n v f):∃ L,L.length=n∧Imp v.v (kBy n (nN L)).v∧f L:=by
 obtain⟨h1,h2⟩:=zf h
 exact⟨_,Wh v n,zmf h1,h2⟩
theorem Imp.cons {a b a' b':V}(h1:Imp a a') (h2:Imp b b'):Imp (.cons a b) (.cons a' b'):=fun C m hr=>R.cons_map (fun m h=>h1 C m h) (fun m h=>h2 C m h) hr
def onC (v:KV) (f:KV→KV→Prop):Prop:=xG f (BadN 914) v
theorem wc {v:KV}{f:KV→KV→Prop}(h:onC v f):∃ a b,v=.cons a b∧f a b:=by
 rcases xd h with h | ⟨_,h⟩
 ·exact h
 ·exact h.elim
def onE (v:KV) (p:Prop):Prop:=Jo p (BadN 915) v
theorem zdi {v:KV}{p:Prop}(h:onE v p):v=.nl∧p:=by
 rcases vU h with h | ⟨_,h⟩
 ·exact h
 ·exact h.elim
def zkx (v:KV) (f:Rc→Prop):Prop:=onC v fun a r=>onN .u8 a fun st=>onC r fun b r=>onC b fun c r1=>onN .u32 c fun sh=>onC r1 fun d r2=>onN .u64 d fun ct=>onE r2 (onC r fun t r3=>zoP 32 t fun tg=>onE r3 (f ⟨st,sh,ct,tg⟩))
theorem zbd {v:KV}{f:Rc→Prop}(h:zkx v f):∃ x:Rc,x.tg.length=32∧Imp v.v x.k.v∧f x:=by
 obtain⟨a,r,rfl,h1⟩:=wc h
 obtain⟨st,rfl,h2⟩:=J7 h1
 obtain⟨b,r,rfl,h3⟩:=wc h2
 obtain⟨c,r1,rfl,h4⟩:=wc h3
 obtain⟨sh,rfl,h5⟩:=J7 h4
 obtain⟨d,r2,rfl,h6⟩:=wc h5
 obtain⟨ct,rfl,h7⟩:=J7 h6
 obtain⟨rfl,h8⟩:=zdi h7
 obtain⟨t,r3,rfl,h9⟩:=wc h8
 obtain⟨tg,hl,hi,h10⟩:=zhc h9
 obtain⟨rfl,h11⟩:=zdi h10
 exact⟨⟨st,sh,ct,tg⟩,hl,Imp.cons (Imp.refl _) (Imp.cons (Imp.refl _) (Imp.cons hi (Imp.refl _))),h11⟩
def zky (v:KV) (f:En→Prop):Prop:=onC v fun a r=>onN .u8 a fun st=>onC r fun t r3=>zoP 32 t fun dg=>onE r3 (f ⟨st,dg⟩)
theorem zbe {v:KV}{f:En→Prop}(h:zky v f):∃ x:En,x.dg.length=32∧Imp v.v x.k.v∧f x:=by
 obtain⟨a,r,rfl,h1⟩:=wc h
 obtain⟨st,rfl,h2⟩:=J7 h1
 obtain⟨t,r3,rfl,h3⟩:=wc h2
 obtain⟨dg,hl,hi,h4⟩:=zhc h3
 obtain⟨rfl,h5⟩:=zdi h4
 exact⟨⟨st,dg⟩,hl,Imp.cons (Imp.refl _) (Imp.cons hi (Imp.refl _)),h5⟩
def c4 {α:Type}(a b c d:α) (i:Nat):α:=@Nat.rec (fun _=>α) a (fun i _=>@Nat.rec (fun _=>α) b (fun i _=>@Nat.rec (fun _=>α) c (fun _ _=>d) i) i) i
theorem zhd {α:Type}{P:Nat→α→Prop}{a b c d:α}(h0:P 0 a) (h1:P 1 b) (h2:P 2 c) (h3:P 3 d):∀ i,i < 4→P i (c4 a b c d i)
 | 0,_=>h0
 | 1,_=>h1
 | 2,_=>h2
 | 3,_=>h3
 | n + 4,h=>by omega
def on4 {α:Type}(on:KV→(α→Prop)→Prop) (v:KV) (f:(Nat→α)→Prop):Prop:=chk (nd (arK v) (Nat.beq (arZ v) 4)) 916 (on (zM 0 v) fun a=>on (zM 1 v) fun b=>on (zM 2 v) fun c=>on (zM 3 v) fun d=>f (c4 a b c d))
theorem zmg {α:Type}{on:KV→(α→Prop)→Prop}{k:α→KV}{W:α→Prop}(hon:∀ v f,on v f→∃ x,W x∧Imp v.v (k x).v∧f x) {z:KV}{v:KV}{f:(Nat→α)→Prop}(h:on4 on v f):∃ g,(∀ i,i < 4→W (g i))∧Imp v.v (kAr 4 z fun i=>k (g i)).v∧f g:=by
 obtain⟨h1,h⟩:=zf h
 obtain⟨h1,h2⟩:=za.1 h1
 obtain⟨a,a1,a2,h⟩:=hon _ _ h
 obtain⟨b,b1,b2,h⟩:=hon _ _ h
 obtain⟨c,c1,c2,h⟩:=hon _ _ h
 obtain⟨d,d1,d2,h⟩:=hon _ _ h
 refine⟨c4 a b c d,zhd (P:=fun _ x=>W x) a1 b1 c1 d1,?_,h⟩
 obtain⟨m,f,hv,hf⟩:=j1 h1
 obtain rfl:=(JX h1 hv).symm.trans (zx h2)
 rw[hv]
 show Imp (.arr 4 f) (V.arr 4 fun i=>(kAr 4 z fun i=>k (c4 a b c d i)).v.step (.idx i))
 refine Imp.arr fun i hi=>?_
 rw[hf i]
 have e:(kAr 4 z fun i=>k (c4 a b c d i)).v.step (.idx i)=(k (c4 a b c d i)).v:=We (f:=fun i=>k (c4 a b c d i)) (n:=4) (z:=z.v) hi
 rw[e]
 exact zhd (P:=fun i x=>Imp (zM i v).v (k x).v) a2 b2 c2 d2 i hi
def zkz (v:KV) (f:Nd→Prop):Prop:=onC v fun a r=>onN .u8 a fun lv=>onC r fun b r=>onN .u32 b fun ix=>onC r fun rs r=>on4 zkx rs fun rc=>onC r fun es r=>on4 zky es fun en=>onE r (f ⟨lv,ix,rc,en⟩)
def Nd.wl (x:Nd):Prop:=(∀ i,i < 4→(x.rc i).tg.length=32)∧∀ i,i < 4→(x.en i).dg.length=32
theorem zbf {v:KV}{f:Nd→Prop}(h:zkz v f):∃ x:Nd,x.wl∧Imp v.v x.k.v∧f x:=by
 obtain⟨a,r,rfl,h1⟩:=wc h
 obtain⟨lv,rfl,h2⟩:=J7 h1
 obtain⟨b,r,rfl,h3⟩:=wc h2
 obtain⟨ix,rfl,h4⟩:=J7 h3
 obtain⟨rs,r,rfl,h5⟩:=wc h4
 obtain⟨rc,w1,i1,h6⟩:=zmg (z:=rcZ) (k:=Rc.k) (W:=fun x=>x.tg.length=32) (fun v f h=>zbd h) h5
 obtain⟨es,r,rfl,h7⟩:=wc h6
 obtain⟨en,w2,i2,h8⟩:=zmg (z:=enZ) (k:=En.k) (W:=fun x=>x.dg.length=32) (fun v f h=>zbe h) h7
 obtain⟨rfl,h9⟩:=zdi h8
 exact⟨⟨lv,ix,rc,en⟩,⟨w1,w2⟩,Imp.cons (Imp.refl _) (Imp.cons (Imp.refl _) (Imp.cons i1 (Imp.cons i2 (Imp.refl _)))),h9⟩
end
end Go.K
