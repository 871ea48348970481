/- The cipher's tables as contracts. No condition. -/
import Derived.Test.YtkllahedaiddgaaGreatDoorKL0
import Derived.Test.YtkllahedaiddgaaGreatDoorKS3
import Derived.Test.YtkllahedaiddgaaGreatDoorK25
import Derived.Test.YtkllahedaiddgaaGreatDoorKTie
import Derived.Test.YtkllahedaiddgaaGreatDoorK20
import Derived.Test.YtkllahedaiddgaaGreatDoorMS0
import Derived.Test.YtkllahedaiddgaaGreatDoorMM0
set_option linter.unusedSimpArgs false
set_option linter.unusedVariables false
namespace Go.K
open Go.Ab Go.RowKit Go.Y Go.Proofs
noncomputable section
attribute [local irreducible] zj zi
def C.sub (n:Nat):Nat:=pkr .u8 sbN n
def C.mul (a n:Nat):Nat:=pkr .u8 mtN (256 * a + n)
def C.x8 (a b:Nat):Nat:=(a ^^^ b) % 256
def C.fx (x:Nat→Nat) (m:Nat):Nat:=@Nat.rec (fun _=>Nat) (x (nat_lit 0)) (fun p _=>x (Nat.succ p)) m
theorem jj (x:Nat→Nat) (m:Nat):C.fx x m=x m:=by cases m<;>rfl
def C.rot (x:Nat→Nat) (i:Nat):Nat:=C.sub (C.fx x (4 * ((i / 4 + i % 4) % 4) + i % 4))
def C.mix (x:Nat→Nat) (i:Nat):Nat :=
 C.x8 (C.x8 (C.x8 (C.x8 0 (C.mul 2 (C.fx x (4 * (i / 4) + (i % 4 + 0) % 4)))) (C.mul 3 (C.fx x (4 * (i / 4) + (i % 4 + 1) % 4)))) (C.mul 1 (C.fx x (4 * (i / 4) + (i % 4 + 2) % 4)))) (C.mul 1 (C.fx x (4 * (i / 4) + (i % 4 + 3) % 4)))
def C.rnd (f g:Nat→Nat):Nat→Nat→Nat
 | 0,i=>C.x8 (f i) (g i)
 | k + 1,i=>C.x8 (C.mix (C.rot (C.rnd f g k)) i) (g (16 * (k + 1) + i))
def C.enc (f g:Nat→Nat) (i:Nat):Nat:=C.x8 (C.rot (C.rnd f g 9) i) (g (160 + i))
def trN (f:Nat→Nat):Nat→KV
 | 0=>.te
 | n + 1=>xD (.int .u8 (.ofNat (f n))) (enc n) (trN f n)
def xx (f:Nat→Nat):KV:=.ar 16 (.int .u8 (.ofNat 0)) (trN f 16)
def zky (g:Nat→Nat):Nat→KV
 | 0=>.te
 | n + 1=>xD (xx fun j=>g (16 * n + j)) (enc n) (zky g n)
def Zi (g:Nat→Nat):KV:=.ar 11 (.ar 16 (.int .u8 (.ofNat 0)) .te) (zky g 11)
def ze7:zh:=fun l K=>la1 l fun x=>z8 (fun k a=>chk (xa k .u8) 400 (@Int.rec (fun _=>Prop) (fun n=>n < 256∧K (.int .u8 (.ofNat (C.sub n)))) (fun _=>BadN 401) a)) (BadN 402) x
def zp0:zh:=fun l K=>lb2 l fun x y=>z8 (fun k a=>chk (xa k .u8) 400 (@Int.rec (fun _=>Prop) (fun m=>z8 (fun k a=>chk (xa k .u8) 400 (@Int.rec (fun _=>Prop) (fun n=>chk (Nat.blt m 4) 404 (n < 256∧K (.int .u8 (.ofNat (C.mul m n))))) (fun _=>BadN 401) a)) (BadN 402) y) (fun _=>BadN 401) a)) (BadN 402) x
def C.con (h:Nat→Nat):Nat→Nat→Prop→Prop
 | 0,_,X=>X
 | n + 1,t,X=>h t < 256∧C.con h n (t + 1) X
theorem zbs {h:Nat→Nat}{X:Prop}(hh:∀ t,h t < 256) (hx:X):∀ n t,C.con h n t X
 | 0,_=>hx
 | n + 1,t=>⟨hh t,zbs hh hx n (t + 1)⟩
def C.fin (f g:Nat→Nat) (X:Prop):Nat→Prop
 | 0=>C.con (fun i=>C.fx (C.rnd f g 9) i) 16 0 X
 | n + 1=>C.con (fun i=>C.fx (C.rnd f g (8 - n)) i) 16 0 (C.con (fun t=>C.fx (C.rot (C.rnd f g (8 - n))) (4 * (t / 16) + (t / 4 % 4 + t % 4) % 4)) 64 0 (C.fin f g X n))
def ES:KEnv:=EO0.tab [(311,ze7),(328,zp0)]
def zkz (f g:Nat→Nat) (v:KV):Prop:=@zi gO ES (@zj gO ES 200) 0 296 [Zi g,xx f] .e 0 0 fun r _ _ _=>r=v
set_option maxRecDepth 100000
theorem zgd (f g:Nat→Nat) (v:KV):zkz f g v=C.fin f g (xx (C.enc f g)=v) 9:=by kernel_rfl
theorem wR (a b:Nat):C.x8 a b < 256:=Nat.mod_lt _ (by decide)
theorem zkA (n:Nat):C.sub n < 256:=qi .u8 _ _
theorem zkB (f g:Nat→Nat):∀ k i,C.rnd f g k i < 256
 | 0,i=>wR _ _
 | k + 1,i=>wR _ _
theorem zp1 {f g:Nat→Nat}{X:Prop}(hx:X):∀ n,C.fin f g X n
 | 0=>zbs (fun t=>by rw[jj]; exact zkB _ _ _ _) hx _ _
 | n + 1=>zbs (fun t=>by rw[jj]; exact zkB _ _ _ _) (zbs (fun t=>by rw[jj]; exact zkA _) (zp1 hx n) _ _) _ _
theorem zbt (f g:Nat→Nat):zkz f g (xx (C.enc f g)):=by
 rw[zgd]
 exact zp1 rfl 9
end
end Go.K
namespace Go.K
open Go.Ab Go.RowKit Go.Y Go.Proofs
noncomputable section
attribute [local irreducible] zj zi
def C.dbl (n:Nat):Nat:=@Bool.rec (fun _=>Nat) (Nat.mod (Nat.mul n 2) 256) (Nat.mod (Nat.xor (Nat.mod (Nat.mul n 2) 256) 27) 256) (Nat.blt 127 n)
def C.mx0 (a b c d:Nat):Nat:=C.x8 (C.x8 (C.x8 (C.x8 (C.dbl a) (C.dbl b)) b) c) d
def C.mx1 (a b c d:Nat):Nat:=C.x8 (C.x8 (C.x8 (C.x8 a (C.dbl b)) (C.dbl c)) c) d
def C.mx2 (a b c d:Nat):Nat:=C.x8 (C.x8 (C.x8 (C.x8 a b) (C.dbl c)) (C.dbl d)) d
def C.mx3 (a b c d:Nat):Nat:=C.x8 (C.x8 (C.x8 (C.x8 (C.dbl a) a) b) c) (C.dbl d)
def C.mxR (r:Nat) (a b c d:Nat):Nat:=@Nat.rec (fun _=>Nat) (C.mx0 a b c d) (fun r _=>@Nat.rec (fun _=>Nat) (C.mx1 a b c d) (fun r _=>@Nat.rec (fun _=>Nat) (C.mx2 a b c d) (fun _ _=>C.mx3 a b c d) r) r) r
def C.mixR (x:Nat→Nat) (i:Nat):Nat:=C.mxR (i % 4) (C.fx x (4 * (i / 4))) (C.fx x (4 * (i / 4) + 1)) (C.fx x (4 * (i / 4) + 2)) (C.fx x (4 * (i / 4) + 3))
def C.rotR (x:Nat→Nat) (i:Nat):Nat:=pkr .u8 sbN (C.fx x (4 * ((i / 4 + i % 4) % 4) + i % 4))
def C.rndR (f g:Nat→Nat):Nat→Nat→Nat
 | 0,i=>C.x8 (f i) (g i)
 | k + 1,i=>C.x8 (C.mixR (C.rotR (C.rndR f g k)) i) (g (16 * (k + 1) + i))
def C.encR (f g:Nat→Nat) (i:Nat):Nat:=C.x8 (C.rotR (C.rndR f g 9) i) (g (160 + i))
def by4 (f:Nat→Nat):KV:=.ar 4 (.int .u8 (.ofNat 0)) (trN f 4)
def wdT (g:Nat→Nat):Nat→KV
 | 0=>.te
 | n + 1=>xD (by4 fun j=>g (4 * n + j)) (enc n) (wdT g n)
def wdO (g:Nat→Nat):KV:=.ar 44 (.ar 4 (.int .u8 (.ofNat 0)) .te) (wdT g 44)
def zjK:zh:=fun l K=>la1 l fun x=>z8 (fun k a=>chk (xa k .u8) 400 (@Int.rec (fun _=>Prop) (fun n=>n < 256∧K (.int .u8 (.ofNat (C.dbl n)))) (fun _=>BadN 401) a)) (BadN 402) x
def C.ix (x:Nat) (X:Prop):Prop:=cnd (ixB (.ofNat x) 256) X
def C.ixs (x:Nat→Nat):Nat→Prop→Prop
 | 0,X=>X
 | n + 1,X=>C.ix (C.fx x (4 * (((15 - n) % 4 + (15 - n) / 4) % 4) + (15 - n) / 4)) (C.ixs x n X)
def C.dw (t:Nat):Nat:=[0,1,1,2,2,3,0,3].getD t 0
def C.rds (f g:Nat→Nat) (X:Prop):Nat→Prop
 | 0=>C.ixs (C.rndR f g 9) 16 X
 | n + 1=>C.ixs (C.rndR f g (8 - n)) 16 (C.con (fun t=>C.fx (C.rotR (C.rndR f g (8 - n))) (4 * (t / 8) + C.dw (t % 8))) 32 0 (C.rds f g X n))
def ESR:KEnv:=EO0.tab [(319,zjK),(318,yY [] (.pk .u8 256 sbN))]
def zjL (f g:Nat→Nat) (v:KV):Prop:=@zi gO ESR (@zj gO ESR 200) 0 300 [wdO g,xx f] .e 0 0 fun r _ _ _=>r=v
set_option maxRecDepth 100000
theorem zf2 (f g:Nat→Nat) (v:KV):zjL f g v=C.rds f g (xx (C.encR f g)=v) 9:=by kernel_rfl
end
end Go.K
set_option maxRecDepth 100000
namespace Go.K
open Go.Ab Go.RowKit Go.Y Go.Proofs
noncomputable section
def kU8 (a:Nat):KV:=.int .u8 (.ofNat a)
def je (a:Nat):KV:=.int .u32 (.ofNat a)
def XZ (a:Nat):KV:=.int .u64 (.ofNat a)
def kAr (n:Nat) (d:KV) (f:Nat→KV):KV:=.ar n d (@Nat.rec (fun _=>KV) .te (fun i t=>xD (f i) (enc i) t) n)
def kBy (n:Nat) (f:Nat→Nat):KV:=kAr n (kU8 0) fun i=>kU8 (f i)
def rcZ:KV:=.cons (kU8 0) (.cons (.cons (je 0) (.cons (XZ 0) .nl)) (.cons (.ar 32 (kU8 0) .te) .nl))
def enZ:KV:=.cons (kU8 0) (.cons (.ar 32 (kU8 0) .te) .nl)
theorem qU {f:Nat→KV}{z:V}:∀ {n i:Nat},i < n→KV.atv (@Nat.rec (fun _=>KV) .te (fun i t=>xD (f i) (enc i) t) n) (enc i) z=(f i).v
 | 0,i,h=>absurd h (by omega)
 | n + 1,i,h=>by
  show (xD (f n) (enc n) (@Nat.rec (fun _=>KV) .te (fun i t=>xD (f i) (enc i) t) n)).atv (enc i) z=_
  rw[jD]
  by_cases he:i=n
  ·rw[if_pos he,he]
  ·rw[if_neg he]; exact qU (by omega)
theorem qV {n:Nat}{d:KV}{f:Nat→KV}{g:Nat→V}(h:∀ i,i < n→g i=(f i).v):Imp (.arr n g) (kAr n d f).v :=
 Imp.arrE fun i hi=>by rw[h i hi]; exact (qU hi).symm
structure Rc where
 st:Nat
 sh:Nat
 ct:Nat
 tg:List Nat
structure En where
 st:Nat
 dg:List Nat
structure Nd where
 lv:Nat
 ix:Nat
 rc:Nat→Rc
 en:Nat→En
def nN (l:List Nat) (i:Nat):Nat:=@List.rec Nat (fun _=>Nat→Nat) (fun _=>0) (fun x _ ih i=>@Nat.rec (fun _=>Nat) x (fun j _=>ih j) i) l i
def Rc.k (x:Rc):KV:=.cons (kU8 x.st) (.cons (.cons (je x.sh) (.cons (XZ x.ct) .nl)) (.cons (kBy 32 (nN x.tg)) .nl))
def En.k (x:En):KV:=.cons (kU8 x.st) (.cons (kBy 32 (nN x.dg)) .nl)
def Nd.k (x:Nd):KV:=.cons (kU8 x.lv) (.cons (je x.ix) (.cons (kAr 4 rcZ fun i=>(x.rc i).k) (.cons (kAr 4 enZ fun i=>(x.en i).k) .nl)))
def isI (k:IntKind) (x:KV):Bool:=match x with
 | .int k' a=>nd (xa k' k) (@Int.rec (fun _=>Bool) (fun _=>true) (fun _=>false) a)
 | _=>false
theorem zoR {k:IntKind}{x:KV}(h:isI k x=true):Go.Y.isW k x.v=true:=by
 unfold isI at h
 split at h
 ·obtain⟨h1,h2⟩:=zd.1 h
  rename_i a
  cases a with
  | ofNat n=>exact h1
  | negSucc n=>cases h2
 ·cases h
def zmo (f:Nat→Bool) (n:Nat):Bool:=@Nat.rec (fun _=>Bool) true (fun i ih=>nd (f i) ih) n
theorem Jp {f:Nat→Bool}:∀ {n:Nat},zmo f n=true→∀ i,i < n→f i=true
 | 0,_,i,h=>absurd h (by omega)
 | n + 1,h,i,hi=>by
  obtain⟨h1,h2⟩:=zd.1 (show nd (f n) (zmo f n)=true from h)
  by_cases he:i=n
  ·subst he; exact h1
  ·exact Jp h2 i (by omega)
def isA (k:IntKind) (n:Nat) (x:KV):Bool:=nd (arK x) (nd (Nat.beq (arZ x) n) (zmo (fun i=>isI k (zQ i x)) n))
theorem zeb {k:IntKind}{n:Nat}{x:KV}(h:isA k n x=true):∃ f,x.v=.arr n f∧qk k n f=true∧∀ i,f i=(zQ i x).v:=by
 obtain⟨h1,h2⟩:=zd.1 h
 obtain⟨h3,h4⟩:=zd.1 h2
 obtain⟨m,f,hv,hf⟩:=we h1
 obtain rfl:=(QI h1 hv).symm.trans (zI h3)
 refine⟨f,hv,List.all_eq_true.2 fun i hi=>?_,hf⟩
 rw[hf i]
 exact zoR (Jp h4 i (List.mem_range.1 hi))
def ntK (x:KV) (i:Nat):Nat:=xK (zQ i x).v
def lsK (x:KV) (n:Nat):List Nat:=@Nat.rec (fun _=>Nat→List Nat) (fun _=>[]) (fun _ ih i=>ntK x i::ih (Nat.succ i)) n 0
abbrev CP:=List Nat→List Nat→Nat→Nat
def sCp (cp:CP):zh:=fun l K=>la2 l fun x y=>chk (isA .u32 8 x) 900 (chk (isA .u8 64 y) 901 (K (kAr 8 (je 0) fun i=>je (cp (lsK x 8) (lsK y 64) i))))
def byQ (n:Nat) (L:List Nat) (r:KV):Prop:=isA .u8 n r=true∧lsK r n=L
theorem ZP (x:KV):∀(n i:Nat),i < n→nN (lsK x n) i=ntK x i:=by
 have h:∀(n s i:Nat),i < n→nN (@Nat.rec (fun _=>Nat→List Nat) (fun _=>[]) (fun _ ih i=>ntK x i::ih (Nat.succ i)) n s) i=ntK x (s + i):=by
  intro n
  induction n with
  | zero=>intro s i h; omega
  | succ n ih =>
   intro s i h
   cases i with
   | zero=>rfl
   | succ i =>
    show nN (@Nat.rec (fun _=>Nat→List Nat) (fun _=>[]) (fun _ ih i=>ntK x i::ih (Nat.succ i)) n (Nat.succ s)) i=_
    rw[ih (Nat.succ s) i (by omega),show Nat.succ s + i=s + (i + 1) by omega]
 intro n i hi
 have:=h n 0 i hi
 rwa [Nat.zero_add] at this
theorem Yf (x:KV) (n:Nat):(lsK x n).length=n:=by
 have h:∀(n s:Nat),(@Nat.rec (fun _=>Nat→List Nat) (fun _=>[]) (fun _ ih i=>ntK x i::ih (Nat.succ i)) n s).length=n:=by
  intro n
  induction n with
  | zero=>intro s; rfl
  | succ n ih=>intro s; show (_::_).length=_; rw[List.length_cons,ih]
 exact h n 0
def onN (k:IntKind) (v:KV) (f:Nat→Prop):Prop:=z8 (fun k' a=>chk (xa k' k) 910 (@Int.rec (fun _=>Prop) (fun n=>f n) (fun _=>BadN 911) a)) (BadN 912) v
theorem XT {k:IntKind}{v:KV}{f:Nat→Prop}(h:onN k v f):∃ n,v=.int k (.ofNat n)∧f n:=by
 rcases zz h with ⟨k',a,rfl,h1⟩ | ⟨_,h1⟩
 ·obtain⟨h2,h3⟩:=ze h1
  obtain rfl:=zD h2
  cases a with
  | ofNat n=>exact⟨n,rfl,h3⟩
  | negSucc n=>exact (show BadN 911 from h3).elim
 ·exact h1.elim
def ziv (n:Nat) (v:KV) (f:List Nat→Prop):Prop:=chk (isA .u8 n v) 913 (f (lsK v n))
theorem ziw {k:IntKind}{x:KV}(h:isI k x=true):∃ n,x=.int k (.ofNat n):=by
 unfold isI at h
 split at h
 ·obtain⟨h1,h2⟩:=zd.1 h
  rename_i k' a
  cases a with
  | ofNat n=>exact⟨n,by rw[zD h1]⟩
  | negSucc n=>cases h2
 ·cases h
theorem zrN {k:IntKind}{n:Nat}{x:KV}(h:isA k n x=true):∃ f,x.v=.arr n f∧∀ i,i < n→f i=.int k (.ofNat (ntK x i)):=by
 obtain⟨f,h1,_,h3⟩:=zeb h
 refine⟨f,h1,fun i hi=>?_⟩
 obtain⟨_,h4⟩:=zd.1 h
 obtain⟨n',hn⟩:=ziw (Jp (zd.1 h4).2 i hi)
 rw[h3 i]
 unfold ntK
 rw[hn]; rfl
theorem XU {n:Nat}{v:KV}(h:isA .u8 n v=true):Imp v.v (kBy n (nN (lsK v n))).v:=by
 obtain⟨f,h1,h2⟩:=zrN h
 rw[h1]
 exact qV fun i hi=>by rw[h2 i hi,ZP v n i hi]; rfl
theorem zix {n:Nat}{v:KV}{f:List Nat→Prop}(h:ziv n v f):∃ L,L.length=n∧Imp v.v (kBy n (nN L)).v∧f L:=by
 obtain⟨h1,h2⟩:=ze h
 exact⟨_,Yf v n,XU h1,h2⟩
theorem Imp.cons {a b a' b':V}(h1:Imp a a') (h2:Imp b b'):Imp (.cons a b) (.cons a' b'):=fun C m hr=>R.cons_map (fun m h=>h1 C m h) (fun m h=>h2 C m h) hr
def onC (v:KV) (f:KV→KV→Prop):Prop:=xN f (BadN 914) v
theorem jv {v:KV}{f:KV→KV→Prop}(h:onC v f):∃ a b,v=.cons a b∧f a b:=by
 rcases xh h with h | ⟨_,h⟩
 ·exact h
 ·exact h.elim
def onE (v:KV) (p:Prop):Prop:=Qc p (BadN 915) v
theorem Jq {v:KV}{p:Prop}(h:onE v p):v=.nl∧p:=by
 rcases jc h with h | ⟨_,h⟩
 ·exact h
 ·exact h.elim
def y6 (v:KV) (f:Rc→Prop):Prop:=onC v fun a r=>onN .u8 a fun st=>onC r fun b r=>onC b fun c r1=>onN .u32 c fun sh=>onC r1 fun d r2=>onN .u64 d fun ct=>onE r2 (onC r fun t r3=>ziv 32 t fun tg=>onE r3 (f ⟨st,sh,ct,tg⟩))
theorem zcf {v:KV}{f:Rc→Prop}(h:y6 v f):∃ x:Rc,x.tg.length=32∧Imp v.v x.k.v∧f x:=by
 obtain⟨a,r,rfl,h1⟩:=jv h
 obtain⟨st,rfl,h2⟩:=XT h1
 obtain⟨b,r,rfl,h3⟩:=jv h2
 obtain⟨c,r1,rfl,h4⟩:=jv h3
 obtain⟨sh,rfl,h5⟩:=XT h4
 obtain⟨d,r2,rfl,h6⟩:=jv h5
 obtain⟨ct,rfl,h7⟩:=XT h6
 obtain⟨rfl,h8⟩:=Jq h7
 obtain⟨t,r3,rfl,h9⟩:=jv h8
 obtain⟨tg,hl,hi,h10⟩:=zix h9
 obtain⟨rfl,h11⟩:=Jq h10
 exact⟨⟨st,sh,ct,tg⟩,hl,Imp.cons (Imp.refl _) (Imp.cons (Imp.refl _) (Imp.cons hi (Imp.refl _))),h11⟩
def Qg (v:KV) (f:En→Prop):Prop:=onC v fun a r=>onN .u8 a fun st=>onC r fun t r3=>ziv 32 t fun dg=>onE r3 (f ⟨st,dg⟩)
theorem zcg {v:KV}{f:En→Prop}(h:Qg v f):∃ x:En,x.dg.length=32∧Imp v.v x.k.v∧f x:=by
 obtain⟨a,r,rfl,h1⟩:=jv h
 obtain⟨st,rfl,h2⟩:=XT h1
 obtain⟨t,r3,rfl,h3⟩:=jv h2
 obtain⟨dg,hl,hi,h4⟩:=zix h3
 obtain⟨rfl,h5⟩:=Jq h4
 exact⟨⟨st,dg⟩,hl,Imp.cons (Imp.refl _) (Imp.cons hi (Imp.refl _)),h5⟩
def c4 {α:Type}(a b c d:α) (i:Nat):α:=@Nat.rec (fun _=>α) a (fun i _=>@Nat.rec (fun _=>α) b (fun i _=>@Nat.rec (fun _=>α) c (fun _ _=>d) i) i) i
theorem Yg {α:Type}{P:Nat→α→Prop}{a b c d:α}(h0:P 0 a) (h1:P 1 b) (h2:P 2 c) (h3:P 3 d):∀ i,i < 4→P i (c4 a b c d i)
 | 0,_=>h0
 | 1,_=>h1
 | 2,_=>h2
 | 3,_=>h3
 | n + 4,h=>by omega
def on4 {α:Type}(on:KV→(α→Prop)→Prop) (v:KV) (f:(Nat→α)→Prop):Prop:=chk (nd (arK v) (Nat.beq (arZ v) 4)) 916 (on (zQ 0 v) fun a=>on (zQ 1 v) fun b=>on (zQ 2 v) fun c=>on (zQ 3 v) fun d=>f (c4 a b c d))
theorem zoS {α:Type}{on:KV→(α→Prop)→Prop}{k:α→KV}{W:α→Prop}(hon:∀ v f,on v f→∃ x,W x∧Imp v.v (k x).v∧f x) {z:KV}{v:KV}{f:(Nat→α)→Prop}(h:on4 on v f):∃ g,(∀ i,i < 4→W (g i))∧Imp v.v (kAr 4 z fun i=>k (g i)).v∧f g:=by
 obtain⟨h1,h⟩:=ze h
 obtain⟨h1,h2⟩:=zd.1 h1
 obtain⟨a,a1,a2,h⟩:=hon _ _ h
 obtain⟨b,b1,b2,h⟩:=hon _ _ h
 obtain⟨c,c1,c2,h⟩:=hon _ _ h
 obtain⟨d,d1,d2,h⟩:=hon _ _ h
 refine⟨c4 a b c d,Yg (P:=fun _ x=>W x) a1 b1 c1 d1,?_,h⟩
 obtain⟨m,f,hv,hf⟩:=we h1
 obtain rfl:=(QI h1 hv).symm.trans (zI h2)
 rw[hv]
 show Imp (.arr 4 f) (V.arr 4 fun i=>(kAr 4 z fun i=>k (c4 a b c d i)).v.step (.idx i))
 refine Imp.arr fun i hi=>?_
 rw[hf i]
 have e:(kAr 4 z fun i=>k (c4 a b c d i)).v.step (.idx i)=(k (c4 a b c d i)).v:=qU (f:=fun i=>k (c4 a b c d i)) (n:=4) (z:=z.v) hi
 rw[e]
 exact Yg (P:=fun i x=>Imp (zQ i v).v (k x).v) a2 b2 c2 d2 i hi
def qj (v:KV) (f:Nd→Prop):Prop:=onC v fun a r=>onN .u8 a fun lv=>onC r fun b r=>onN .u32 b fun ix=>onC r fun rs r=>on4 y6 rs fun rc=>onC r fun es r=>on4 Qg es fun en=>onE r (f ⟨lv,ix,rc,en⟩)
def Nd.wl (x:Nd):Prop:=(∀ i,i < 4→(x.rc i).tg.length=32)∧∀ i,i < 4→(x.en i).dg.length=32
theorem XA {v:KV}{f:Nd→Prop}(h:qj v f):∃ x:Nd,x.wl∧Imp v.v x.k.v∧f x:=by
 obtain⟨a,r,rfl,h1⟩:=jv h
 obtain⟨lv,rfl,h2⟩:=XT h1
 obtain⟨b,r,rfl,h3⟩:=jv h2
 obtain⟨ix,rfl,h4⟩:=XT h3
 obtain⟨rs,r,rfl,h5⟩:=jv h4
 obtain⟨rc,w1,i1,h6⟩:=zoS (z:=rcZ) (k:=Rc.k) (W:=fun x=>x.tg.length=32) (fun v f h=>zcf h) h5
 obtain⟨es,r,rfl,h7⟩:=jv h6
 obtain⟨en,w2,i2,h8⟩:=zoS (z:=enZ) (k:=En.k) (W:=fun x=>x.dg.length=32) (fun v f h=>zcg h) h7
 obtain⟨rfl,h9⟩:=Jq h8
 exact⟨⟨lv,ix,rc,en⟩,⟨w1,w2⟩,Imp.cons (Imp.refl _) (Imp.cons (Imp.refl _) (Imp.cons i1 (Imp.cons i2 (Imp.refl _)))),h9⟩
end
end Go.K
set_option maxRecDepth 100000
namespace Go.K
open Go.Ab Go.RowKit Go.Y Go.Proofs
noncomputable section
attribute [local instance 10000] gO
def Q4 (fid:FuncId):Prop:=∃ fn,Tryz.prog.funcs[fid]?=some fn∧(fn.name == "runtime.NumGoroutine")=false∧fn.body.isNone=false
theorem Q5 {α:Type}{E:KEnv}(hE:KOk E) (hP:E.P=Tryz.prog) {fid:FuncId}(hf:Q4 fid) {on:KV→(α→Prop)→Prop}{k:α→KV}{W:α→Prop}{sp:α→KV}(n:Nat)
  (hon:∀ v f,on v f→∃ x,W x∧Imp v.v (k x).v∧f x) (hr:∀ x,zA (sp x).v=true)
  (h:∀ x,W x→zi E (zj E n) 0 fid [k x] .e 0 0 fun r _ _ _=>Imp r.v (sp x).v):KCS Tryz.prog fid (fun l K=>la1 l fun v=>on v fun x=>K (sp x)):=by
 refine zbR hf fun l K hs=>?_
 obtain⟨v,rfl,h1⟩:=j3 hs
 obtain⟨x,w,hi,hk⟩:=hon _ _ h1
 refine⟨E,hE,hP,n,fun r=>Imp r.v (sp x).v,sp x,[k x],hk,hr x,fun r hr=>hr,fun C m hm=>?_,h x w⟩
 exact Imp.cons hi (Imp.refl _) C m hm
def zB (n:Nat) (f:Nat→Nat):Bool:=@Nat.rec (fun _=>Bool) true (fun i ih=>nd ih (eqI (.ofNat (f i)) (.ofNat 0))) n
theorem zcN {f:Nat→Nat}:∀ {n:Nat},zB n f=true↔∀ i,i < n→f i=0
 | 0=>⟨fun _ i h=>by omega,fun _=>rfl⟩
 | n + 1=>by
  show nd (zB n f) (eqI (.ofNat (f n)) (.ofNat 0))=true↔_
  rw[zd,zcN,wB]
  constructor
  ·rintro⟨h1,h2⟩ i hi
   by_cases h:i=n
   ·rw[h]; exact h2
   ·exact h1 i (by omega)
  ·intro h
   exact⟨fun i hi=>h i (by omega),h n (by omega)⟩
def Rc.zero (x:Rc):Prop:=x.st=0∧x.sh=0∧x.ct=0∧∀ i,i < 32→nN x.tg i=0
def En.zero (x:En):Prop:=x.st=0∧∀ i,i < 32→nN x.dg i=0
def Rc.ok (x:Rc):Prop:=x.st≤2∧(x.st=0→x.zero)
def En.ok (x:En):Prop:=x.st≤2∧(x.st=0→x.zero)
open Classical in
def Rc.e (x:Rc):Nat:=if x.ok then 0 else 1
open Classical in
def En.e (x:En):Nat:=if x.ok then 0 else 1
def zzj (x:Rc) (K:KV→Prop):Prop:=zi EO0 (zj EO0 60) 0 125 [x.k] .e 0 0 fun r _ _ _=>K r
def zzk (x:En) (K:KV→Prop):Prop:=zi EO0 (zj EO0 60) 0 247 [x.k] .e 0 0 fun r _ _ _=>K r
def zzl (x:Rc) (K:KV→Prop):Prop:=zi EO0 (zj EO0 60) 0 133 [x.k] .e 0 0 fun r _ _ _=>K r
def zzm (x:En) (K:KV→Prop):Prop:=zi EO0 (zj EO0 60) 0 134 [x.k] .e 0 0 fun r _ _ _=>K r
def eZ (a:Nat):Bool:=eqI (.ofNat a) (.ofNat 0)
theorem yn {a:Nat}:eZ a=true↔a=0:=wB
def gt2 (a:Nat):Bool:=ltI (.ofNat 2) (.ofNat a)
def Rc.zb (x:Rc):Bool:=nd (eZ x.st) (nd (nd (eZ x.sh) (nd (eZ x.ct) true)) (nd (zB 32 (nN x.tg)) true))
def En.zb (x:En):Bool:=nd (eZ x.st) (nd (zB 32 (nN x.dg)) true)
theorem Rc.zb_t {x:Rc}:x.zb=true↔x.zero:=by
 unfold Rc.zb Rc.zero
 simp only[zd,yn,zcN,and_true,and_assoc]
theorem En.zb_t {x:En}:x.zb=true↔x.zero:=by
 unfold En.zb En.zero
 simp only[zd,yn,zcN,and_true]
theorem zDJ (x:Rc) (K:KV→Prop):zzj x K=alt (gt2 x.st) (K (nI 1)) (alt (eZ x.st) (alt (!x.zb) (K (nI 1)) (K (nI 0))) (K (nI 0))):=by kernel_rfl
theorem zDK (x:En) (K:KV→Prop):zzk x K=alt (gt2 x.st) (K (nI 1)) (alt (eZ x.st) (alt (!x.zb) (K (nI 1)) (K (nI 0))) (K (nI 0))):=by kernel_rfl
def eN (n a:Nat):Bool:=eqI (.ofNat a) (.ofNat n)
def t12 (st:Nat) (K:KV→Prop):Prop:=alt (eN 1 st) (K (nI 0)) (alt (eN 2 st) (K (nI 0)) (K (nI 1)))
theorem zDL (x:Rc) (K:KV→Prop):zzl x K=alt (eZ x.sh) (alt (eZ x.ct) (alt (eZ x.st) (alt (zB 32 (nN x.tg)) (K (nI 0)) (t12 x.st K)) (t12 x.st K)) (alt (eZ x.st) (t12 x.st K) (t12 x.st K))) (alt (eZ x.st) (t12 x.st K) (t12 x.st K)):=by kernel_rfl
theorem zDM (x:En) (K:KV→Prop):zzm x K=alt (eZ x.st) (alt (zB 32 (nN x.dg)) (K (nI 0)) (t12 x.st K)) (t12 x.st K):=by kernel_rfl
theorem Rc.e_t {x:Rc}(h:x.ok):x.e=0:=if_pos h
theorem Rc.e_f {x:Rc}(h:¬ x.ok):x.e=1:=if_neg h
theorem En.e_t {x:En}(h:x.ok):x.e=0:=if_pos h
theorem En.e_f {x:En}(h:¬ x.ok):x.e=1:=if_neg h
theorem zeO {a:Nat}:gt2 a=true↔2 < a:=jS
theorem zzn {n a:Nat}:eN n a=true↔a=n:=wB
theorem bf {b:Bool}{p:Prop}(h:b=true↔p):b=false↔¬ p:=by rw[←h]; cases b<;>simp
abbrev Is (w:KV):KV→Prop:=fun r=>Imp r.v w.v
theorem Is.of {w w':KV}(h:w=w'):Is w' w:=by rw[h]; exact Imp.refl _
theorem zDN (x:Rc):zzj x (Is (nI x.e)):=by
 rw[zDJ]
 simp only[zg,zeO,bf zeO,yn,bf yn,Bool.not_eq_true',Bool.not_eq_false',bf Rc.zb_t,Rc.zb_t]
 refine⟨fun h=>Is.of ?_,fun h=>⟨fun h1=>⟨fun h2=>Is.of ?_,fun h2=>Is.of ?_⟩,fun h1=>Is.of ?_⟩⟩
 ·rw[Rc.e_f fun hk=>by have:=hk.1; omega]
 ·rw[Rc.e_f fun hk=>h2 (hk.2 h1)]
 ·rw[Rc.e_t ⟨by omega,fun _=>h2⟩]
 ·rw[Rc.e_t ⟨by omega,fun h2=>absurd h2 h1⟩]
theorem zDO (x:En):zzk x (Is (nI x.e)):=by
 rw[zDK]
 simp only[zg,zeO,bf zeO,yn,bf yn,Bool.not_eq_true',Bool.not_eq_false',bf En.zb_t,En.zb_t]
 refine⟨fun h=>Is.of ?_,fun h=>⟨fun h1=>⟨fun h2=>Is.of ?_,fun h2=>Is.of ?_⟩,fun h1=>Is.of ?_⟩⟩
 ·rw[En.e_f fun hk=>by have:=hk.1; omega]
 ·rw[En.e_f fun hk=>h2 (hk.2 h1)]
 ·rw[En.e_t ⟨by omega,fun _=>h2⟩]
 ·rw[En.e_t ⟨by omega,fun h2=>absurd h2 h1⟩]
theorem zjP {st:Nat}{n:Nat}(h1:st=1∨st=2→n=0) (h2:¬ (st=1∨st=2)→n=1):t12 st (Is (nI n)):=by
 unfold t12
 simp only[zg,zzn,bf zzn]
 refine⟨fun h=>Is.of ?_,fun h=>⟨fun h3=>Is.of ?_,fun h3=>Is.of ?_⟩⟩
 ·rw[h1 (.inl h)]
 ·rw[h1 (.inr h3)]
 ·rw[h2 (by omega)]
theorem zDP (x:Rc):zzl x (Is (nI x.e)):=by
 rw[zDL]
 have ok:x.st=1∨x.st=2→x.e=0:=fun h=>Rc.e_t ⟨by omega,fun h2=>by omega⟩
 have no:¬ x.zero→¬ (x.st=1∨x.st=2)→x.e=1:=fun h1 h2=>Rc.e_f fun hk=>by
  have:=hk.1
  exact h1 (hk.2 (by omega))
 have t:¬ x.zero→t12 x.st (Is (nI x.e)):=fun h=>zjP ok (no h)
 simp only[zg,yn,bf yn,zcN,bf zcN]
 refine⟨fun h1=>⟨fun h2=>⟨fun h3=>⟨fun h4=>Is.of ?_,fun h4=>t fun z=>h4 z.2.2.2⟩,fun h3=>t fun z=>h3 z.1⟩,fun h2=>⟨fun _=>t fun z=>h2 z.2.2.1,fun _=>t fun z=>h2 z.2.2.1⟩⟩,fun h1=>⟨fun _=>t fun z=>h1 z.2.1,fun _=>t fun z=>h1 z.2.1⟩⟩
 rw[Rc.e_t ⟨by omega,fun _=>⟨h3,h1,h2,h4⟩⟩]
theorem zDQ (x:En):zzm x (Is (nI x.e)):=by
 rw[zDM]
 have ok:x.st=1∨x.st=2→x.e=0:=fun h=>En.e_t ⟨by omega,fun h2=>by omega⟩
 have no:¬ x.zero→¬ (x.st=1∨x.st=2)→x.e=1:=fun h1 h2=>En.e_f fun hk=>by
  have:=hk.1
  exact h1 (hk.2 (by omega))
 have t:¬ x.zero→t12 x.st (Is (nI x.e)):=fun h=>zjP ok (no h)
 simp only[zg,yn,bf yn,zcN,bf zcN]
 refine⟨fun h1=>⟨fun h2=>Is.of ?_,fun h2=>t fun z=>h2 z.2⟩,fun h1=>t fun z=>h1 z.1⟩
 rw[En.e_t ⟨by omega,fun _=>⟨h1,h2⟩⟩]
def zf3:zh:=fun l K=>la1 l fun v=>y6 v fun x=>K (nI x.e)
def zf4:zh:=fun l K=>la1 l fun v=>Qg v fun x=>K (nI x.e)
theorem Zc:KCS Tryz.prog 125 zf3:=Q5 zr rfl ⟨Tryz.f125,Tryz.func125,by kernel_rfl,by kernel_rfl⟩ 60 (fun v f h=>zcf h) (fun x=>rfl) fun x _=>zDN x
theorem zcO:KCS Tryz.prog 247 zf4:=Q5 zr rfl ⟨Tryz.f247,Tryz.func247,by kernel_rfl,by kernel_rfl⟩ 60 (fun v f h=>zcg h) (fun x=>rfl) fun x _=>zDO x
theorem ztP:KCS Tryz.prog 133 zf3:=Q5 zr rfl ⟨Tryz.f133,Tryz.func133,by kernel_rfl,by kernel_rfl⟩ 60 (fun v f h=>zcf h) (fun x=>rfl) fun x _=>zDP x
theorem ztQ:KCS Tryz.prog 134 zf4:=Q5 zr rfl ⟨Tryz.f134,Tryz.func134,by kernel_rfl,by kernel_rfl⟩ 60 (fun v f h=>zcg h) (fun x=>rfl) fun x _=>zDQ x
def nfL (n:Nat) (l:List Nat):List Nat:=lsK (kBy n (nN l)) n
theorem ztR {n i:Nat}{f:Nat→Nat}(h:i < n):ntK (kBy n f) i=f i:=by
 have e:(zQ i (kBy n f)).v=(kU8 (f i)).v:=by
  rw[xU]
  exact qU (f:=fun i=>kU8 (f i)) (n:=n) (z:=(kU8 0).v) h
 show xK (zQ i (kBy n f)).v=_
 rw[e]; rfl
theorem Yv:∀ {a b:List Nat},a.length=b.length→(∀ i,i < a.length→nN a i=nN b i)→a=b
 | [],[],_,_=>rfl
 | x::a,y::b,h,h2=>by
  have h0:x=y:=h2 0 (Nat.succ_pos _)
  rw[h0,Yv (a:=a) (b:=b) (by simpa using h) fun i hi=>h2 (i + 1) (by simpa using hi)]
theorem zjQ {n:Nat}{l:List Nat}(h:l.length=n):nfL n l=l :=
 Yv (by rw[show (nfL n l).length=n from Yf _ _,h]) fun i hi=>by
  have hi':i < n:=by rw[←Yf (kBy n (nN l)) n]; exact hi
  show nN (lsK (kBy n (nN l)) n) i=_
  rw[ZP _ n i hi',ztR hi']
def Rc.nf (x:Rc):Rc:=⟨x.st,x.sh,x.ct,nfL 32 x.tg⟩
def En.nf (x:En):En:=⟨x.st,nfL 32 x.dg⟩
theorem Rc.nf_eq {x:Rc}(h:x.tg.length=32):x.nf=x:=by unfold Rc.nf; rw[zjQ h]
theorem En.nf_eq {x:En}(h:x.dg.length=32):x.nf=x:=by unfold En.nf; rw[zjQ h]
def zCC:List (Nat×zh):=[(125,zf3),(247,zf4),(133,zf3),(134,zf4)]
def EN1:KEnv:=EO0.tab zCC
theorem zxz:KOk EN1:=zr.tab ⟨Zc,zcO,ztP,ztQ,trivial⟩
def Nd.ok (x:Nd):Prop:=x.lv≤5∧(x.lv=0→(∀ i,i < 4→(x.en i).zero)∧∀ i,i < 4→(x.rc i).ok)∧(x.lv≠0→(∀ i,i < 4→(x.rc i).zero)∧∀ i,i < 4→(x.en i).ok)
open Classical in
def Nd.e (x:Nd):Nat:=if x.ok then 0 else 1
def z4 (f:Nat→Bool):Bool:=@Nat.rec (fun _=>Bool) true (fun i ih=>nd ih (f i)) 4
def qu (f:Nat→Nat) (K:KV→Prop):Prop:=alt (!eZ (f 0)) (K (nI (f 0))) (alt (!eZ (f 1)) (K (nI (f 1))) (alt (!eZ (f 2)) (K (nI (f 2))) (alt (!eZ (f 3)) (K (nI (f 3))) (K (nI 0)))))
def za8 (f:Nat→Bool) (p q:Prop):Prop:=alt (!f 0) p (alt (!f 1) p (alt (!f 2) p (alt (!f 3) p q)))
def zpa (x:Nd) (K:KV→Prop):Prop:=zi EN1 (zj EN1 60) 0 192 [({ x with lv:=0 }:Nd).k] .e 0 0 fun r _ _ _=>K r
def zpb (l:Nat) (x:Nd) (K:KV→Prop):Prop:=zi EN1 (zj EN1 60) 0 192 [({ x with lv:=Nat.succ l }:Nd).k] .e 0 0 fun r _ _ _=>K r
def zxA (x:Nd) (K:KV→Prop):Prop:=zi EN1 (zj EN1 60) 0 60 [({ x with lv:=0 }:Nd).k] .e 0 0 fun r _ _ _=>K r
def zxB (l:Nat) (x:Nd) (K:KV→Prop):Prop:=zi EN1 (zj EN1 60) 0 60 [({ x with lv:=Nat.succ l }:Nd).k] .e 0 0 fun r _ _ _=>K r
def gt5 (a:Nat):Bool:=ltI (.ofNat 5) (.ofNat a)
theorem zxC (x:Nd) (K:KV→Prop):zpa x K=alt (!z4 fun i=>(x.en i).zb) (K (nI 1)) (qu (fun i=>(x.rc i).nf.e) K):=by kernel_rfl
theorem zxD (l:Nat) (x:Nd) (K:KV→Prop):zpb l x K=alt (gt5 (Nat.succ l)) (K (nI 1)) (alt (!z4 fun i=>(x.rc i).zb) (K (nI 1)) (qu (fun i=>(x.en i).nf.e) K)):=by kernel_rfl
theorem zCD (x:Nd) (K:KV→Prop):zxA x K=za8 (fun i=>(x.en i).zb) (K (nI 1)) (qu (fun i=>(x.rc i).nf.e) K):=by kernel_rfl
theorem zCE (l:Nat) (x:Nd) (K:KV→Prop):zxB l x K=alt (gt5 (Nat.succ l)) (K (nI 1)) (za8 (fun i=>(x.rc i).zb) (K (nI 1)) (qu (fun i=>(x.en i).nf.e) K)):=by kernel_rfl
theorem XV {f g:Nat→Nat}{K:KV→Prop}(h:∀ i,i < 4→f i=g i):qu f K=qu g K:=by
 unfold qu
 rw[h 0 (by omega),h 1 (by omega),h 2 (by omega),h 3 (by omega)]
theorem za9 {f:Nat→Nat}{P:Nat→Prop}{n:Nat}(h1:∀ i,P i→f i=0) (h2:∀ i,¬ P i→f i=1) (h3:(∀ i,i < 4→P i)→n=0) (h4:(∃ i,i < 4∧¬ P i)→n=1):qu f (Is (nI n)):=by
 have e1:∀ i,i < 4→f i≠0→nI (f i)=nI n:=fun i hi h=>by
  have hp:¬ P i:=fun hp=>h (h1 i hp)
  rw[h2 i hp,h4 ⟨i,hi,hp⟩]
 have e2:∀ i,f i=0→P i:=fun i h=>Classical.byContradiction fun hp=>by rw[h2 i hp] at h; cases h
 unfold qu
 simp only[zg,Bool.not_eq_true',Bool.not_eq_false',bf yn,yn]
 refine⟨fun h=>Is.of (e1 0 (by omega) h),fun a=>⟨fun h=>Is.of (e1 1 (by omega) h),fun b=>⟨fun h=>Is.of (e1 2 (by omega) h),fun c=>⟨fun h=>Is.of (e1 3 (by omega) h),fun d=>Is.of ?_⟩⟩⟩⟩
 rw[h3 fun i hi=>by
  match i,hi with
  | 0,_=>exact e2 _ a
  | 1,_=>exact e2 _ b
  | 2,_=>exact e2 _ c
  | 3,_=>exact e2 _ d]
theorem zet {f:Nat→Bool}{P:Nat→Prop}{p q:Prop}(h:∀ i,f i=true↔P i) (h1:(∃ i,i < 4∧¬ P i)→p) (h2:(∀ i,i < 4→P i)→q):za8 f p q:=by
 unfold za8
 simp only[zg,Bool.not_eq_true',Bool.not_eq_false',h,bf (h _)]
 refine⟨fun a=>h1 ⟨0,by omega,a⟩,fun a=>⟨fun b=>h1 ⟨1,by omega,b⟩,fun b=>⟨fun c=>h1 ⟨2,by omega,c⟩,fun c=>⟨fun d=>h1 ⟨3,by omega,d⟩,fun d=>h2 fun i hi=>?_⟩⟩⟩⟩
 match i,hi with
 | 0,_=>exact a
 | 1,_=>exact b
 | 2,_=>exact c
 | 3,_=>exact d
theorem zi1 {f:Nat→Bool}{p q:Prop}(h:za8 f p q):alt (!z4 f) p q:=by
 unfold za8 at h
 show alt (!nd (nd (nd (nd true (f 0)) (f 1)) (f 2)) (f 3)) p q
 revert h
 cases f 0<;>cases f 1<;>cases f 2<;>cases f 3<;>simp [alt,nd]
theorem Nd.nf_rc {x:Nd}(h:x.wl) {i:Nat}(hi:i < 4):(x.rc i).nf.e=(x.rc i).e:=by rw[Rc.nf_eq (h.1 i hi)]
theorem zxE {x:Nd}(h:x.wl) (h0:x.lv=0):za8 (fun i=>(x.en i).zb) (Is (nI x.e) (nI 1)) (qu (fun i=>(x.rc i).nf.e) (Is (nI x.e))):=by
 refine zet (P:=fun i=>(x.en i).zero) (fun i=>En.zb_t) (fun⟨i,hi,hn⟩=>Is.of ?_) fun hz=>?_
 ·unfold Nd.e; rw[if_neg fun ok=>hn ((ok.2.1 h0).1 i hi)]
 ·have hc:qu (fun i=>(x.rc i).e) (Is (nI x.e)):=by
   refine za9 (P:=fun i=>(x.rc i).ok) (fun i h=>Rc.e_t h) (fun i h=>Rc.e_f h) (fun h=>?_) fun⟨i,hi,hn⟩=>?_
   ·unfold Nd.e; rw[if_pos ⟨by omega,fun _=>⟨hz,h⟩,fun h=>absurd h0 h⟩]
   ·unfold Nd.e; rw[if_neg fun ok=>hn ((ok.2.1 h0).2 i hi)]
  rw[XV fun i hi=>Nd.nf_rc h hi]
  exact hc
theorem Nd.nf_en {x:Nd}(h:x.wl) {i:Nat}(hi:i < 4):(x.en i).nf.e=(x.en i).e:=by rw[En.nf_eq (h.2 i hi)]
theorem zxF {x:Nd}(h:x.wl) (h0:x.lv≠0) (h5:x.lv≤5):za8 (fun i=>(x.rc i).zb) (Is (nI x.e) (nI 1)) (qu (fun i=>(x.en i).nf.e) (Is (nI x.e))):=by
 refine zet (P:=fun i=>(x.rc i).zero) (fun i=>Rc.zb_t) (fun⟨i,hi,hn⟩=>Is.of ?_) fun hz=>?_
 ·unfold Nd.e; rw[if_neg fun ok=>hn ((ok.2.2 h0).1 i hi)]
 ·have hc:qu (fun i=>(x.en i).e) (Is (nI x.e)):=by
   refine za9 (P:=fun i=>(x.en i).ok) (fun i h=>En.e_t h) (fun i h=>En.e_f h) (fun h=>?_) fun⟨i,hi,hn⟩=>?_
   ·unfold Nd.e; rw[if_pos ⟨h5,fun h=>absurd h h0,fun _=>⟨hz,h⟩⟩]
   ·unfold Nd.e; rw[if_neg fun ok=>hn ((ok.2.2 h0).2 i hi)]
  rw[XV fun i hi=>Nd.nf_en h hi]
  exact hc
theorem zi2 {x:Nd}{q:Prop}(h:x.lv≤5→q):alt (gt5 x.lv) (Is (nI x.e) (nI 1)) q:=by
 simp only[zg,show gt5 x.lv=true↔5 < x.lv from jS,bf (show gt5 x.lv=true↔5 < x.lv from jS)]
 refine⟨fun h=>Is.of ?_,fun h'=>h (by omega)⟩
 unfold Nd.e; rw[if_neg fun ok=>by have:=ok.1; omega]
def zba:zh:=fun l K=>la1 l fun v=>qj v fun x=>K (nI x.e)
theorem zcs:KCS Tryz.prog 192 zba:=Q5 zxz rfl ⟨Tryz.f192,Tryz.func192,by kernel_rfl,by kernel_rfl⟩ 60 (fun v f h=>XA h) (fun x=>rfl) fun x w=>by
 obtain⟨lv,ix,rc,en⟩:=x
 cases lv with
 | zero =>
  show zpa ⟨0,ix,rc,en⟩ (Is (nI _))
  rw[zxC]
  exact zi1 (zxE w rfl)
 | succ l =>
  show zpb l ⟨Nat.succ l,ix,rc,en⟩ (Is (nI _))
  rw[zxD]
  exact zi2 (x:=⟨l + 1,ix,rc,en⟩) fun h5=>zi1 (zxF w (by simp) h5)
theorem zbb:KCS Tryz.prog 60 zba:=Q5 zxz rfl ⟨Tryz.f60,Tryz.func60,by kernel_rfl,by kernel_rfl⟩ 60 (fun v f h=>XA h) (fun x=>rfl) fun x w=>by
 obtain⟨lv,ix,rc,en⟩:=x
 cases lv with
 | zero =>
  show zxA ⟨0,ix,rc,en⟩ (Is (nI _))
  rw[zCD]
  exact zxE w rfl
 | succ l =>
  show zxB l ⟨Nat.succ l,ix,rc,en⟩ (Is (nI _))
  rw[zCE]
  exact zi2 (x:=⟨l + 1,ix,rc,en⟩) fun h5=>zxF w (by simp) h5
end
end Go.K
namespace Go.Y.SR
open Go.Y
theorem vS (a l r:Nat):S.rot a l r=R.rot a l r:=by
 unfold S.rot R.rot S.or32
 rw[Nat.or_comm]
theorem zyV (e f g:Nat):S.ch e f g=R.ch e f g:=by
 unfold S.ch R.ch S.xor32 S.or32 S.and32 S.not32
 apply Nat.eq_of_testBit_eq
 intro i
 have h32:(4294967296:Nat)=2 ^ 32:=by decide
 rw[h32]
 simp only[Nat.testBit_mod_two_pow,Nat.testBit_xor,Nat.testBit_or,Nat.testBit_and]
 cases h:decide (i < 32) with
 | false=>simp
 | true =>
  have hb:Nat.testBit 4294967295 i=true:=by
   have:(4294967295:Nat)=2 ^ 32 - 1:=by decide
   rw[this,Nat.testBit_two_pow_sub_one]; exact h
  simp only[hb]
  cases e.testBit i<;>cases f.testBit i<;>cases g.testBit i<;>rfl
theorem ztp (a b c:Nat):S.maj a b c=R.maj a b c:=by
 unfold S.maj R.maj S.xor32 S.or32 S.and32
 apply Nat.eq_of_testBit_eq
 intro i
 have h32:(4294967296:Nat)=2 ^ 32:=by decide
 rw[h32]
 simp only[Nat.testBit_mod_two_pow,Nat.testBit_xor,Nat.testBit_or,Nat.testBit_and]
 cases h:decide (i < 32) with
 | false=>simp
 | true=>cases a.testBit i<;>cases b.testBit i<;>cases c.testBit i<;>rfl
theorem zmY (a:Nat):S.big0 a=R.big0 a:=by unfold S.big0 R.big0; rw[vS,vS,vS]
theorem zmZ (a:Nat):S.big1 a=R.big1 a:=by unfold S.big1 R.big1; rw[vS,vS,vS]
theorem ztq (a:Nat):S.sg0 a=R.sg0 a:=by unfold S.sg0 R.sg0; rw[vS,vS]
theorem ztr (a:Nat):S.sg1 a=R.sg1 a:=by unfold S.sg1 R.sg1; rw[vS,vS]
theorem zjC (a b c d:Nat):S.nextW a b c d=R.nextW a b c d:=by
 unfold S.nextW R.nextW
 rw[ztq,ztr]
 unfold S.add32
 omega
theorem orA {x b:Nat}(hx:x < 16777216) (hb:b < 256):S.or64 (S.shl64 x 256) (S.to64 b)=x * 256 + b:=by
 unfold S.or64 S.shl64 S.to64
 rw[Nat.mod_eq_of_lt (by omega:x * 256 < 18446744073709551616),Nat.mod_eq_of_lt (by omega:b < 18446744073709551616)]
 have h:=Nat.two_pow_add_eq_or_of_lt (i:=8) (b:=b) (by omega) x
 rw[show x * 256=2 ^ 8 * x by omega,←h]
 omega
theorem adA {x b:Nat}(hx:x < 16777216) (hb:b < 256):R.add64 (S.shl64 x 256) (S.to64 b)=x * 256 + b:=by
 unfold R.add64 S.shl64 S.to64
 omega
theorem orZ {b:Nat}(hb:b < 256):S.or64 0 (S.to64 b)=b:=by
 unfold S.or64 S.to64
 rw[Nat.zero_or]; omega
theorem adZ {b:Nat}(hb:b < 256):R.add64 (S.shl64 0 256) (S.to64 b)=b:=by
 unfold R.add64 S.shl64 S.to64; omega
theorem ld4 {a b c d:Nat}(ha:a < 256) (hb:b < 256) (hc:c < 256) (hd:d < 256):S.or64 (S.shl64 (S.or64 (S.shl64 (S.or64 (S.shl64 (S.or64 0 (S.to64 a)) 256) (S.to64 b)) 256) (S.to64 c)) 256) (S.to64 d)=R.add64 (S.shl64 (R.add64 (S.shl64 (R.add64 (S.shl64 (R.add64 (S.shl64 0 256) (S.to64 a)) 256) (S.to64 b)) 256) (S.to64 c)) 256) (S.to64 d):=by
 have e1:S.or64 (S.shl64 a 256) (S.to64 b)=a * 256 + b:=orA (by omega) hb
 have f1:R.add64 (S.shl64 a 256) (S.to64 b)=a * 256 + b:=adA (by omega) hb
 generalize hx:a * 256 + b=x at e1 f1
 have e2:S.or64 (S.shl64 x 256) (S.to64 c)=x * 256 + c:=orA (by omega) hc
 have f2:R.add64 (S.shl64 x 256) (S.to64 c)=x * 256 + c:=adA (by omega) hc
 generalize hy:x * 256 + c=y at e2 f2
 have e3:S.or64 (S.shl64 y 256) (S.to64 d)=y * 256 + d:=orA (by omega) hd
 have f3:R.add64 (S.shl64 y 256) (S.to64 d)=y * 256 + d:=adA (by omega) hd
 rw[orZ ha,adZ ha,e1,f1,e2,f2,e3,f3]
theorem l1 (b:Nat→Nat) (t:Nat):S.load32 b t=S.to32 (S.or64 (S.shl64 (S.or64 (S.shl64 (S.or64 (S.shl64 (S.or64 0 (S.to64 (b (4*t)))) 256) (S.to64 (b (4*t+1)))) 256) (S.to64 (b (4*t+2)))) 256) (S.to64 (b (4*t+3)))):=by unfold S.load32; rfl
theorem l2 (b:Nat→Nat) (t:Nat):R.load32 b t=S.to32 (R.add64 (S.shl64 (R.add64 (S.shl64 (R.add64 (S.shl64 (R.add64 (S.shl64 0 256) (S.to64 (b (4*t)))) 256) (S.to64 (b (4*t+1)))) 256) (S.to64 (b (4*t+2)))) 256) (S.to64 (b (4*t+3)))):=by unfold R.load32; rfl
theorem zm4 {b:Nat→Nat}{t:Nat}(h0:b (4 * t) < 256) (h1:b (4 * t + 1) < 256) (h2:b (4 * t + 2) < 256) (h3:b (4 * t + 3) < 256):S.load32 b t=R.load32 b t:=by
 rw[l1,l2,ld4 h0 h1 h2 h3]
theorem gL_congr {ld ld':Nat→Nat}{nw nw':Nat→Nat→Nat→Nat→Nat}(h1:∀ t,t < 16→ld t=ld' t) (h2:∀ a b c d,nw a b c d=nw' a b c d):∀ t,S.gL ld nw t=S.gL ld' nw' t
 | 0=>rfl
 | t + 1=>by
  have ih:=gL_congr h1 h2 t
  show (bif decide (t < 16) then ld t else nw ((S.gL ld nw t).getD 14 0) ((S.gL ld nw t).getD 1 0) ((S.gL ld nw t).getD 6 0) ((S.gL ld nw t).getD 15 0))::S.gL ld nw t=(bif decide (t < 16) then ld' t else nw' ((S.gL ld' nw' t).getD 14 0) ((S.gL ld' nw' t).getD 1 0) ((S.gL ld' nw' t).getD 6 0) ((S.gL ld' nw' t).getD 15 0))::S.gL ld' nw' t
  rw[ih]
  by_cases ht:t < 16
  ·rw[show decide (t < 16)=true by simpa using ht,cond_true,cond_true,h1 t ht]
  ·rw[show decide (t < 16)=false by simpa using ht,cond_false,cond_false,h2]
theorem zyW {b:Nat→Nat}(h:∀ i,i < 64→b i < 256) (t:Nat):S.gL (S.load32 b) S.nextW t=S.gL (R.load32 b) R.nextW t :=
 gL_congr (fun t ht=>zm4 (h _ (by omega)) (h _ (by omega)) (h _ (by omega)) (h _ (by omega))) zjC t
theorem zjD {b:Nat→Nat}(h:∀ i,i < 64→b i < 256):S.sched b=R.sched b:=by
 funext j
 unfold S.sched R.sched
 rw[zyW h]
theorem Yj (k w:Nat) (s:S.St):S.rnd k w s=R.rnd k w s:=by
 unfold S.rnd R.rnd S.t1 R.t1 S.t2 R.t2
 rw[zmY,zmZ,zyV,ztp]
theorem Q1 (w:Nat→Nat) (s:S.St):∀ t,S.rounds w s t=R.rounds w s t
 | 0=>rfl
 | t + 1=>by
  show S.rnd _ _ (S.rounds w s t)=R.rnd _ _ (R.rounds w s t)
  rw[Q1 w s t,Yj]
theorem comp_eq {h b:Nat→Nat}(hb:∀ i,i < 64→b i < 256) (j:Nat):S.comp h b j=R.comp h b j:=by
 unfold S.comp R.comp
 rw[zjD hb,Q1]
end Go.Y.SR
namespace Go.K
open Go.Ab Go.RowKit Go.Y Go.Proofs
noncomputable section
attribute [local irreducible] zj zi
theorem zcW (f:Nat→Nat) (z:V):∀ n i,(trN f n).atv (enc i) z=if i < n then .int .u8 (.ofNat (f i)) else z
 | 0,i=>by rw[if_neg (by omega)]; rfl
 | n + 1,i=>by
  show (xD (.int .u8 (.ofNat (f n))) (enc n) (trN f n)).atv (enc i) z=_
  rw[jD,zcW f z n i]
  by_cases h:i=n
  ·subst h; rw[if_pos rfl,if_pos (by omega)]; rfl
  ·rw[if_neg h]
   by_cases h2:i < n
   ·rw[if_pos h2,if_pos (by omega)]
   ·rw[if_neg h2,if_neg (by omega)]
theorem zkf (f:Nat→Nat):(xx f).v=.arr 16 fun i=>(trN f 16).atv (enc i) (.int .u8 (.ofNat 0)):=rfl
theorem zkg (x i:Nat):pkg .u8 x i=.ofNat (pkr .u8 x i):=rfl
theorem zbo {x:Nat}{f:Nat→Nat}(h:∀ i,i < 16→pkr .u8 x i=f i):Imp (KV.pk .u8 16 x).v (xx f).v:=by
 rw[wI,zkf]
 exact Imp.arrE fun i hi=>by rw[zcW,if_pos hi,zkg,h i hi]
theorem zkh {x:Nat}{f:Nat→Nat}(h:∀ i,i < 16→pkr .u8 x i=f i):Imp (xx f).v (KV.pk .u8 16 x).v:=by
 rw[wI,zkf]
 exact Imp.arrE fun i hi=>by rw[zcW,if_pos hi,zkg,h i hi]
theorem zeZ (g:Nat→Nat) (z:V):∀ n i,(zky g n).atv (enc i) z=if i < n then (xx fun j=>g (16 * i + j)).v else z
 | 0,i=>by rw[if_neg (by omega)]; rfl
 | n + 1,i=>by
  show (xD (xx fun j=>g (16 * n + j)) (enc n) (zky g n)).atv (enc i) z=_
  rw[jD,zeZ g z n i]
  by_cases h:i=n
  ·subst h; rw[if_pos rfl,if_pos (by omega)]
  ·rw[if_neg h]
   by_cases h2:i < n
   ·rw[if_pos h2,if_pos (by omega)]
   ·rw[if_neg h2,if_neg (by omega)]
def XF (s:KV) (k:Nat):Nat:=match zQ k s with
 | .pk _ _ x=>x
 | _=>0
def zki (s:KV) (k:Nat):Bool:=match zQ k s with
 | .pk kd n _=>nd (xa kd .u8) (Nat.beq n 16)
 | _=>false
def JF (s:KV):Nat→Bool
 | 0=>true
 | n + 1=>nd (JF s n) (zki s n)
theorem zbp {s:KV}:∀ {n:Nat},JF s n=true→∀ k,k < n→zQ k s=.pk .u8 16 (XF s k)
 | 0,_,k,hk=>by omega
 | n + 1,h,k,hk=>by
  obtain⟨h1,h2⟩:=zd.1 (show nd (JF s n) (zki s n)=true from h)
  rcases Nat.lt_or_ge k n with h3 | h3
  ·exact zbp h1 k h3
  ·obtain rfl:k=n:=by omega
   unfold zki at h2
   unfold XF
   split at h2
   ·rename_i kd n x hx
    obtain⟨q1,q2⟩:=zd.1 h2
    obtain rfl:=zD q1
    obtain rfl:=zI q2
    rw[hx]
   ·cases h2
def gOf (s:KV) (j:Nat):Nat:=pkr .u8 (XF s (j / 16)) (j % 16)
theorem znq {d t:KV}(h:JF (.ar 11 d t) 11=true):Imp (KV.ar 11 d t).v (Zi (gOf (.ar 11 d t))).v:=by
 have h0:=zbp h
 show Imp (V.arr 11 fun i=>t.atv (enc i) d.v) (V.arr 11 fun i=>(zky (gOf (.ar 11 d t)) 11).atv (enc i) (KV.ar 16 (.int .u8 (.ofNat 0)) .te).v)
 refine Imp.arr fun i hi=>?_
 rw[zeZ,if_pos hi]
 have h1:t.atv (enc i) d.v=(KV.pk .u8 16 (XF (.ar 11 d t) i)).v:=by
  rw[←h0 i hi,xU]; rfl
 rw[h1]
 refine zbo fun j hj=>?_
 show _=pkr .u8 (XF _ ((16 * i + j) / 16)) ((16 * i + j) % 16)
 rw[show (16 * i + j) / 16=i by omega,show (16 * i + j) % 16=j by omega]
def jr (x i:Nat):Nat:=pkr .u8 x i
def zue (x N:Nat) (K:Nat→Prop):Prop:=pkK (C.rot (jr x)) 16 fun y=>pkK (fun i=>C.x8 (C.mix (jr y) i) (jr N i)) 16 K
def zuf (s:KV) (n:Nat) (x:Nat) (K:Nat→Prop):Prop:=@Nat.rec (fun _=>(Nat→Prop)→Prop) (fun K=>K x) (fun n ih K=>ih fun x=>zue x (XF s (Nat.succ n)) K) n K
def zug (s:KV) (b:Nat) (K:Nat→Prop):Prop:=pkK (fun i=>C.x8 (jr b i) (jr (XF s 0) i)) 16 fun x=>zuf s 9 x fun x=>pkK (fun i=>C.x8 (C.rot (jr x) i) (jr (XF s 10) i)) 16 K
theorem zkj {x y:Nat→Nat}(h:∀ i,i < 16→x i=y i) {i:Nat}(hi:i < 16):C.rot x i=C.rot y i:=by
 unfold C.rot
 rw[jj,jj,h _ (by omega)]
theorem zuh {x y:Nat→Nat}(h:∀ i,i < 16→x i=y i) {i:Nat}(hi:i < 16):C.mix x i=C.mix y i:=by
 unfold C.mix
 simp only[jj]
 rw[h _ (show 4 * (i / 4) + (i % 4 + 0) % 4 < 16 by omega),h _ (show 4 * (i / 4) + (i % 4 + 1) % 4 < 16 by omega),h _ (show 4 * (i / 4) + (i % 4 + 2) % 4 < 16 by omega),h _ (show 4 * (i / 4) + (i % 4 + 3) % 4 < 16 by omega)]
theorem zcX (s:KV) (k i:Nat) (hi:i < 16):gOf s (16 * k + i)=jr (XF s k) i:=by
 unfold gOf jr
 rw[show (16 * k + i) / 16=k by omega,show (16 * k + i) % 16=i by omega]
theorem zkk (s:KV) (f:Nat→Nat) (x:Nat) (hx:∀ i,i < 16→jr x i=C.rnd f (gOf s) 0 i):∀(n:Nat) (K:Nat→Prop),zuf s n x K→∃ y,K y∧∀ i,i < 16→jr y i=C.rnd f (gOf s) n i
 | 0,K,h=>⟨x,h,hx⟩
 | n + 1,K,h=>by
  obtain⟨y,h1,h2⟩:=zkk s f x hx n _ (show zuf s n x (fun x=>zue x (XF s (Nat.succ n)) K) from h)
  unfold zue at h1
  rw[V0,V0] at h1
  refine⟨_,h1,fun i hi=>?_⟩
  show pkr .u8 _ i=_
  rw[ZL (fun i=>wR _ _) hi]
  show C.x8 (C.mix (jr (pkA (C.rot (jr y)) 16)) i) (jr (XF s (n + 1)) i)=C.x8 (C.mix (C.rot (C.rnd f (gOf s) n)) i) (gOf s (16 * (n + 1) + i))
  rw[zcX s (n + 1) i hi,zuh (y:=C.rot (C.rnd f (gOf s) n)) (fun j hj=>?_) hi]
  show pkr .u8 _ j=_
  rw[ZL (h:=C.rot (jr y)) (fun i=>zkA _) hj]
  exact zkj h2 hj
theorem zui {s:KV}{b:Nat}{K:Nat→Prop}(h:zug s b K):∃ z,K z∧∀ i,i < 16→pkr .u8 z i=C.enc (jr b) (gOf s) i:=by
 unfold zug at h
 rw[V0] at h
 obtain⟨y,h1,h2⟩:=zkk s (jr b) _ (fun i hi=>by
  show pkr .u8 _ i=_
  rw[ZL (fun i=>wR _ _) hi]
  show C.x8 (jr b i) (jr (XF s 0) i)=C.x8 (jr b i) (gOf s i)
  have:=zcX s 0 i hi
  rw[Nat.mul_zero,Nat.zero_add] at this
  rw[this]) 9 _ h
 rw[V0] at h1
 refine⟨_,h1,fun i hi=>?_⟩
 rw[ZL (fun i=>wR _ _) hi]
 show C.x8 (C.rot (jr y) i) (jr (XF s 10) i)=C.x8 (C.rot (C.rnd (jr b) (gOf s) 9) i) (gOf s (160 + i))
 rw[zkj h2 hi]
 have:=zcX s 10 i hi
 rw[this]
end
end Go.K
namespace Go.K
open Go.Ab Go.RowKit Go.Y Go.Proofs
noncomputable section
attribute [local irreducible] zj zi
theorem vb {P:Nat→Prop}{a m:Nat}(h:zG (fun t=>P (a + t)) m) {n:Nat}(h1:a≤n) (h2:n < a + m):P n:=by
 have:=zas h (n - a) (by omega)
 rwa [show a + (n - a)=n by omega] at this
theorem zjv:∀ n,n < 256→qs n:=by
 have key:∀ k,k < 8→∀ n,32 * k≤n→n < 32 * k + 32→qs n
  | 0,_,n,h1,h2=>vb zBL h1 h2
  | 1,_,n,h1,h2=>vb zwi h1 h2
  | 2,_,n,h1,h2=>vb zwj h1 h2
  | 3,_,n,h1,h2=>vb zwk h1 h2
  | 4,_,n,h1,h2=>vb zrl h1 h2
  | 5,_,n,h1,h2=>vb zrm h1 h2
  | 6,_,n,h1,h2=>vb zrn h1 h2
  | 7,_,n,h1,h2=>vb zro h1 h2
  | k + 8,h,_,_,_=>absurd h (by omega)
 exact fun n h=>key (n / 32) (by omega) n (by omega) (by omega)
theorem zjw:∀ n,n < 1024→qt n:=by
 have key:∀ k,k < 8→∀ n,128 * k≤n→n < 128 * k + 128→qt n
  | 0,_,n,h1,h2=>vb zCe h1 h2
  | 1,_,n,h1,h2=>vb zr3 h1 h2
  | 2,_,n,h1,h2=>vb zr4 h1 h2
  | 3,_,n,h1,h2=>vb zr5 h1 h2
  | 4,_,n,h1,h2=>vb zre h1 h2
  | 5,_,n,h1,h2=>vb zrf h1 h2
  | 6,_,n,h1,h2=>vb zrg h1 h2
  | 7,_,n,h1,h2=>vb zrh h1 h2
  | k + 8,h,_,_,_=>absurd h (by omega)
 exact fun n h=>key (n / 128) (by omega) n (by omega) (by omega)
theorem zC2 (n:Nat) (h:qs n):KCS E1.P 311 (yY [.int .u8 (.ofNat n)] (.int .u8 (.ofNat (pkr .u8 sbN n)))):=by
 unfold qs at h
 exact WE ok1 h rfl rfl
theorem zC3 (n:Nat) (h:qt n):KCS E1.P 328 (yY [.int .u8 (.ofNat (n / 256)),.int .u8 (.ofNat (n % 256))] (.int .u8 (.ofNat (pkr .u8 mtN n)))):=by
 unfold qt at h
 exact WE ok1 h rfl rfl
theorem zcE:KCS E1.P 311 (zgQ sbN):=zls fun n hn=>zC2 n (zjv n hn)
theorem zjx:KCS E1.P 328 (znZ 4 mtN):=zlt (by decide) fun n hn=>zC3 n (zjw n hn)
end
end Go.K
