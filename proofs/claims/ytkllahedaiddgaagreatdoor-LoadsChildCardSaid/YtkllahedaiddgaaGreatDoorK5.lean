/- Single operations: what is made, appended, copied, converted. No condition. -/
import Derived.Test.YtkllahedaiddgaaGreatDoorK2
set_option linter.unusedSimpArgs false
set_option linter.unusedVariables false
namespace Go.K
open Go.Ab Go.RowKit Go.Y
noncomputable section
variable [KGl]
section
variable {P:Program}{B:Nat}{o:Oper}{τ:Nat→KV}{lo:Nat}{zm:KZ}{nx:Nat}{K:KT}
abbrev NF:=IntKind→Int→IntKind→Int→(KV→Prop)→Prop
def bI (f:IntKind→Int→Int→Int):NF:=fun k a k' b K=>chk (xa k k') 60 (fI (f k a b) fun r=>K (.int k r))
def V8 (k:IntKind) (r:Nat) (K:Int→Prop):Prop:=@Bool.rec (fun _=>Prop) (K (.ofNat (Nat.mod r (mdl k)))) (cnd (Nat.blt r (hlf k)) (K (.ofNat r))) (sgn k)
omit [KGl] in
theorem V9 {k:IntKind}{r:Nat}{K:Int→Prop}(h:V8 k r K):K (qE k r):=by
 unfold V8 at h
 unfold qE
 cases hs:sgn k with
 | false=>rw[hs] at h; exact h
 | true =>
  rw[hs] at h
  obtain⟨h1,h2⟩:=za.1 (show cnd (Nat.blt r (hlf k)) (K (.ofNat r)) from h)
  show K (bif Nat.blt r (hlf k) then .ofNat r else k.wrap (.ofNat r))
  rw[h1]; exact h2
abbrev PF:=IntKind→Int→Int→(Int→Prop)→Prop
def on2 (g:Nat→Nat→Prop) (z:Prop) (a b:Int):Prop:=@Int.rec (fun _=>Prop) (fun x=>@Int.rec (fun _=>Prop) (fun y=>g x y) (fun _=>z) b) (fun _=>z) a
omit [KGl] in
theorem zdG {g:Nat→Nat→Prop}{z p:Prop}{a b:Int}(h:on2 g z a b) (h1:∀ x y,a=.ofNat x→b=.ofNat y→g x y→p) (h2:z→p):p:=by
 cases a with
 | negSucc x=>exact h2 h
 | ofNat x =>
  cases b with
  | negSucc y=>exact h2 h
  | ofNat y=>exact h1 x y rfl rfl h
def zvz:PF:=fun k a b K=>on2 (fun x y=>V8 k (Nat.add x y) K) (K (zff k a b)) a b
def zvA:PF:=fun k a b K=>on2 (fun x y=>V8 k (Nat.mul x y) K) (K (zfg k a b)) a b
def zvB:PF:=fun k a b K=>on2 (fun x y=>V8 k (Nat.div x y) K) (K (zfi k a b)) a b
def zhH:PF:=fun k a b K=>on2 (fun x y=>@Bool.rec (fun _=>Prop) (K (VD k a b)) (@Bool.rec (fun _=>Prop) (K (VD k a b)) (V8 k (Nat.sub x y) K) (sgn k)) (Nat.ble y x)) (K (VD k a b)) a b
omit [KGl] in
theorem zqS {k:IntKind}{a b:Int}{K:Int→Prop}(h:zvz k a b K):K (zff k a b):=zdG h (fun x y e1 e2 h=>by subst e1; subst e2; exact V9 h) id
omit [KGl] in
theorem zqT {k:IntKind}{a b:Int}{K:Int→Prop}(h:zvA k a b K):K (zfg k a b):=zdG h (fun x y e1 e2 h=>by subst e1; subst e2; exact V9 h) id
omit [KGl] in
theorem zqU {k:IntKind}{a b:Int}{K:Int→Prop}(h:zvB k a b K):K (zfi k a b):=zdG h (fun x y e1 e2 h=>by subst e1; subst e2; exact V9 h) id
omit [KGl] in
theorem zhI {k:IntKind}{a b:Int}{K:Int→Prop}(h:zhH k a b K):K (VD k a b):=zdG h (fun x y e1 e2 h=>by
 subst e1; subst e2
 cases hb:Nat.ble y x with
 | false=>rw[hb] at h; exact h
 | true =>
  rw[hb] at h
  cases hs:sgn k with
  | false=>rw[hs] at h; exact h
  | true =>
   rw[hs] at h
   have:=V9 (show V8 k (Nat.sub x y) K from h)
   show K (@Bool.rec (fun _=>Int) (qE k (x + (mdl k - y % mdl k))) (bif Nat.ble y x then qE k (x - y) else k.wrap (Int.ofNat x - Int.ofNat y)) (sgn k))
   rw[hs,hb]; exact this) id
def zqV (k:IntKind) (a:Int) (K:Int→Prop):Prop:=@Int.rec (fun _=>Prop) (fun x=>V8 k x K) (fun _=>K (VF k a)) a
omit [KGl] in
theorem zqW {k:IntKind}{a:Int}{K:Int→Prop}(h:zqV k a K):K (VF k a):=by
 cases a with
 | ofNat x=>exact V9 h
 | negSucc x=>exact h
def bP (f:IntKind→Int→Int→Int) (p:PF):NF:=fun k a k' b K=>chk (xa k k') 60 (@Bool.rec (fun _=>Prop) (p k a b fun r=>K (.int k r)) (fI (f k a b) fun r=>K (.int k r)) Gl.cl)
theorem zqX {f:IntKind→Int→Int→Int}{p:PF}(hp:∀ {k a b K},p k a b K→K (f k a b)) {k k':IntKind}{a b:Int}{K:KV→Prop}(h:bP f p k a k' b K):bI f k a k' b K:=by
 unfold bP at h
 unfold bI
 obtain⟨h1,h2⟩:=ze h
 rw[h1]
 show fI (f k a b) fun r=>K (.int k r)
 rw[jV]
 cases hc:(Gl.cl:Bool) with
 | false=>rw[hc] at h2; exact hp (K:=fun r=>K (.int k r)) h2
 | true=>rw[hc] at h2; have h2:fI (f k a b) fun r=>K (.int k r):=h2; rwa [jV] at h2
def bD (f:IntKind→Int→Int→Int):NF:=fun k a k' b K=>chk (xa k k') 61 (cnd (neB b) (fI (f k a b) fun r=>K (.int k r)))
def bDP (f:IntKind→Int→Int→Int) (p:PF):NF:=fun k a k' b K=>chk (xa k k') 61 (cnd (neB b) (@Bool.rec (fun _=>Prop) (p k a b fun r=>K (.int k r)) (fI (f k a b) fun r=>K (.int k r)) Gl.cl))
theorem zvC {f:IntKind→Int→Int→Int}{p:PF}(hp:∀ {k a b K},p k a b K→K (f k a b)) {k k':IntKind}{a b:Int}{K:KV→Prop}(h:bDP f p k a k' b K):bD f k a k' b K:=by
 unfold bDP at h
 unfold bD
 obtain⟨h1,h2⟩:=ze h
 obtain⟨h3,h4⟩:=za.1 h2
 rw[h1]
 refine za.2 ⟨h3,?_⟩
 rw[jV]
 cases hc:(Gl.cl:Bool) with
 | false=>rw[hc] at h4; exact hp (K:=fun r=>K (.int k r)) h4
 | true=>rw[hc] at h4; have h4:fI (f k a b) fun r=>K (.int k r):=h4; rwa [jV] at h4
def bS (f:IntKind→Int→Nat→Int):NF:=fun k a _ b K=>cnd (geB b) (fI (f k a (min b.toNat k.bits)) fun r=>K (.int k r))
def bB (f:Int→Int→Bool):NF:=fun k a k' b K=>chk (xa k k') 62 (fB (f a b) fun r=>K (.bool r))
def zqY (k:IntKind) (a b:Int):Int:=match a,b with
 | .ofNat x,.ofNat y=>.ofNat (x % y)
 | a,b=>a.tmod b
omit [KGl] in
theorem zlQ (k:IntKind) (a b:Int):zqY k a b=a.tmod b:=by
 unfold zqY
 split
 ·rfl
 ·rfl
def anI (k:IntKind) (a b:Int):Int:=k.wrap (BitVec.ofInt k.bits a &&& ~~~ BitVec.ofInt k.bits b).toNat
def zBr (k:IntKind) (a:Int) (n:Nat):Int:=fdv a (2 ^ n)
def zvD (op:BinOp):NF:=@BinOp.rec (fun _=>NF) (bP zff zvz) (bP VD zhH) (bP zfg zvA) (bDP zfi zvB) (bD zqY) (bI zk7) (bI orI) (bI zgw) (bS zfh) (bS zBr) (bI anI)
 (bB eqI) (bB fun a b=>!eqI a b) (bB ltI) (bB leI) (bB fun a b=>ltI b a) (bB fun a b=>leI b a) op
def zvE (op:BinOp) (k:IntKind) (a:Int) (zm:KZ) (nx:Nat) (K:KT) (k':IntKind) (b:Int):Prop:=zvD op k a k' b fun r=>K r zm nx [] []
omit [KGl] in
theorem xn (op:BinOp) (t:TypeId) (k k':IntKind) (a b:Int):v6 P op t (.int k a) (.int k' b)=qe P op t (.int k a) (.int k' b):=rfl
omit [KGl] in
theorem Ja (op:BinOp) (t:TypeId) (a b:Bool):v6 P op t (.bool a) (.bool b)=qe P op t (.bool a) (.bool b):=rfl
theorem zqZ {op:BinOp}{t t':TypeId}{x y:Operand}{k k':IntKind}{a b:Int}(ho:o.op=.binOp op t x y t') (hx:kev τ x=.int k a) (hy:kev τ y=.int k' b) (h:zvD op k a k' b fun r=>K r zm nx [] []):Out P B o τ lo zm nx K:=by
 have qx:opv Gl.G (tv' τ) x=.int k a:=by rw[←zK,hx]; rfl
 have qy:opv Gl.G (tv' τ) y=.int k' b:=by rw[←zK,hy]; rfl
 have fin:∀ {r:KV},K r zm nx [] []→(v6 P op t (.int k a) (.int k' b)).is (zk r.v)→Out P B o τ lo zm nx K:=fun hk hr =>
  Out.pure hk (vX (e:=zk _) ho (by rw[qx,qy]; exact hr)) (EImp.refl _)
 have hI:∀ {f:IntKind→Int→Int→Int},bI f k a k' b (fun r=>K r zm nx [] [])→k'=k∧K (.int k (f k a b)) zm nx [] []:=fun h=>by
  obtain⟨h1,h2⟩:=ze h
  rw[jV] at h2
  exact⟨(zD h1).symm,h2⟩
 have hB:∀ {f:Int→Int→Bool},bB f k a k' b (fun r=>K r zm nx [] [])→k'=k∧K (.bool (f a b)) zm nx [] []:=fun h=>by
  obtain⟨h1,h2⟩:=ze h
  rw[Jj] at h2
  exact⟨(zD h1).symm,h2⟩
 have hD:∀ {f:IntKind→Int→Int→Int},bD f k a k' b (fun r=>K r zm nx [] [])→k'=k∧neB b=true∧K (.int k (f k a b)) zm nx [] []:=fun h=>by
  obtain⟨h1,h2⟩:=ze h
  obtain⟨h3,h4⟩:=za.1 h2
  rw[jV] at h4
  exact⟨(zD h1).symm,h3,h4⟩
 have hS:∀ {f:IntKind→Int→Nat→Int},bS f k a k' b (fun r=>K r zm nx [] [])→geB b=true∧K (.int k (f k a (min b.toNat k.bits))) zm nx [] []:=fun h=>by
  obtain⟨h3,h4⟩:=za.1 h
  rw[jV] at h4
  exact⟨h3,h4⟩
 have ikr:∀ k,xa k k=true:=fun k=>by cases k<;>rfl
 cases op
 case shl=>obtain⟨h1,h2⟩:=hS h; exact fin h2 ⟨h1,rfl⟩
 case shr=>obtain⟨h1,h2⟩:=hS h; exact fin h2 ⟨h1,rfl⟩
 case add=>obtain⟨rfl,h2⟩:=hI (zqX zqS h); exact fin h2 (by rw[xn]; simp only[qe,ikr,if_true]; rfl)
 case sub=>obtain⟨rfl,h2⟩:=hI (zqX zhI h); exact fin h2 (by rw[xn]; simp only[qe,ikr,if_true]; rfl)
 case mul=>obtain⟨rfl,h2⟩:=hI (zqX zqT h); exact fin h2 (by rw[xn]; simp only[qe,ikr,if_true]; rfl)
 case quo=>obtain⟨rfl,h1,h2⟩:=hD (zvC zqU h); exact fin h2 (by rw[xn]; simp only[qe,ikr,if_true]; exact⟨h1,rfl⟩)
 case rem=>obtain⟨rfl,h1,h2⟩:=hD h; exact fin h2 (by rw[xn]; simp only[qe,ikr,if_true]; exact⟨h1,by rw[yC,zlQ]; rfl⟩)
 case eql=>obtain⟨rfl,h2⟩:=hB h; exact fin h2 (by rw[xn]; simp only[qe,ikr,if_true]; rfl)
 case neq=>obtain⟨rfl,h2⟩:=hB (f:=fun a b=>!eqI a b) h; exact fin h2 (by rw[xn]; simp only[qe,ikr,if_true]; rfl)
 case lss=>obtain⟨rfl,h2⟩:=hB h; exact fin h2 (by rw[xn]; simp only[qe,ikr,if_true]; rfl)
 case leq=>obtain⟨rfl,h2⟩:=hB h; exact fin h2 (by rw[xn]; simp only[qe,ikr,if_true]; rfl)
 case gtr=>obtain⟨rfl,h2⟩:=hB (f:=fun a b=>ltI b a) h; exact fin h2 (by rw[xn]; simp only[qe,ikr,if_true]; rfl)
 case geq=>obtain⟨rfl,h2⟩:=hB (f:=fun a b=>leI b a) h; exact fin h2 (by rw[xn]; simp only[qe,ikr,if_true]; rfl)
 all_goals
  obtain⟨rfl,h2⟩:=hI h
  exact fin h2 (by rw[xn]; simp only[qe,ikr,if_true]; rfl)
def zdH (P:Program) (t:TypeId):Bool:=match P.underlying t with | some .bool=>true | _=>false
def eqn (op:BinOp) (b:Bool) (K:Bool→Prop):Prop:=@BinOp.rec (fun _=>Bool→(Bool→Prop)→Prop) (fun _ _=>BadN 63) (fun _ _=>BadN 63) (fun _ _=>BadN 63) (fun _ _=>BadN 63) (fun _ _=>BadN 63) (fun _ _=>BadN 63) (fun _ _=>BadN 63) (fun _ _=>BadN 63) (fun _ _=>BadN 63) (fun _ _=>BadN 63) (fun _ _=>BadN 63)
 (fun b K=>fB b K) (fun b K=>fB (!b) K) (fun _ _=>BadN 63) (fun _ _=>BadN 63) (fun _ _=>BadN 63) (fun _ _=>BadN 63) op b K
theorem ZK {op:BinOp}{b:Bool}{K:Bool→Prop}(h:eqn op b K):(op=.eql∧K b)∨(op=.neq∧K (!b)):=by
 cases op
 case eql=>exact .inl ⟨rfl,by have h:fB b K:=h; rwa [Jj] at h⟩
 case neq=>exact .inr ⟨rfl,by have h:fB (!b) K:=h; rwa [Jj] at h⟩
 all_goals exact (show BadN 63 from h).elim
def zaL (a b:Bool):Bool:=@Bool.rec (fun _=>Bool) (@Bool.rec (fun _=>Bool) true false b) b a
omit [KGl] in
theorem Vh (a b:Bool):zaL a b=(a==b):=by cases a<;>cases b<;>rfl
def zhJ (n x m y:Nat):Bool:=nd (Nat.beq n m) (Nat.beq (pkx .u8 x 0 n) (pkx .u8 y 0 m))
omit [KGl] in
theorem zhK {k:IntKind}{x y n:Nat}(h:∀ i,i < n→pkr k x i=pkr k y i):pkx k x 0 n=pkx k y 0 n:=by
 have hw:0 < wd k:=by cases k<;>decide
 apply Nat.eq_of_testBit_eq; intro b
 show (bts x (wd k * 0) (wd k * n)).testBit b=(bts y (wd k * 0) (wd k * n)).testBit b
 rw[xb,xb]
 by_cases hb:b < wd k * n
 ·have hi:b / wd k < n:=Nat.div_lt_of_lt_mul hb
  have h1:=congrArg (fun z=>z.testBit (b % wd k)) (h _ hi)
  replace h1:(bts x (wd k * (b / wd k)) (wd k)).testBit (b % wd k)=(bts y (wd k * (b / wd k)) (wd k)).testBit (b % wd k):=h1
  rw[xb,xb,Nat.div_add_mod] at h1
  have h2:b % wd k < wd k:=Nat.mod_lt _ hw
  simp only[h2,decide_true,Bool.true_and] at h1
  rw[Nat.mul_zero,Nat.zero_add,h1]
 ·simp [hb]
omit [KGl] in
theorem zdI {k:IntKind}{x y n:Nat}(h:pkx k x 0 n=pkx k y 0 n) (i:Nat) (hi:i < n):pkr k x i=pkr k y i:=by
 have h1:pkr k (pkx k x 0 n) i=pkr k (pkx k y 0 n) i:=by rw[h]
 rw[v3 hi,v3 hi,Nat.zero_add] at h1
 exact h1
omit [KGl] in
theorem zlR {k:IntKind}{r s:Nat}(hr:r < mdl k) (hs:s < mdl k) (h:dec k r=dec k s):r=s:=by
 have hh:=zdP k
 unfold dec at h
 cases hsg:sgn k with
 | false=>rw[hsg] at h; exact Int.ofNat.inj h
 | true =>
  rw[hsg] at h
  replace h:@Bool.rec (fun _=>Int) (Int.negSucc (mdl k - 1 - r)) (Int.ofNat r) (Nat.blt r (hlf k))=@Bool.rec (fun _=>Int) (Int.negSucc (mdl k - 1 - s)) (Int.ofNat s) (Nat.blt s (hlf k)):=h
  cases h1:Nat.blt r (hlf k)<;>cases h2:Nat.blt s (hlf k)<;>rw[h1,h2] at h
  ·have:=Int.negSucc.inj h; omega
  ·cases h
  ·cases h
  ·exact Int.ofNat.inj h
omit [KGl] in
theorem Jb (n x m y:Nat):JQ (zL n x).data.toList (zL m y).data.toList=zhJ n x m y:=by
 rw[X7]
 show ((List.range n).map (fun i=>UInt8.ofNat (pkr .u8 x i))==(List.range m).map fun i=>UInt8.ofNat (pkr .u8 y i))=nd (Nat.beq n m) _
 rw[Bool.eq_iff_iff,beq_iff_eq,zd,Nat.beq_eq,Nat.beq_eq]
 constructor
 ·intro h
  have hl:=congrArg List.length h
  simp only[List.length_map,List.length_range] at hl
  subst hl
  refine⟨rfl,zhK fun i hi=>?_⟩
  have:=congrArg (fun l=>l[i]?) h
  simp only[List.getElem?_map,List.getElem?_range hi,Option.map_some,Option.some.injEq] at this
  have h2:=congrArg UInt8.toNat this
  rw[UInt8.toNat_ofNat',UInt8.toNat_ofNat'] at h2
  have a1:=qi .u8 x i
  have a2:=qi .u8 y i
  simp only[mdl] at a1 a2
  omega
 ·rintro⟨rfl,h⟩
  apply List.map_congr_left
  intro i hi
  rw[List.mem_range] at hi
  rw[zdI h i hi]
def Jc (f:Nat→Option Bool) (n:Nat):Option Bool:=@Nat.rec (fun _=>Option Bool) (some true) (fun i ih=>@Option.rec Bool (fun _=>Option Bool) none (fun b=>@Option.rec Bool (fun _=>Option Bool) none (fun c=>some (nd b c)) (f i)) ih) n
omit [KGl] in
theorem qO {f:Nat→Option Bool}{g:Nat→Bool}:∀(n:Nat) (b:Bool),(∀ i b,i < n→f i=some b→g i=b)→Jc f n=some b→(List.range n).all g=b
 | 0,b,_,h=>by cases h; rfl
 | n + 1,b,hf,h=>by
  have h0:@Option.rec Bool (fun _=>Option Bool) none (fun b=>@Option.rec Bool (fun _=>Option Bool) none (fun c=>some (nd b c)) (f n)) (Jc f n)=some b:=h
  cases h1:Jc f n with
  | none=>rw[h1] at h0; cases h0
  | some b1 =>
   rw[h1] at h0
   cases h2:f n with
   | none=>rw[h2] at h0; cases h0
   | some c =>
    rw[h2] at h0
    have h3:nd b1 c=b:=Option.some.inj h0
    have q1:=qO n b1 (fun i b hi=>hf i b (by omega)) h1
    have q2:=hf n c (by omega) h2
    rw[List.range_succ,List.all_append,q1]
    simp only[List.all_cons,List.all_nil,Bool.and_true,q2]
    rw[←h3]
    cases b1<;>rfl
def keq:Nat→KV→KV→Option Bool
 | 0,_,_=>none
 | f + 1,v,w=>match v,w with
  | .int _ a,.int _ b=>some (eqI a b)
  | .bool a,.bool b=>some (zaL a b)
  | .str n x,.str m y=>some (zhJ n x m y)
  | .nl,.nl=>some true
  | .cons h t,.cons h' t'=>match keq f h h',keq f t t' with
   | some a,some b=>some (nd a b)
   | _,_=>none
  | .pk k n x,.pk k' _ y=>bif xa k k' then some (Nat.beq (pkx k x 0 n) (pkx k y 0 n)) else none
  | .pk k n x,.ar m d t=>Jc (fun i=>keq f (zQ i (.pk k n x)) (zQ i (.ar m d t))) n
  | .pk k n x,.fa m g=>Jc (fun i=>keq f (zQ i (.pk k n x)) (zQ i (.fa m g))) n
  | .ar n d t,w=>match w with
   | .ar _ _ _=>Jc (fun i=>keq f (zQ i (.ar n d t)) (zQ i w)) n
   | .pk _ _ _=>Jc (fun i=>keq f (zQ i (.ar n d t)) (zQ i w)) n
   | .fa _ _=>Jc (fun i=>keq f (zQ i (.ar n d t)) (zQ i w)) n
   | _=>none
  | .fa n g,w=>match w with
   | .ar _ _ _=>Jc (fun i=>keq f (zQ i (.fa n g)) (zQ i w)) n
   | .pk _ _ _=>Jc (fun i=>keq f (zQ i (.fa n g)) (zQ i w)) n
   | .fa _ _=>Jc (fun i=>keq f (zQ i (.fa n g)) (zQ i w)) n
   | _=>none
  | _,_=>none
omit [KGl] in
theorem zvF (a b:Bool):nd a b=(a&&b):=by cases a<;>rfl
omit [KGl] in
theorem j9 {v w:KV}{n m:Nat}{f g:Nat→V}(hv:v.v=.arr n f) (hw:w.v=.arr m g):eqV v.v w.v=(List.range n).all fun i=>eqV (zQ i v).v (zQ i w).v:=by
 have h1:∀ i,(zQ i v).v=f i:=fun i=>by rw[xU,hv]; rfl
 have h2:∀ i,(zQ i w).v=g i:=fun i=>by rw[xU,hw]; rfl
 rw[hv,hw]
 show (List.range n).all (fun i=>eqV (f i) (g i))=_
 congr 1
 funext i
 rw[h1,h2]
omit [KGl] in
theorem zdJ:∀(f:Nat) (v w:KV) (b:Bool),keq f v w=some b→eqV v.v w.v=b
 | 0,_,_,_,h=>by cases h
 | f + 1,v,w,b,h=>by
  have ih:=zdJ f
  unfold keq at h
  split at h
  ·cases h; exact (Xd _ _).symm
  ·cases h; rw[Vh]; rfl
  ·rename_i n x m y
   cases h
   rw[←Jb,X7]
   show ((zL n x).toList==(zL m y).toList)=_
   rw[ByteArray.toList_eq,ByteArray.toList_eq]
  ·cases h; rfl
  ·split at h
   ·rename_i a b' h1 h2
    cases h
    show (eqV (KV.v _) (KV.v _)&&eqV (KV.v _) (KV.v _))=_
    rw[ih _ _ _ h1,ih _ _ _ h2,zvF]
   ·cases h
  ·rename_i k n x k' m y
   cases hk:xa k k' with
   | false=>rw[hk] at h; cases h
   | true =>
    rw[hk] at h
    obtain rfl:=zD hk
    have h1:Nat.beq (pkx k x 0 n) (pkx k y 0 n)=b:=Option.some.inj h
    rw[←h1]
    show ((List.range n).all fun i=>pkg k x i==pkg k y i)=_
    rw[Bool.eq_iff_iff,Nat.beq_eq,List.all_eq_true]
    constructor
    ·intro h2
     refine zhK fun i hi=>?_
     have:=h2 i (List.mem_range.2 hi)
     rw[beq_iff_eq] at this
     exact zlR (qi _ _ _) (qi _ _ _) this
    ·intro h2 i hi
     rw[beq_iff_eq]
     unfold pkg
     rw[zdI h2 i (List.mem_range.1 hi)]
  ·rw[j9 (wI _ _ _) (ZM _ _ _)]; exact qO _ _ (fun i b _ hb=>ih _ _ _ hb) h
  ·rw[j9 (wI _ _ _) (Xy _ _)]; exact qO _ _ (fun i b _ hb=>ih _ _ _ hb) h
  ·split at h
   ·rw[j9 (ZM _ _ _) (ZM _ _ _)]; exact qO _ _ (fun i b _ hb=>ih _ _ _ hb) h
   ·rw[j9 (ZM _ _ _) (wI _ _ _)]; exact qO _ _ (fun i b _ hb=>ih _ _ _ hb) h
   ·rw[j9 (ZM _ _ _) (Xy _ _)]; exact qO _ _ (fun i b _ hb=>ih _ _ _ hb) h
   ·cases h
  ·split at h
   ·rw[j9 (Xy _ _) (ZM _ _ _)]; exact qO _ _ (fun i b _ hb=>ih _ _ _ hb) h
   ·rw[j9 (Xy _ _) (wI _ _ _)]; exact qO _ _ (fun i b _ hb=>ih _ _ _ hb) h
   ·rw[j9 (Xy _ _) (Xy _ _)]; exact qO _ _ (fun i b _ hb=>ih _ _ _ hb) h
   ·cases h
  ·cases h
def QO (r:TypeId→KV→Bool):List Field→KV→Bool
 | [],.nl=>true
 | f::fs,.cons h t=>nd (f.name != "_") (nd (r f.type h) (QO r fs t))
 | _,_=>false
def zlS (f:Nat→Bool) (n:Nat):Bool:=@Nat.rec (fun _=>Bool) true (fun i ih=>nd ih (f i)) n
omit [KGl] in
theorem zb0 {f:Nat→Bool}:∀ {n:Nat},zlS f n=true→∀ i,i < n→f i=true
 | 0,_,i,hi=>by omega
 | n + 1,h,i,hi=>by
  obtain⟨h1,h2⟩:=zd.1 (show nd (zlS f n) (f n)=true from h)
  rcases Nat.lt_or_ge i n with h3 | h3
  ·exact zb0 h1 i h3
  ·obtain rfl:i=n:=by omega
   exact h2
def jT (P:Program):Nat→TypeId→KV→Bool
 | 0,_,_=>false
 | d + 1,t,v=>match P.underlying t with
  | some (.int k)=>match v with | .int k' _=>xa k k' | _=>false
  | some .bool=>match v with | .bool _=>true | _=>false
  | some .string=>match v with | .str _ _=>true | _=>false
  | some (.struct fs)=>nd (!P.stoodInHeld t) (QO (jT P d) fs.toList v)
  | some (.array n e)=>match v with
   | .pk k m _=>nd (Nat.beq n m) (match P.underlying e with | some (.int k')=>nd (xa k' k) (Nat.blt 0 d) | _=>false)
   | .ar m d' t'=>nd (Nat.beq n m) (zlS (fun i=>jT P d e (zQ i (.ar m d' t'))) n)
   | _=>false
  | _=>false
omit [KGl] in
theorem zdK {P:Program}{d:Nat}(ih:∀ t v w,jT P d t v=true→jT P d t w=true→eqT P d t v.v w.v=true):∀(fs:List Field) (v w:KV),QO (jT P d) fs v=true→QO (jT P d) fs w=true→JY (eqT P d) fs v.v w.v=true
 | [],v,w,h1,h2=>by
  cases v<;>first | (cases h1; done) | skip
  cases w<;>first | (cases h2; done) | rfl
 | f::fs,v,w,h1,h2=>by
  cases v<;>first | (cases h1; done) | skip
  rename_i a b
  cases w<;>first | (cases h2; done) | skip
  rename_i a' b'
  have h3:nd (f.name != "_") (nd (jT P d f.type a) (QO (jT P d) fs b))=true:=h1
  have h4:nd (f.name != "_") (nd (jT P d f.type a') (QO (jT P d) fs b'))=true:=h2
  simp only[zd] at h3 h4
  show (f.name != "_" && eqT P d f.type a.v a'.v&&JY (eqT P d) fs b.v b'.v)=true
  rw[h3.1,ih _ _ _ h3.2.1 h4.2.1,zdK ih fs b b' h3.2.2 h4.2.2]; rfl
omit [KGl] in
theorem zaM {P:Program}{d n:Nat}{t e:TypeId}{v:KV}(hu:P.underlying t=some (.array n e)) (h:jT P (d + 1) t v=true):∃ f,v.v=.arr n f∧∀ i,i < n→∃ x:KV,x.v=f i∧jT P d e x=true:=by
 unfold jT at h
 rw[hu] at h
 simp only at h
 split at h
 ·rename_i k m x
  obtain⟨h1,h2⟩:=zd.1 h
  obtain rfl:=zI h1
  split at h2
  ·rename_i k' he
   obtain⟨h3,h4⟩:=zd.1 h2
   refine⟨_,rfl,fun i _=>⟨.int k (pkg k x i),rfl,?_⟩⟩
   rw[xZ] at h4
   cases d with
   | zero=>omega
   | succ d=>unfold jT; rw[he]; exact h3
  ·cases h2
 ·rename_i m d' t'
  obtain⟨h1,h2⟩:=zd.1 h
  obtain rfl:=zI h1
  exact⟨_,rfl,fun i hi=>⟨zQ i (.ar n d' t'),by rw[xU]; rfl,zb0 h2 i hi⟩⟩
 ·cases h
omit [KGl] in
theorem zhL {P:Program}:∀(d:Nat) (t:TypeId) (v w:KV),jT P d t v=true→jT P d t w=true→eqT P d t v.v w.v=true
 | 0,_,_,_,h,_=>by cases h
 | d + 1,t,v,w,h1,h2=>by
  have ih:=zhL (P:=P) d
  cases hu:P.underlying t with
  | none=>unfold jT at h1; rw[hu] at h1; cases h1
  | some x =>
   cases x
   case array n e =>
    obtain⟨f,hf,q1⟩:=zaM hu h1
    obtain⟨g,hg,q2⟩:=zaM hu h2
    unfold eqT
    rw[hu,hf,hg]
    simp only[beq_self_eq_true,Bool.true_and,List.all_eq_true,List.mem_range]
    intro i hi
    obtain⟨a,ha,ha'⟩:=q1 i hi
    obtain⟨b,hb,hb'⟩:=q2 i hi
    rw[←ha,←hb]
    exact ih _ _ _ ha' hb'
   case struct fs =>
    unfold jT at h1 h2
    unfold eqT
    rw[hu] at h1 h2 ⊢
    simp only[zd] at h1 h2 ⊢
    rw[h1.1,zdK ih _ _ _ h1.2 h2.2]; rfl
   case int k =>
    unfold jT at h1 h2
    unfold eqT
    rw[hu] at h1 h2 ⊢
    simp only at h1 h2 ⊢
    split at h1
    ·split at h2
     ·have a:=zD h1; have b:=zD h2; subst a; subst b; simp [yC]
     ·cases h2
    ·cases h1
   case bool =>
    unfold jT at h1 h2
    unfold eqT
    rw[hu] at h1 h2 ⊢
    simp only at h1 h2 ⊢
    split at h1
    ·split at h2
     ·rfl
     ·cases h2
    ·cases h1
   case string =>
    unfold jT at h1 h2
    unfold eqT
    rw[hu] at h1 h2 ⊢
    simp only at h1 h2 ⊢
    split at h1
    ·split at h2
     ·rfl
     ·cases h2
    ·cases h1
   all_goals (unfold jT at h1; rw[hu] at h1; cases h1)
def zb1 (v:KV):Bool:=match v with
 | .nl | .cons _ _ | .pk _ _ _ | .ar _ _ _=>true
 | _=>false
omit [KGl] in
theorem Jd {v:KV}(h:zb1 v=true):v.v.isAgg=true:=by
 cases v<;>first | rfl | cases h
def eqS (P:Program) (t:TypeId):Bool:=nd (lay P 12 t) (!P.eqGuardType P.depth t)
def zq0 (P:Program) (t:TypeId) (v:KV):Bool:=nd (zb1 v) (nd (jT P 12 t v) (ZD v (shp P 12 t)))
def zBs (P:Program) (op:BinOp) (t:TypeId) (x y:KV) (zm:KZ) (nx:Nat) (K:KT):Prop :=
 chk (nd (eqS P t) (nd (zq0 P t x) (zq0 P t y))) 64 (os 65 (fun b=>eqn op b fun r=>K (.bool r) zm nx [] []) (keq 24 x y))
def zhM (v:KV):Option Bool:=match v with
 | .nilp=>some true
 | .ptr _ _ _=>some false
 | .ref _ _ _=>some false
 | _=>none
def zhN (P:Program) (t:TypeId):Bool:=match P.underlying t with | some (.pointer _)=>true | _=>false
def zq1 (P:Program) (op:BinOp) (t:TypeId) (a:Bool) (zm:KZ) (nx:Nat) (K:KT) (b:Bool):Prop:=chk (zdH P t) 66 (eqn op (zaL a b) fun r=>K (.bool r) zm nx [] [])
def zvG (op:BinOp) (n x:Nat) (zm:KZ) (nx:Nat) (K:KT) (m y:Nat):Prop:=eqn op (zhJ n x m y) fun r=>K (.bool r) zm nx [] []
def zvH (P:Program) (op:BinOp) (t:TypeId) (x:KV) (zm:KZ) (nx:Nat) (K:KT):Prop:=chk (zhN P t) 67 (os 68 (fun b=>eqn op b fun r=>K (.bool r) zm nx [] []) (zhM x))
def zaN (m:Mem) (v:V):Option (Bool×List Nat):=match v with
 | .nils=>some (true,[])
 | .ro _ _ _ (_ + 1) _=>some (false,[])
 | .sl _ _ _ _ (_ + 1) _=>some (false,[])
 | .sl _ _ _ _ 0 (some (_ + 1))=>some (false,[])
 | .row id _ (_ + 1)=>match m id with
  | some blk=>if blk.alive then some (false,[id]) else none
  | none=>none
 | _=>none
theorem XQ {op:BinOp}{t t' e:TypeId}{x y:Operand}{ρ:Operand→V}{m:Mem}{n:Nat}{b:Bool}{rd:List Nat}(ho:o.op=.binOp op t x y t') (hop:op=.eql∨op=.neq) (hx:zaN m (ρ x)=some (b,rd)) (hy:ρ y=.nils) (hu:P.underlying t=some (.slice e)) :
  OpSem P B o ρ m n ⟨.bool (if op=.eql then b else !b),[],[],rd⟩ :=
 OpSem.pure fun C M ρc hs hr hrel=>by
  have h0:=hrel x (by simp [ho,Op.operands])
  have h1:=hrel y (by simp [ho,Op.operands])
  rw[hy] at h1
  have h1':ρc y=.slice none 0 0:=h1
  obtain⟨a,l,c,h2,h3⟩:∃ a l c,ρc x=.slice a l c∧a.isNone=b:=by
   unfold zaN at hx
   split at hx
   ·rename_i hv
    cases hx
    rw[hv] at h0
    exact⟨none,0,0,h0,rfl⟩
   ·rename_i hv
    cases hx
    rw[hv] at h0
    obtain⟨a,c,q1,q2,q3,q4⟩:=h0
    rcases q4 with q4 | ⟨g,o,rfl,_⟩
    ·cases q4
    ·exact⟨_,_,_,q1,rfl⟩
   ·rename_i hv
    cases hx
    rw[hv] at h0
    obtain⟨hal,ad,c,o1,n1,q1,q2,q3,q4,q5,q6⟩:=h0
    rcases q6 with q6 | ⟨g,_,rfl⟩
    ·omega
    ·exact⟨_,_,_,q1,rfl⟩
   ·rename_i hv
    cases hx
    rw[hv] at h0
    obtain⟨hal,ad,c,o1,n1,q1,q2,q3,q4,q5,q6⟩:=h0
    rcases q6 with q6 | ⟨g,_,rfl⟩
    ·have:=q3 _ rfl; omega
    ·exact⟨_,_,_,q1,rfl⟩
   ·rename_i id e' k hv
    split at hx
    ·rename_i blk hm
     split at hx
     ·rename_i hal
      cases hx
      rw[hv] at h0
      obtain⟨hal',⟨a,c,q1⟩,q2,q3⟩:=h0
      have hM:M id=some blk:=by rw[hr id (by simp),hm]
      have hbr:=hs.mem id blk hM
      unfold BR at hbr; unfold Blk.alive at hal
      refine⟨a,k + 1,c,by rw[←q1]; exact q3,?_⟩
      cases hkd:blk.k<;>simp only[hkd] at hbr hal
      ·obtain⟨g,cur,e',h4,_⟩:=hbr
       rw[q1] at h4; cases h4
      ·obtain⟨n1,s1,cells,h4,h5,h6,_⟩:=hbr
       rcases h6.2 with ⟨h7,h8⟩ | ⟨g,cap,cur,hv,_⟩
       ·rw[q1] at h7; cases h7
       ·rw[q1] at hv; cases hv; rfl
      ·simp at hal
      ·simp at hal
      ·simp at hal
     ·cases hx
    ·cases hx
   ·cases hx
  have he:∀ w,(Op.equal t (.slice a l c) (.slice none 0 0)).run P w=.ok a.isNone w:=fun w=>by
   show (Op.equalIn (9999 + 1) t (.slice a l c) (.slice none 0 0)).run P w=.ok a.isNone w
   generalize 9999=d
   cases a<;>simp [Op.equalIn,run_underlying hu]
  rcases hop with rfl | rfl
  ·exact⟨.bool b,by simp [execOp,ho,h1',h2,eqGuard,binOp,he,h3],rfl⟩
  ·exact⟨.bool (!b),by simp [execOp,ho,h1',h2,eqGuard,binOp,he,h3],rfl⟩
def zoo (P:Program) (t:TypeId):Bool:=match P.underlying t with | some (.slice _)=>true | _=>false
def zop (P:Program) (op:BinOp) (t:TypeId) (x:KV) (zm:KZ) (nx:Nat) (K:KT):Prop :=
 chk (zoo P t) 241 (wH (eqn op true fun r=>K (.bool r) zm nx [] [])
  (Xu (fun _ _ _ _ len _=>chk (Nat.blt 0 len) 242 (eqn op false fun r=>K (.bool r) zm nx [] []))
   (Jg (fun _ _ _ _ len cap=>chk (Nat.blt 0 (@Option.rec Nat (fun _=>Nat) len (fun k=>Nat.add len k) cap)) 243 (eqn op false fun r=>K (.bool r) zm nx [] []))
    (yA (fun id _ len=>oB zm id fun kd _ _=>chk (nd (wg kd) (Nat.blt 0 len)) 244 (eqn op false fun r=>K (.bool r) zm nx [] [id])) (BadN 245) x) x) x) x)
theorem zlT {op:BinOp}{t t':TypeId}{x y:Operand}(ho:o.op=.binOp op t x y t') (hy0:kev τ y=.nils) (h:zop P op t (kev τ x) zm nx K):Out P B o τ lo zm nx K:=by
 have hx:=zK τ x
 have hy:=zK τ y
 rw[hy0] at hy
 obtain⟨h1,h2⟩:=ze h
 obtain⟨e,hu⟩:∃ e,P.underlying t=some (.slice e):=by
  unfold zoo at h1
  split at h1
  ·exact⟨_,‹_›⟩
  ·cases h1
 have fin:∀(b:Bool) (rd:List Nat),(eqn op b fun r=>K (.bool r) zm nx [] rd)→zaN (am zm) (opv Gl.G (tv' τ) x)=some (b,rd)→(∀ id∈rd,∃ b,am zm id=some b)→Out P B o τ lo zm nx K:=by
  intro b rd hk hn hrd
  rcases ZK hk with ⟨rfl,h5⟩ | ⟨rfl,h5⟩
  ·exact Out.pure h5 ⟨XQ (ρ:=opv Gl.G (tv' τ)) (m:=am zm) (n:=nx) ho (.inl rfl) hn hy.symm hu,UpIn.rdL hrd⟩ (by rw[Xw]; exact EImp.refl _)
  ·exact Out.pure h5 ⟨XQ (ρ:=opv Gl.G (tv' τ)) (m:=am zm) (n:=nx) ho (.inr rfl) hn hy.symm hu,UpIn.rdL hrd⟩ (by rw[Xw]; exact EImp.refl _)
 rcases vk h2 with ⟨hp,h3⟩ | ⟨_,h2⟩
 ·rw[hp] at hx
  exact fin true [] h3 (by rw[←hx]; rfl) (fun _ h=>(by cases h))
 rcases xJ h2 with ⟨u,cl,s,off,len,c,hp,h3⟩ | ⟨_,h2⟩
 ·obtain⟨h4,h5⟩:=ze h3
  rw[hp] at hx
  rw[xZ] at h4
  obtain⟨k,rfl⟩:∃ k,len=k + 1:=⟨len - 1,by omega⟩
  exact fin false [] h5 (by rw[←hx]; rfl) (fun _ h=>(by cases h))
 rcases ve h2 with ⟨id,p,s,off,len,cap,hp,h3⟩ | ⟨_,h2⟩
 ·obtain⟨h4,h5⟩:=ze h3
  rw[hp] at hx
  rw[xZ] at h4
  refine fin false [] h5 ?_ (fun _ h=>(by cases h))
  rw[←hx]
  cases len with
  | succ k=>rfl
  | zero =>
   cases cap with
   | none=>exact absurd h4 (Nat.lt_irrefl 0)
   | some k =>
    cases k with
    | zero=>exact absurd h4 (Nat.lt_irrefl 0)
    | succ k=>rfl
 rcases vu h2 with ⟨id,s,len,hp,h3⟩ | ⟨_,h2⟩
 ·obtain⟨kd,sh,v,hb,h4⟩:=xL h3
  obtain⟨h5,h6⟩:=ze h4
  obtain⟨q1,q2⟩:=zd.1 h5
  rw[hp] at hx
  rw[xZ] at q2
  obtain⟨k,rfl⟩:∃ k,len=k + 1:=⟨len - 1,by omega⟩
  refine fin false [id] h6 ?_ (fun i hi=>by rw[List.mem_singleton] at hi; subst hi; exact⟨_,zJ hb⟩)
  rw[←hx]
  show zaN (am zm) (.row id s (k + 1))=_
  unfold zaN
  simp only[zJ hb,KBlk.b,xk,q1,if_true]
 ·exact h2.elim
def zq2 (P:Program) (op:BinOp) (t:TypeId) (x y:KV) (zm:KZ) (nx:Nat) (K:KT):Prop :=
 z8 (fun k a=>z8 (zvE op k a zm nx K) (BadN 69) y)
  (jo (fun a=>jo (zq1 P op t a zm nx K) (BadN 70) y)
   (qp (fun n s=>qp (zvG op n s zm nx K) (BadN 71) y)
    (zh1 (zvH P op t x zm nx K) (wH (zop P op t x zm nx K) (zBs P op t x y zm nx K) y) y) x) x) x
omit [KGl] in
theorem zfG {v:V}{b:Bool}{t e:TypeId}(h1:∀ s,v≠.str s) (h2:v.isNilp=some b) (hu:P.underlying t=some (.pointer e)):(v6 P .eql t v .nilp).is (zk (.bool b)):=by
 have:v6 P .eql t v .nilp=okE (.bool b):=by
  cases v<;>first
   | exact absurd rfl (h1 _)
   | (cases h2; done)
   | (simp only[V.isNilp,Option.some.injEq] at h2; subst h2; simp [v6,zfk,zao,hu,V.isNilp])
 rw[this]; rfl
omit [KGl] in
theorem zb2 {v:V}{b:Bool}{t e:TypeId}(h1:∀ s,v≠.str s) (h2:v.isNilp=some b) (hu:P.underlying t=some (.pointer e)):(v6 P .neq t v .nilp).is (zk (.bool !b)):=by
 have:v6 P .neq t v .nilp=okE (.bool !b):=by
  cases v<;>first
   | exact absurd rfl (h1 _)
   | (cases h2; done)
   | (simp only[V.isNilp,Option.some.injEq] at h2; subst h2; simp [v6,zfk,zao,hu,V.isNilp])
 rw[this]; rfl
theorem zhO {op:BinOp}{t t':TypeId}{x y:Operand}(ho:o.op=.binOp op t x y t') (h:zq2 P op t (kev τ x) (kev τ y) zm nx K):Out P B o τ lo zm nx K:=by
 have hx:=zK τ x
 have hy:=zK τ y
 rcases zz h with ⟨k,a,ha,h1⟩ | ⟨_,h1⟩
 ·rcases zz h1 with ⟨k',b,hb,h2⟩ | ⟨_,h2⟩
  ·exact zqZ ho ha hb h2
  ·exact h2.elim
 rcases xI h1 with ⟨a,ha,h1⟩ | ⟨_,h1⟩
 ·rcases xI h1 with ⟨b,hb,h2⟩ | ⟨_,h2⟩
  ·obtain⟨h3,h4⟩:=ze h2
   rw[ha] at hx; rw[hb] at hy
   have hu:P.underlying t=some .bool:=by
    unfold zdH at h3
    split at h3
    ·assumption
    ·cases h3
   rcases ZK h4 with ⟨rfl,h5⟩ | ⟨rfl,h5⟩
   ·refine Out.pure h5 (vX (e:=zk (.bool (a==b))) ho ?_) (by rw[Xw,Vh]; exact EImp.refl _)
    rw[←hx,←hy]
    show (v6 P _ t (.bool a) (.bool b)).is _
    rw[Ja]
    simp only[qe,hu]; rfl
   ·refine Out.pure h5 (vX (e:=zk (.bool (!(a==b)))) ho ?_) (by rw[Xw,Vh]; exact EImp.refl _)
    rw[←hx,←hy]
    show (v6 P _ t (.bool a) (.bool b)).is _
    rw[Ja]
    simp only[qe,hu]; rfl
  ·exact h2.elim
 rcases vq h1 with ⟨n,a,ha,h1⟩ | ⟨_,h1⟩
 ·rcases vq h1 with ⟨m,b,hb,h2⟩ | ⟨_,h2⟩
  ·rw[ha] at hx; rw[hb] at hy
   rcases ZK h2 with ⟨rfl,h5⟩ | ⟨rfl,h5⟩
   ·refine Out.pure h5 (vX (e:=zk (.bool (JQ (zL n a).data.toList (zL m b).data.toList))) ho ?_) (by rw[Xw,Jb]; exact EImp.refl _)
    rw[←hx,←hy]; rfl
   ·refine Out.pure h5 (vX (e:=zk (.bool !(JQ (zL n a).data.toList (zL m b).data.toList))) ho ?_) (by rw[Xw,Jb]; exact EImp.refl _)
    rw[←hx,←hy]; rfl
  ·exact h2.elim
 rcases zb6 h1 with ⟨hb,h1⟩ | ⟨hny,h1⟩
 ·obtain⟨h3,h4⟩:=ze h1
  obtain⟨b,h5,h6⟩:=xg h4
  rw[hb] at hy
  obtain⟨e,hu⟩:∃ e,P.underlying t=some (.pointer e):=by
   unfold zhN at h3
   split at h3
   ·exact⟨_,‹_›⟩
   ·cases h3
  have hn:(kev τ x).v.isNilp=some b∧∀ s,(kev τ x).v≠.str s:=by
   unfold zhM at h5
   split at h5
   ·rename_i hv; cases h5; rw[hv]; exact⟨rfl,fun s hs=>by cases hs⟩
   ·rename_i hv; cases h5; rw[hv]; exact⟨rfl,fun s hs=>by cases hs⟩
   ·rename_i hv; cases h5; rw[hv]; exact⟨rfl,fun s hs=>by cases hs⟩
   ·cases h5
  rcases ZK h6 with ⟨rfl,h7⟩ | ⟨rfl,h7⟩
  ·refine Out.pure h7 (vX (e:=zk (.bool b)) ho ?_) (EImp.refl _)
   rw[←hx,←hy,zia]
   exact zfG hn.2 hn.1 hu
  ·refine Out.pure h7 (vX (e:=zk (.bool !b)) ho ?_) (EImp.refl _)
   rw[←hx,←hy,zia]
   exact zb2 hn.2 hn.1 hu
 rcases vk h1 with ⟨hb,h1⟩ | ⟨_,h1⟩
 ·exact zlT ho hb h1
 ·obtain⟨h3,h4⟩:=ze h1
  obtain⟨b,h5,h6⟩:=xg h4
  simp only[zd,eqS,zq0] at h3
  obtain⟨⟨q1,q2⟩,⟨p1,p2,p3⟩,r1,r2,r3⟩:=h3
  have hv:eqV (kev τ x).v (kev τ y).v=b:=zdJ _ _ _ _ h5
  have ax:=Jd p1
  have ay:=Jd r1
  have hc:∀ op',(v6 P op' t (kev τ x).v (kev τ y).v)=(match op' with
   | .eql=>okE (.bool b)
   | .neq=>okE (.bool !b)
   | _=>.bad):=by
   intro op'
   have e1:v6 P op' t (kev τ x).v (kev τ y).v=qe P op' t (kev τ x).v (kev τ y).v:=by
    unfold v6
    have:zfk (kev τ x).v (kev τ y).v=false:=by
     cases hvx:(kev τ x).v<;>rw[hvx] at ax<;>first | (cases ax; done) | skip
     all_goals (cases hvy:(kev τ y).v<;>rw[hvy] at ay<;>first | (cases ay; done) | rfl)
    rw[this]
   rw[e1]
   unfold qe
   split
   ·rename_i e2 _; rw[e2] at ax; cases ax
   ·rename_i e2 _; rw[e2] at ax; cases ax
   ·rw[ax,ay,q1,zhL _ _ _ _ p2 r2,(j5 p3).1,(j5 r3).1,q2,hv]; rfl
  rcases ZK h6 with ⟨rfl,h7⟩ | ⟨rfl,h7⟩
  ·exact Out.pure h7 (vX (e:=zk (.bool b)) ho (by rw[←hx,←hy,hc]; rfl)) (EImp.refl _)
  ·exact Out.pure h7 (vX (e:=zk (.bool !b)) ho (by rw[←hx,←hy,hc]; rfl)) (EImp.refl _)
def kUn (op:UnOp) (x:KV) (zm:KZ) (nx:Nat) (K:KT):Prop:=@UnOp.rec (fun _=>KV→(KV→Prop)→Prop)
 (fun x K=>z8 (fun k a=>fI (k.wrap (0 - a)) fun r=>K (.int k r)) (BadN 72) x) (fun x K=>z8 (fun k a=>fI (zgx k a) fun r=>K (.int k r)) (BadN 73) x)
 (fun x K=>jo (fun b=>fB (!b) fun r=>K (.bool r)) (BadN 74) x) (fun _ _=>BadN 75) op x fun r=>K r zm nx [] []
theorem zvI {op:UnOp}{t:TypeId}{x:Operand}(ho:o.op=.unOp op t x) (h:kUn op (kev τ x) zm nx K):Out P B o τ lo zm nx K:=by
 have hx:=zK τ x
 cases op
 ·rcases zz (show z8 (fun k a=>fI (k.wrap (0 - a)) fun r=>K (.int k r) zm nx [] []) (BadN 72) (kev τ x) from h) with ⟨k,a,ha,h1⟩ | ⟨_,h1⟩
  ·rw[jV] at h1
   rw[ha] at hx
   exact Out.pure h1 (zdn (e:=zk _) ho (by rw[←hx]; rfl)) (EImp.refl _)
  ·exact h1.elim
 ·rcases zz (show z8 (fun k a=>fI (zgx k a) fun r=>K (.int k r) zm nx [] []) (BadN 73) (kev τ x) from h) with ⟨k,a,ha,h1⟩ | ⟨_,h1⟩
  ·rw[jV] at h1
   rw[ha] at hx
   exact Out.pure h1 (zdn (e:=zk _) ho (by rw[←hx]; rfl)) (EImp.refl _)
  ·exact h1.elim
 ·rcases xI (show jo (fun b=>fB (!b) fun r=>K (.bool r) zm nx [] []) (BadN 74) (kev τ x) from h) with ⟨b,ha,h1⟩ | ⟨_,h1⟩
  ·rw[Jj] at h1
   rw[ha] at hx
   exact Out.pure h1 (zdn (e:=zk _) ho (by rw[←hx]; rfl)) (EImp.refl _)
  ·exact h1.elim
 ·exact (show BadN 75 from h).elim
end
end
end Go.K
namespace Go.K
open Go.Ab Go.RowKit Go.Y
noncomputable section
variable [KGl]
section
variable {P:Program}{B:Nat}{o:Oper}{τ:Nat→KV}{lo:Nat}{zm:KZ}{nx:Nat}{K:KT}
def zqz (k:Nat):KV→(KV→Prop)→Prop:=@Nat.rec (fun _=>KV→(KV→Prop)→Prop) (fun l K=>xN (fun h _=>K h) (BadN 80) l) (fun _ ih l K=>xN (fun _ t=>ih t K) (BadN 80) l) k
omit [KGl] in
theorem zhp:∀(k:Nat) (l:KV) (K:KV→Prop),zqz k l K→∃ v,K v∧l.v.nth k=some v.v
 | 0,l,K,h=>by
  rcases xh (show xN (fun h _=>K h) (BadN 80) l from h) with ⟨a,b,rfl,h1⟩ | ⟨_,h1⟩
  ·exact⟨a,h1,rfl⟩
  ·exact h1.elim
 | k + 1,l,K,h=>by
  rcases xh (show xN (fun _ t=>zqz k t K) (BadN 80) l from h) with ⟨a,b,rfl,h1⟩ | ⟨_,h1⟩
  ·exact zhp k b K h1
  ·exact h1.elim
def zaE (x:KV) (k:Nat) (zm:KZ) (nx:Nat) (K:KT):Prop:=QQ (fun l=>zqz k l fun v=>K v zm nx [] []) (BadN 81) x
theorem zbV {x:Operand}{k:Nat}(ho:o.op=.extract x k) (h:zaE (kev τ x) k zm nx K):Out P B o τ lo zm nx K:=by
 have hx:=zK τ x
 rcases ya h with ⟨l,hl,h1⟩ | ⟨_,h1⟩
 ·obtain⟨v,h2,h3⟩:=zhp k l _ h1
  rw[hl] at hx
  exact Out.pure h2 (VL (e:=zk v.v) ho (by rw[←hx]; show (wu (.tup l.v) k).is _; simp only[wu,h3]; rfl)) (EImp.refl _)
 ·exact h1.elim
def zoh (c a b:KV) (zm:KZ) (nx:Nat) (K:KT):Prop:=jo (fun t=>alt t (K a zm nx [] []) (K b zm nx [] [])) (BadN 82) c
theorem zlC {c a b:Operand}(ho:o.op=.pick c a b) (h:zoh (kev τ c) (kev τ a) (kev τ b) zm nx K):Out P B o τ lo zm nx K:=by
 have hx:=zK τ c
 rcases xI h with ⟨t,ht,h1⟩ | ⟨_,h1⟩
 ·rw[ht] at hx
  cases t with
  | true=>exact Out.pure (v:=kev τ a) h1 (Ws (e:=zk (kev τ a).v) ho (by rw[←hx,←zK,←zK]; show (okE (V.ite true _ _)).is _; rw[V.ite_true]; rfl)) (EImp.refl _)
  | false=>exact Out.pure (v:=kev τ b) h1 (Ws (e:=zk (kev τ b).v) ho (by rw[←hx,←zK,←zK]; show (okE (V.ite false _ _)).is _; rw[V.ite_false]; rfl)) (EImp.refl _)
 ·exact h1.elim
def J9 (l:List KV):KV:=@List.rec KV (fun _=>KV) .nl (fun x _ ih=>.cons x ih) l
omit [KGl] in
theorem WT:∀(l:List KV),(J9 l).v=mkL (l.map KV.v)
 | []=>rfl
 | x::l=>by show V.cons x.v (J9 l).v=V.cons x.v (mkL (l.map KV.v)); rw[WT l]
def zoi (f:Fn):Option FuncId:=match f with
 | .func f=>some f
 | _=>none
def QL (f:Fn) (a:List KV) (caps:List KV) (zm:KZ) (nx:Nat) (K:KT):Prop:=os 83 (fun f=>chk (Nat.blt f 1073741824) 246 (@List.rec KV (fun _=>Prop) (K (.fn f (J9 caps)) zm nx [] []) (fun x r _=>fN (Nat.add f 1073741824) fun f=>K (.fn f (.cons (.tup (J9 (x::r))) (J9 caps))) zm nx [] []) a)) (zoi f)
theorem w0 (τ:Nat→KV) (l:List Operand):(l.map (kev τ)).map KV.v=l.map (opv Gl.G (tv' τ)):=by
 rw[List.map_map]; exact List.map_congr_left fun x _=>zK τ x
theorem zaF {f:Fn}{a cap:Array Operand}(ho:o.op=.makeFunc f a cap) (h:QL f (a.toList.map (kev τ)) (cap.toList.map (kev τ)) zm nx K):Out P B o τ lo zm nx K:=by
 obtain⟨g,h1,h20⟩:=xg h
 obtain⟨hlt,h2⟩:=ze h20
 clear h20
 rw[Nat.blt_eq] at hlt
 obtain rfl:f=.func g:=by
  unfold zoi at h1
  split at h1
  ·cases h1; rfl
  ·cases h1
 cases ha:a.toList.map (kev τ) with
 | nil =>
  rw[ha] at h2
  obtain rfl:a=#[]:=by
   have:a.toList=[]:=by simpa using ha
   simpa using this
  exact Out.pure (e:=zk (.fn g (mkL (cap.toList.map (opv Gl.G (tv' τ)))))) (show K (.fn g (J9 (cap.toList.map (kev τ)))) zm nx [] [] from h2) ⟨Zr ho hlt,UpIn.nil⟩ (by rw[v_fn,WT,w0]; exact EImp.refl _)
 | cons x r =>
  have h3:fN (Nat.add g 1073741824) fun f=>K (.fn f (.cons (.tup (J9 (a.toList.map (kev τ)))) (J9 (cap.toList.map (kev τ))))) zm nx [] []:=by
   rw[ha] at h2 ⊢
   exact h2
  rw[zU] at h3
  exact Out.pure h3 ⟨Wi ho hlt,UpIn.nil⟩ (by
   show EImp _ ⟨.fn (g + 1073741824) (.cons (.tup (J9 (a.toList.map (kev τ))).v) (J9 (cap.toList.map (kev τ))).v),[],[],[]⟩
   rw[WT,WT,w0,w0]; exact EImp.refl _)
inductive LnS where
 | sli
 | str
 | arr (k:Nat)
 | bad
def lnS (P:Program) (t:TypeId):LnS:=match P.underlying t with
 | some (.slice _)=>.sli
 | some .string=>.str
 | some (.array k _)=>.arr k
 | _=>.bad
def zhq (x:KV) (K:Nat→Prop):Prop:=Jg (fun _ _ _ _ len _=>K len) (yA (fun _ _ n=>K n) (Xu (fun _ _ _ _ len _=>K len) (wH (K 0) (BadN 84) x) x) x) x
omit [KGl] in
theorem zlD {x:KV}{K:Nat→Prop}(h:zhq x K):∃ n,x.v.len=some n∧K n:=by
 rcases ve h with ⟨_,_,_,_,len,_,rfl,h1⟩ | ⟨_,h1⟩
 ·exact⟨_,rfl,h1⟩
 rcases vu h1 with ⟨_,_,n,rfl,h1⟩ | ⟨_,h1⟩
 ·exact⟨_,rfl,h1⟩
 rcases xJ h1 with ⟨_,_,_,_,len,_,rfl,h1⟩ | ⟨_,h1⟩
 ·exact⟨_,rfl,h1⟩
 rcases vk h1 with ⟨rfl,h1⟩ | ⟨_,h1⟩
 ·exact⟨_,rfl,h1⟩
 ·exact h1.elim
def zvo (x:KV) (zm:KZ) (nx:Nat) (K:KT) (s:LnS):Prop:=@LnS.rec (fun _=>Prop) (zhq x fun n=>fN n fun n=>K (.int .i64 (.ofNat n)) zm nx [] []) (qp (fun n _=>fN n fun n=>K (.int .i64 (.ofNat n)) zm nx [] []) (BadN 85) x) (fun k=>K (.int .i64 (.ofNat k)) zm nx [] []) (BadN 86) s
def zqA (P:Program) (t:TypeId) (x:KV) (zm:KZ) (nx:Nat) (K:KT):Prop:=zvo x zm nx K (lnS P t)
theorem zqB {t:TypeId}{x:Operand}(ho:o.op=.call ⟨.builtin .len,#[x],#[t]⟩) (h:zqA P t (kev τ x) zm nx K):Out P B o τ lo zm nx K:=by
 have hx:=zK τ x
 unfold zqA lnS at h
 split at h
 ·rename_i e hu
  obtain⟨n,h1,h2⟩:=zlD (show zhq (kev τ x) _ from h)
  rw[zU] at h2
  exact Out.pure h2 (Wt (e:=zk (.int .i64 n)) ho (by rw[←hx]; unfold zfl; simp only[hu,h1]; rfl)) (EImp.refl _)
 ·rename_i hu
  rcases vq (show qp (fun n _=>fN n fun n=>K (.int .i64 (.ofNat n)) zm nx [] []) (BadN 85) (kev τ x) from h) with ⟨n,s,hs,h1⟩ | ⟨_,h1⟩
  ·rw[zU] at h1
   rw[hs] at hx
   have hsz:(zL n s).size=n:=by show ((List.range n).map _).length=n; simp
   exact Out.pure h1 (Wt (e:=zk (.int .i64 ((zL n s).size:Nat))) ho (by rw[←hx]; unfold zfl; simp only[hu,zdU]; rfl)) (by rw[hsz]; exact EImp.refl _)
  ·exact h1.elim
 ·rename_i k e hu
  exact Out.pure (v:=.int .i64 (.ofNat k)) h (Wt (e:=zk (.int .i64 k)) ho (by unfold zfl; simp only[hu]; rfl)) (EImp.refl _)
 ·exact (show BadN 86 from h).elim
def zbW (P:Program) (t:TypeId):Bool:=match P.underlying t with | some (.slice _)=>true | _=>false
omit [KGl] in
theorem zhr {t:TypeId}(h:zbW P t=true):∃ e,P.underlying t=some (.slice e):=by
 unfold zbW at h
 split at h
 ·exact⟨_,‹_›⟩
 ·cases h
def zqC (P:Program) (t:TypeId) (x:KV) (zm:KZ) (nx:Nat) (K:KT):Prop:=chk (zbW P t) 87
 (Jg (fun _ _ _ _ _ cap=>os 88 (fun n=>fN n fun n=>K (.int .i64 (.ofNat n)) zm nx [] []) cap) (Xu (fun _ clip _ _ len _=>chk clip 89 (fN len fun n=>K (.int .i64 (.ofNat n)) zm nx [] [])) (wH (K (.int .i64 0) zm nx [] []) (BadN 90) x) x) x)
theorem zqD {t:TypeId}{x:Operand}(ho:o.op=.call ⟨.builtin .cap,#[x],#[t]⟩) (h:zqC P t (kev τ x) zm nx K):Out P B o τ lo zm nx K:=by
 have hx:=zK τ x
 obtain⟨h0,h1⟩:=ze h
 obtain⟨e,hu⟩:=zhr h0
 rcases ve h1 with ⟨_,_,_,_,_,cap,hp,h1⟩ | ⟨_,h1⟩
 ·obtain⟨n,rfl,h2⟩:=xg h1
  rw[zU] at h2
  rw[hp] at hx
  exact Out.pure h2 (Wv (e:=zk (.int .i64 n)) ho (by rw[←hx]; unfold zfm; simp only[hu,zl6,V.cap]; rfl)) (EImp.refl _)
 rcases xJ h1 with ⟨_,clip,_,_,len,_,hp,h1⟩ | ⟨_,h1⟩
 ·obtain⟨rfl,h2⟩:=ze h1
  rw[zU] at h2
  rw[hp] at hx
  exact Out.pure h2 (Wv (e:=zk (.int .i64 len)) ho (by rw[←hx]; unfold zfm; simp only[hu,Xx,V.cap]; rfl)) (EImp.refl _)
 rcases vk h1 with ⟨hp,h1⟩ | ⟨_,h1⟩
 ·rw[hp] at hx
  exact Out.pure h1 (Wv (e:=zk (.int .i64 (0:Nat))) ho (by rw[←hx]; unfold zfm; simp only[hu,zib,V.cap]; rfl)) (EImp.refl _)
 ·exact h1.elim
def zqE (x y:KV) (zm:KZ) (nx:Nat) (K:KT):Prop:=z8 (fun k a=>z8 (fun _ b=>fI (bif ltI b a then b else a) fun r=>K (.int k r) zm nx [] []) (BadN 91) y) (BadN 92) x
theorem zqF {ts:Array TypeId}{x y:Operand}(ho:o.op=.call ⟨.builtin .min,#[x,y],ts⟩) (h:zqE (kev τ x) (kev τ y) zm nx K):Out P B o τ lo zm nx K:=by
 have hx:=zK τ x
 have hy:=zK τ y
 rcases zz h with ⟨k,a,ha,h1⟩ | ⟨_,h1⟩
 ·rcases zz h1 with ⟨k',b,hb,h2⟩ | ⟨_,h2⟩
  ·rw[jV] at h2
   rw[ha] at hx; rw[hb] at hy
   exact Out.pure h2 (zgB (e:=zk (zqj k a b)) ho (by rw[←hx,←hy]; rfl)) (EImp.refl _)
  ·exact h2.elim
 ·exact h1.elim
theorem zlE {P:Program}{B:Nat}{o:Oper}{ρ:Operand→V}{m:Mem}{n:Nat}{ts:Array TypeId}{x y:Operand}{k k':IntKind}{a b:Int}(ho:o.op=.call ⟨.builtin .max,#[x,y],ts⟩) (hx:ρ x=.int k a) (hy:ρ y=.int k' b):OpSem P B o ρ m n (zk (.int k (bif ltI a b then b else a))) :=
 OpSem.pure fun C M ρc _ _ hrel=>by
  obtain⟨rx,ry⟩:=qG (ρ:=ρ) ho hrel
  rw[hx] at rx; rw[hy] at ry
  have rx':ρc x=.int k a:=rx
  have ry':ρc y=.int k' b:=ry
  refine⟨.int k (if b > a then b else a),by simp [execOp,ho,resolve,invoke,builtin,rx',ry',Builtin.max_,Builtin.max2],?_⟩
  show Value.int k _=Value.int k _
  rw[vA]
  by_cases h:a < b<;>simp [h]
def zqG (x y:KV) (zm:KZ) (nx:Nat) (K:KT):Prop:=z8 (fun k a=>z8 (fun _ b=>fI (bif ltI a b then b else a) fun r=>K (.int k r) zm nx [] []) (BadN 91) y) (BadN 92) x
theorem zqH {ts:Array TypeId}{x y:Operand}(ho:o.op=.call ⟨.builtin .max,#[x,y],ts⟩) (h:zqG (kev τ x) (kev τ y) zm nx K):Out P B o τ lo zm nx K:=by
 have hx:=zK τ x
 have hy:=zK τ y
 rcases zz h with ⟨k,a,ha,h1⟩ | ⟨_,h1⟩
 ·rcases zz h1 with ⟨k',b,hb,h2⟩ | ⟨_,h2⟩
  ·rw[jV] at h2
   rw[ha] at hx; rw[hb] at hy
   exact Out.pure h2 ⟨zlE ho (by rw[←hx]; rfl) (by rw[←hy]; rfl),UpIn.nil⟩ (EImp.refl _)
  ·exact h2.elim
 ·exact h1.elim
def arN (c:KV) (n:Nat):Bool:=match c with
 | .pk _ m _=>Nat.beq m n
 | .ar m _ _=>Nat.beq m n
 | .fa m _=>Nat.beq m n
 | _=>false
omit [KGl] in
theorem zoj {c:KV}{n:Nat}(h:arN c n=true):∃ f,c.v=.arr n f:=by
 unfold arN at h
 split at h
 ·rw[←zI h]; exact⟨_,rfl⟩
 ·rw[←zI h]; exact⟨_,rfl⟩
 ·rw[←zI h]; exact⟨_,rfl⟩
 ·cases h
def Qa (d:Nat) (x:Option KV) (K:Int→Prop):Prop:=@Option.rec KV (fun _=>Prop) (K (.ofNat d)) (fun v=>z8 (fun _ n=>K n) (BadN 93) v) x
omit [KGl] in
theorem wC {d:Nat}{x:Option KV}{K:Int→Prop}(h:Qa d x K):∃ n,V.bnd d (x.map KV.v)=some n∧K n:=by
 cases x with
 | none=>exact⟨_,rfl,h⟩
 | some v =>
  rcases zz (show z8 (fun _ n=>K n) (BadN 93) v from h) with ⟨k,n,rfl,h1⟩ | ⟨_,h1⟩
  ·exact⟨n,rfl,h1⟩
  ·exact h1.elim
def kMx (x:Option KV) (K:Option Int→Prop):Prop:=@Option.rec KV (fun _=>Prop) (K none) (fun v=>z8 (fun _ n=>K (some n)) (BadN 94) v) x
omit [KGl] in
theorem zvp {x:Option KV}{K:Option Int→Prop}(h:kMx x K):∃ mv,V.mxb (x.map KV.v)=some mv∧K mv:=by
 cases x with
 | none=>exact⟨_,rfl,h⟩
 | some v =>
  rcases zz (show z8 (fun _ n=>K (some n)) (BadN 94) v from h) with ⟨k,n,rfl,h1⟩ | ⟨_,h1⟩
  ·exact⟨_,rfl,h1⟩
  ·exact h1.elim
inductive SlS where
 | sli (z:Nat)
 | arr (n z:Nat)
 | str
 | bad
def slS (P:Program) (t:TypeId):SlS:=match P.underlying t with
 | some (.slice el)=>match P.info? el with
  | some i=>.sli i.size
  | none=>.bad
 | some (.array n el)=>match P.info? el with
  | some i=>.arr n i.size
  | none=>.bad
 | some .string=>.str
 | _=>.bad
def fO (c:Option Nat) (K:Option Nat→Prop):Prop:=@Option.rec Nat (fun _=>Prop) (K none) (fun n=>fN n fun n=>K (some n)) c
theorem zvq (c:Option Nat) (K:Option Nat→Prop):fO c K=K c:=by
 cases c with
 | none=>rfl
 | some n=>exact zU n fun n=>K (some n)
def zhs (id:Nat) (p:List Step) (e:Shape) (off:Nat) (cap:Option Nat) (l h:Int) (mv:Option Int) (zm:KZ) (nx:Nat) (rd:List Nat) (K:KT):Prop :=
 fN (Nat.add off (vP l)) fun o=>fN (Nat.sub (vP h) (vP l)) fun n=>fO (Xg (vP l) cap mv) fun c=>K (.sl id p e o n c) zm nx [] rd
def zBj (z:Nat) (l:Int) (hi:Option KV) (mv:Option Int) (zm:KZ) (nx:Nat) (K:KT) (id:Nat) (p:List Step) (e:Shape) (off len:Nat) (cap:Option Nat):Prop :=
 Qa len hi fun h=>chk (Nat.beq z e.size) 95 (cnd (slB l h len mv) (zhs id p e off cap l h mv zm nx [] K))
def zBk (z:Nat) (l:Int) (hi:Option KV) (mv:Option Int) (zm:KZ) (nx:Nat) (K:KT) (id:Nat) (e:Shape) (len:Nat):Prop :=
 oB zm id fun k _ _=>Qa len hi fun h=>chk (nd (wg k) (Nat.beq z e.size)) 96 (cnd (slB l h len mv) (zhs id [] e 0 none l h mv zm nx [id] K))
def zBl (z:Nat) (l:Int) (hi:Option KV) (mv:Option Int) (zm:KZ) (nx:Nat) (K:KT) (u clip:Bool) (e:Shape) (off len:Nat) (c:KV):Prop :=
 Qa len hi fun h=>chk (Nat.beq z e.size) 97 (cnd (slB l h len mv) (fN (Nat.add off (vP l)) fun o=>fN (Nat.sub (vP h) (vP l)) fun n=>fB (yu clip len h mv) fun cl=>K (.ro u cl e o n c) zm nx [] []))
def zBm (l:Int) (hi:Option KV) (mv:Option Int) (zm:KZ) (nx:Nat) (K:KT):Prop:=Qa 0 hi fun h=>cnd (slB l h 0 mv) (K .nils zm nx [] [])
def kSl (z:Nat) (x:KV) (l:Int) (hi:Option KV) (mv:Option Int) (zm:KZ) (nx:Nat) (K:KT):Prop :=
 Jg (zBj z l hi mv zm nx K) (yA (zBk z l hi mv zm nx K) (Xu (zBl z l hi mv zm nx K) (wH (zBm l hi mv zm nx K) (BadN 99) x) x) x) x
def zBn (n z:Nat) (l:Int) (hi:Option KV) (mv:Option Int) (zm:KZ) (nx:Nat) (K:KT) (id:Nat) (p:List Step) (s:Shape):Prop :=
 shA s (fun n' e=>Qa n hi fun h=>chk (nd (Nat.beq n' n) (Nat.beq z e.size)) 100 (cnd (slB l h n mv) (zhs id p e 0 (some n) l h mv zm nx [] K))) (BadN 101)
def zBo (n z:Nat) (l:Int) (hi:Option KV) (mv:Option Int) (zm:KZ) (nx:Nat) (K:KT) (u:Bool) (s:Shape) (c:KV):Prop :=
 shA s (fun n' e=>Qa n hi fun h=>chk (nd (Nat.beq n' n) (nd (Nat.beq z e.size) (arN c n))) 102 (cnd (slB l h n mv) (fN (vP l) fun o=>fN (Nat.sub (vP h) (vP l)) fun m=>fB (yu true n h mv) fun cl=>K (.ro u cl e o m c) zm nx [] []))) (BadN 103)
def kSa (n z:Nat) (x:KV) (l:Int) (hi:Option KV) (mv:Option Int) (zm:KZ) (nx:Nat) (K:KT):Prop :=
 yz (zBn n z l hi mv zm nx K) (QP (zBo n z l hi mv zm nx K) (BadN 104) x) x
def kSs (x:KV) (l:Int) (hi:Option KV) (mv:Option Int) (zm:KZ) (nx:Nat) (K:KT):Prop :=
 qp (fun n s=>@Option.rec Int (fun _=>Prop) (Qa n hi fun h=>cnd (slB l h n none) (fN (Nat.sub (vP h) (vP l)) fun m=>fN (pkx .u8 s (vP l) m) fun y=>K (.str m y) zm nx [] [])) (fun _=>BadN 105) mv) (BadN 106) x
def opB (mx hi:Option KV):Bool:=mx.isNone||hi.isSome
def zht (P:Program) (t:TypeId) (x:KV) (low hi mx:Option KV) (zm:KZ) (nx:Nat) (K:KT):Prop :=
 chk (opB mx hi) 107 (Qa 0 low fun l=>kMx mx fun mv=>@SlS.rec (fun _=>Prop) (fun z=>kSl z x l hi mv zm nx K) (fun n z=>kSa n z x l hi mv zm nx K) (kSs x l hi mv zm nx K) (BadN 108) (slS P t))
omit [KGl] in
theorem Qb {n x l h:Nat}(h1:l≤h) (h2:h≤n):(zL n x).extract l h=zL (h - l) (pkx .u8 x l (h - l)):=by
 apply ByteArray.ext
 apply Array.ext'
 show (((zL n x).extract l h).data).toList=(List.range (h - l)).map _
 rw[ByteArray.data_extract,Array.toList_extract]
 show List.extract ((List.range n).map fun i=>UInt8.ofNat (pkr .u8 x i)) l h=_
 rw[List.extract_eq_take_drop]
 apply List.ext_getElem?
 intro i
 rw[List.getElem?_take,List.getElem?_map,List.getElem?_drop,List.getElem?_map]
 by_cases hi:i < h - l
 ·rw[if_pos hi,List.getElem?_range (by omega),List.getElem?_range hi,Option.map_some,Option.map_some,v3 hi]
 ·rw[if_neg hi,List.getElem?_eq_none (by simp; omega)]; rfl
theorem wD {x:Option Operand}:(x.map (kev τ)).map KV.v=x.map (opv Gl.G (tv' τ)):=by
 cases x with
 | none=>rfl
 | some y=>exact congrArg some (zK τ y)
theorem zvr {x y:Option Operand}(h:opB (x.map (kev τ)) (y.map (kev τ))=true):((x.map (opv Gl.G (tv' τ))).isNone||(y.map (opv Gl.G (tv' τ))).isSome)=true:=by
 unfold opB at h
 revert h
 cases x<;>cases y<;>intro h<;>first | rfl | exact h
theorem zbX {id:Nat}{p:List Step}{e:Shape}{off:Nat}{cap:Option Nat}{l h:Int}{mv:Option Int}{rd:List Nat}(hk:zhs id p e off cap l h mv zm nx rd K) :
  K (.sl id p e (off + l.toNat) (h.toNat - l.toNat) (Xg l.toNat cap mv)) zm nx [] rd:=by
 unfold zhs at hk
 rw[zU,zU,zvq,xo,xo] at hk
 exact hk
theorem zhu {t:TypeId}{x:Operand}{low hi mx:Option Operand}(ho:o.op=.slice t x low hi mx) (h:zht P t (kev τ x) (low.map (kev τ)) (hi.map (kev τ)) (mx.map (kev τ)) zm nx K):Out P B o τ lo zm nx K:=by
 have hx:=zK τ x
 obtain⟨h0,h1⟩:=ze h
 have hob:=zvr h0
 obtain⟨l,h2,h3⟩:=wC h1
 obtain⟨mv,h4,h5⟩:=zvp h3
 rw[wD] at h2 h4
 replace h2:V.bnd 0 (low.map (opv Gl.G (tv' τ)))=some l:=h2
 have fin:∀ {v:KV}{rd:List Nat}{w:V},K v zm nx [] rd→(jO P t (opv Gl.G (tv' τ) x) (low.map (opv Gl.G (tv' τ))) (hi.map (opv Gl.G (tv' τ))) (mx.map (opv Gl.G (tv' τ))) (am zm)).is ⟨w,[],[],rd⟩→w=v.v→Out P B o τ lo zm nx K:=fun hk hy hw =>
  Out.pure hk (zak ho hy) (by rw[hw]; exact EImp.refl _)
 unfold slS at h5
 split at h5
 ·rename_i el hu
  split at h5
  ·rename_i i hinf
   have h6:kSl i.size (kev τ x) l (hi.map (kev τ)) mv zm nx K:=h5
   rcases ve h6 with ⟨id,p,e,off,len,cap,hp,h7⟩ | ⟨_,h7⟩
   ·obtain⟨h,h8,h9⟩:=wC h7
    rw[wD] at h8
    obtain⟨h10,h11⟩:=ze h9
    obtain⟨h12,h13⟩:=za.1 h11
    rw[hp] at hx
    refine fin (zbX h13) ?_ rfl
    unfold jO
    rw[if_pos hob,h2,h4,hu,←hx]
    simp only[ySl,hinf,zl6,zI h10,if_true,h8]
    exact qf h12
   rcases vu h7 with ⟨id,e,len,hp,h7⟩ | ⟨_,h7⟩
   ·obtain⟨k,sh,v,hb,h7⟩:=xL h7
    obtain⟨h,h8,h9⟩:=wC h7
    rw[wD] at h8
    obtain⟨h10,h11⟩:=ze h9
    obtain⟨h12,h13⟩:=za.1 h11
    rw[zd] at h10
    rw[hp] at hx
    refine fin (w:=.sl id [] e l.toNat (h.toNat - l.toNat) (Xg l.toNat none mv)) (zbX h13) ?_ (by rw[Nat.zero_add]; rfl)
    unfold jO
    rw[if_pos hob,h2,h4,hu,←hx]
    simp only[ySl,hinf,zh9,zJ hb,KBlk.b,xk,h10.1,zI h10.2,and_self,if_true,h8]
    exact qf h12
   rcases xJ h7 with ⟨u,clip,e,off,len,c,hp,h7⟩ | ⟨_,h7⟩
   ·obtain⟨h,h8,h9⟩:=wC h7
    rw[wD] at h8
    obtain⟨h10,h11⟩:=ze h9
    obtain⟨h12,h13⟩:=za.1 h11
    rw[zU,zU,Jj,xo,xo] at h13
    rw[hp] at hx
    refine fin (w:=.ro u (yu clip len h mv) e (h.toNat - l.toNat) fun j=>c.v.step (.idx (off + (l.toNat + j)))) h13 ?_ (by
     rw[Xx]
     congr 1
     funext j
     rw[show Nat.add off l.toNat + j=off + (l.toNat + j) from Nat.add_assoc _ _ _])
    unfold jO
    rw[if_pos hob,h2,h4,hu,←hx]
    simp only[ySl,hinf,Xx,zI h10,if_true,h8]
    exact qf h12
   rcases vk h7 with ⟨hp,h7⟩ | ⟨_,h7⟩
   ·obtain⟨h,h8,h9⟩:=wC h7
    rw[wD] at h8
    rw[hp] at hx
    obtain⟨h12,h13⟩:=za.1 (show cnd (slB l h 0 mv) (K .nils zm nx [] []) from h9)
    refine fin h13 ?_ rfl
    unfold jO
    rw[if_pos hob,h2,h4,hu,←hx]
    simp only[ySl,hinf,zib,h8]
    exact qf h12
   ·exact h7.elim
  ·exact (show BadN 108 from h5).elim
 ·rename_i n el hu
  split at h5
  ·rename_i i hinf
   have h6:kSa n i.size (kev τ x) l (hi.map (kev τ)) mv zm nx K:=h5
   rcases xY h6 with ⟨id,p,s,hp,h7⟩ | ⟨_,h7⟩
   ·obtain⟨n',e,rfl,hq⟩:=Vd h7
    obtain⟨h,h8,h9⟩:=wC hq
    rw[wD] at h8
    obtain⟨h10,h11⟩:=ze h9
    obtain⟨h12,h13⟩:=za.1 h11
    rw[zd] at h10
    rw[hp] at hx
    refine fin (w:=.sl id p e l.toNat (h.toNat - l.toNat) (Xg l.toNat (some n) mv)) (zbX h13) ?_ (by rw[Nat.zero_add]; rfl)
    unfold jO
    rw[if_pos hob,h2,h4,hu,←hx]
    simp only[zlk,hinf,zaS,zI h10.1,zI h10.2,and_self,if_true,h8]
    exact qf h12
   rcases qq h7 with ⟨u,s,c,hp,h7⟩ | ⟨_,h7⟩
   ·obtain⟨n',e,rfl,hq⟩:=Vd h7
    obtain⟨h,h8,h9⟩:=wC hq
    rw[wD] at h8
    obtain⟨h10,h11⟩:=ze h9
    obtain⟨h12,h13⟩:=za.1 h11
    rw[zU,zU,Jj,xo,xo] at h13
    simp only[zd] at h10
    obtain⟨q1,q2,q3⟩:=h10
    obtain⟨f,hf⟩:=zoj q3
    obtain rfl:=zI q1
    rw[hp] at hx
    refine fin (w:=.ro u (yu true n' h mv) e (h.toNat - l.toNat) fun j=>f (l.toNat + j)) h13 ?_ (by rw[Xx,hf]; rfl)
    unfold jO
    rw[if_pos hob,h2,h4,hu,←hx]
    simp only[zlk,hinf,QR,hf,zI q2,and_self,if_true,h8]
    exact qf h12
   ·exact h7.elim
  ·exact (show BadN 108 from h5).elim
 ·rename_i hu
  have h6:kSs (kev τ x) l (hi.map (kev τ)) mv zm nx K:=h5
  rcases vq h6 with ⟨n,s,hp,h7⟩ | ⟨_,h7⟩
  ·cases mv with
   | some _=>exact (show BadN 105 from h7).elim
   | none =>
    have h7:Qa n (hi.map (kev τ)) (fun h=>cnd (slB l h n none) (fN (Nat.sub (vP h) (vP l)) fun m=>fN (pkx .u8 s (vP l) m) fun y=>K (.str m y) zm nx [] [])):=h7
    obtain⟨h,h8,h9⟩:=wC h7
    rw[wD] at h8
    obtain⟨h12,h13⟩:=za.1 h9
    rw[zU,zU,xo,xo] at h13
    rw[hp] at hx
    have hsz:(zL n s).size=n:=by show ((List.range n).map _).length=n; simp
    have hb:l.toNat≤h.toNat∧h.toNat≤n:=by
     unfold slB at h12
     simp only[Bool.and_eq_true,xR,decide_eq_true_eq,Int.ofNat_eq_natCast] at h12
     omega
    refine fin (w:=.str ((zL n s).extract l.toNat h.toNat)) h13 ?_ (by rw[Qb hb.1 hb.2]; rfl)
    unfold jO
    rw[if_pos hob,h2,h4,hu,←hx]
    simp only[zdU,hsz,h8]
    exact qf h12
  ·exact h7.elim
 ·exact (show BadN 108 from h5).elim
end
end
end Go.K
namespace Go.K
open Go.Ab Go.RowKit Go.Y
noncomputable section
variable [KGl]
section
variable {P:Program}{B:Nat}{o:Oper}{τ:Nat→KV}{lo:Nat}{zm:KZ}{nx:Nat}{K:KT}
def zvx (P:Program) (t:TypeId) (x:KV) (zm:KZ) (nx:Nat) (K:KT):Prop:=BadN 261
theorem zqP {t:TypeId}{x:Operand}(ho:o.op=.makeInterface t x) (h:zvx P t (kev τ x) zm nx K):Out P B o τ lo zm nx K:=h.elim
def zaI (x:Operand):Bool:=match x with
 | .const _=>true
 | _=>false
def zol (P:Program) (op:BinOp) (t:TypeId) (cst:Bool) (x y:KV) (zm:KZ) (nx:Nat) (K:KT):Prop:=zq2 P op t x y zm nx K
theorem zlK {op:BinOp}{t t':TypeId}{x y:Operand}(ho:o.op=.binOp op t x y t') (h:zol P op t (zaI x||zaI y) (kev τ x) (kev τ y) zm nx K):Out P B o τ lo zm nx K:=zhO ho h
end
end
end Go.K
namespace Go.K
open Go.Ab Go.RowKit Go.Y
noncomputable section
variable [KGl]
section
variable {P:Program}{B:Nat}{o:Oper}{τ:Nat→KV}{lo:Nat}{zm:KZ}{nx:Nat}{K:KT}
def zdE (r:Option Operand) (zm:KZ) (nx:Nat) (K:KT):Prop:=BadN 260
theorem zfF {t:TypeId}{r:Option Operand}(ho:o.op=.makeMap t r) (h:zdE r zm nx K):Out P B o τ lo zm nx K:=h.elim
def zon (P:Program) (t:TypeId) (ok:Bool) (x k:KV) (zm:KZ) (nx:Nat) (K:KT):Prop:=BadN 261
theorem zlO {t:TypeId}{x k:Operand}{ok:Bool}(ho:o.op=.lookup t x k ok) (h:zon P t ok (kev τ x) (kev τ k) zm nx K):Out P B o τ lo zm nx K:=h.elim
def zqR (lo:Nat) (P:Program) (t:TypeId) (a k x:KV) (zm:KZ) (nx:Nat) (K:KT):Prop:=BadN 262
theorem zhF {t:TypeId}{a k x:Operand}(ho:o.op=.mapUpdate t a k x∨o.op=.insert t a k x) (h:zqR lo P t (kev τ a) (kev τ k) (kev τ x) zm nx K):Out P B o τ lo zm nx K:=h.elim
def zhG (P:Program) (t:TypeId) (x:KV) (zm:KZ) (nx:Nat) (K:KT):Prop:=zqA P t x zm nx K
theorem zlP {t:TypeId}{x:Operand}(ho:o.op=.call ⟨.builtin .len,#[x],#[t]⟩) (h:zhG P t (kev τ x) zm nx K):Out P B o τ lo zm nx K:=zqB ho h
end
end
end Go.K
namespace Go.K
open Go.Ab Go.RowKit Go.Y
noncomputable section
variable [KGl]
omit [KGl] in
theorem Imp.arr {n:Nat}{f g:Nat→V}(h:∀ i,i < n→Imp (f i) (g i)):Imp (.arr n f) (.arr n g):=by
 intro C m hr
 cases m with
 | cel s q off=>obtain⟨e,h1,h2⟩:=hr; exact⟨e,h1,fun i hi=>h i hi _ _ (h2 i hi)⟩
 | val v=>obtain⟨cs,e,h1,h2,h3⟩:=hr; exact⟨cs,e,h1,h2,fun i hi=>h i hi _ _ (h3 i hi)⟩
 | list l=>exact hr
omit [KGl] in
theorem Imp.arrE {n:Nat}{f g:Nat→V}(h:∀ i,i < n→f i=g i):Imp (.arr n f) (.arr n g):=Imp.arr fun i hi=>by rw[h i hi]; exact Imp.refl _
omit [KGl] in
theorem Imp.roE {u c:Bool}{e:Shape}{n:Nat}{f g:Nat→V}(h:∀ i,i < n→f i=g i):Imp (.ro u c e n f) (.ro u c e n g):=by
 intro C m hr
 obtain⟨a,k,h1,h2,h3,h4⟩:=hr
 refine⟨a,k,h1,h2,h3,h4.imp id ?_⟩
 rintro⟨b,o,h5,h6,h7⟩
 exact⟨b,o,h5,h6,fun i hi=>by rw[←h i hi]; exact h7 i hi⟩
omit [KGl] in
theorem Imp.refE {u:Bool}{s:Shape}{v w:V}(h:Imp v w):Imp (.ref u s v) (.ref u s w):=by
 intro C m hr
 obtain⟨b,o,h1,h2,h3⟩:=hr
 exact⟨b,o,h1,h2,h _ _ h3⟩
section
variable {P:Program}{B:Nat}{o:Oper}{τ:Nat→KV}{lo:Nat}{zm:KZ}{nx:Nat}{K:KT}
def arK (c:KV):Bool:=match c with
 | .pk _ _ _=>true
 | .ar _ _ _=>true
 | .fa _ _=>true
 | _=>false
omit [KGl] in
theorem we {c:KV}(h:arK c=true):∃ n f,c.v=.arr n f∧∀ i,f i=(zQ i c).v:=by
 unfold arK at h
 split at h
 ·exact⟨_,_,rfl,fun i=>rfl⟩
 ·exact⟨_,_,rfl,fun i=>by rw[xU]; rfl⟩
 ·exact⟨_,_,rfl,fun i=>rfl⟩
 ·cases h
def zvj (x:KV) (zm:KZ) (F:Shape→Nat→Nat→KV→List Nat→Prop):Prop :=
 Jg (fun id p e off len _=>oB zm id fun k _ v=>chk (nd (wg k) (yF p v)) 110 (fV (jd p v) fun c=>chk (arK c) 111 (F e off len c [id])))
  (yA (fun id e len=>oB zm id fun k _ v=>chk (nd (wg k) (arK v)) 112 (F e 0 len v [id]))
   (Xu (fun _ _ e off len c=>F e off len c []) (BadN 113) x) x) x
theorem zqt {x:KV}{F:Shape→Nat→Nat→KV→List Nat→Prop}(h:zvj x zm F):∃ e off len c rd f,F e off len c rd∧Zs (am zm) x.v=some (e,len,f,rd)∧∀ i,f i=(zQ (off + i) c).v:=by
 rcases ve h with ⟨id,p,e,off,len,cap,rfl,h1⟩ | ⟨_,h1⟩
 ·obtain⟨k,sh,v,hb,h2⟩:=xL h1
  obtain⟨h3,h4⟩:=ze h2
  obtain⟨h3,hpo⟩:=zd.1 h3
  rw[xC] at h4
  obtain⟨h5,h6⟩:=ze h4
  obtain⟨n,f,hf,hf'⟩:=we h5
  refine⟨e,off,len,_,[id],fun i=>f (off + i),h6,?_,fun i=>hf' _⟩
  rw[v4 p v hpo] at hf
  show Zs (am zm) (.sl id p e off len cap)=_
  simp only[Zs,zJ hb,KBlk.b,xk,h3,if_true,hf]
 rcases vu h1 with ⟨id,e,len,rfl,q1⟩ | ⟨_,h1⟩
 ·obtain⟨k,sh,v,hb,h2⟩:=xL q1
  obtain⟨h3,h4⟩:=ze h2
  rw[zd] at h3
  obtain⟨n,f,hf,hf'⟩:=we h3.2
  refine⟨e,0,len,_,[id],f,h4,?_,fun i=>by rw[Nat.zero_add]; exact hf' i⟩
  show Zs (am zm) (.row id e len)=_
  simp only[Zs,zJ hb,KBlk.b,xk,h3.1,if_true,hf]
 rcases xJ h1 with ⟨u,cl,e,off,len,c,rfl,q1⟩ | ⟨_,h1⟩
 ·refine⟨e,off,len,c,[],_,q1,rfl,fun i=>(xU _ _).symm⟩
 ·exact h1.elim
def QH (s:Shape) (x:KV) (zm:KZ) (F:Shape→Nat→Nat→KV→List Nat→Prop):Prop:=wH (F s 0 0 .unk []) (zvj x zm F) x
theorem WP {s:Shape}{x:KV}{F:Shape→Nat→Nat→KV→List Nat→Prop}(h:QH s x zm F):∃ e off len c rd f,F e off len c rd∧yf (am zm) s x.v=some (e,len,f,rd)∧∀ i,i < len→f i=(zQ (off + i) c).v:=by
 rcases vk h with ⟨rfl,h1⟩ | ⟨hn,h1⟩
 ·exact⟨s,0,0,.unk,[],_,h1,rfl,fun i hi=>by omega⟩
 ·obtain⟨e,off,len,c,rd,f,h2,h3,h4⟩:=zqt h1
  refine⟨e,off,len,c,rd,f,h2,?_,fun i _=>h4 i⟩
  unfold yf
  split
  ·rename_i hv; exfalso; unfold Zs at h3; rw[hv] at h3; cases h3
  ·exact h3
def yx (c:KV) (off at':Nat) (n:Nat):KV→(KV→Prop)→Prop:=@Nat.rec (fun _=>KV→(KV→Prop)→Prop) (fun t K=>K t) (fun j ih t K=>ih t fun t=>fV (zQ (Nat.add off j) c) fun x=>zdX x (enc (Nat.add at' j)) t K) n
theorem wZ {c:KV}{off at':Nat}:∀(n:Nat) (t:KV) (K:KV→Prop),yx c off at' n t K→∃ t',K t'∧∀ i z,t'.atv (enc i) z=if at'≤i∧i < at' + n then (zQ (off + (i - at')) c).v else t.atv (enc i) z
 | 0,t,K,h=>⟨t,h,fun i z=>by rw[if_neg (by omega)]⟩
 | n + 1,t,K,h=>by
  obtain⟨t',h1,h2⟩:=wZ n t _ (show yx c off at' n t (fun t=>fV (zQ (Nat.add off n) c) fun x=>zdX x (enc (Nat.add at' n)) t K) from h)
  rw[xC,Jk] at h1
  refine⟨_,h1,fun i z=>?_⟩
  rw[jD,h2]
  by_cases hi:i=at' + n
  ·subst hi
   rw[if_pos (show at' + n=Nat.add at' n from rfl),if_pos (by omega),show at' + n - at'=n by omega]; rfl
  ·rw[if_neg (show ¬ i=Nat.add at' n from hi)]
   by_cases h3:at'≤i∧i < at' + n
   ·rw[if_pos h3,if_pos (by omega)]
   ·rw[if_neg h3,if_neg (by omega)]
def zfu (off0:Nat) (f:Nat→KV):Nat→KV:=@Bool.rec (fun _=>Nat→KV) (fun i=>f (Nat.add off0 i)) f (Nat.beq off0 0)
omit [KGl] in
theorem WQ (off0:Nat) (f:Nat→KV) (i:Nat):zfu off0 f i=f (off0 + i):=by
 unfold zfu
 cases h:Nat.beq off0 0 with
 | false=>rfl
 | true=>obtain rfl:=zI h; rw[Nat.zero_add]
def zoa (len0:Nat) (c:KV) (off k:Nat) (K:KV→Prop) (off0:Nat) (kk:IntKind) (_ x0:Nat):Prop :=
 wh (fun kk' _ y=>chk (xa kk kk') 114 (fN (Nat.add (pkx kk x0 off0 len0) (Nat.shiftLeft (pkx kk y off k) (Nat.mul (wd kk) len0))) fun z=>K (.pk kk (Nat.add len0 k) z)))
  (chk (Nat.beq k 0) 115 (K (.pk kk len0 (pkx kk x0 off0 len0)))) c
def zob (len0:Nat) (c:KV) (off k:Nat) (K:KV→Prop) (off0:Nat) (c0:KV) (_:Nat) (d t:KV):Prop :=
 @Bool.rec (fun _=>Prop) (yx c0 off0 0 len0 .te fun t=>yx c off len0 k t fun t=>K (.ar (Nat.add len0 k) d t)) (yx c off len0 k t fun t=>K (.ar (Nat.add len0 k) d t)) (Nat.beq off0 0)
def zoc (z:KV) (c:KV) (off k:Nat) (K:KV→Prop):Prop :=
 wh (fun kk _ y=>fN (pkx kk y off k) fun y=>K (.pk kk k y)) (W5 (fun _ d t=>@Bool.rec (fun _=>Prop) (yx c off 0 k .te fun t=>K (.ar k d t)) (K (.ar k d t)) (Nat.beq off 0)) (Jh (fun _ g=>K (.fa k (zfu off g))) (chk (Nat.beq k 0) 116 (K (wc 0 z))) c) c) c
def ZE (lo hi j:Nat) (a b:KV):KV:=@Bool.rec (fun _=>KV) b a (nd (Nat.ble lo j) (Nat.blt j hi))
omit [KGl] in
theorem ZF (lo hi j:Nat) (a b:KV):ZE lo hi j a b=if lo≤j∧j < hi then a else b:=by
 unfold ZE
 by_cases h:lo≤j∧j < hi
 ·rw[if_pos h,show nd (Nat.ble lo j) (Nat.blt j hi)=true from zd.2 ⟨Nat.ble_eq_true_of_le h.1,xZ.2 h.2⟩]
 ·rw[if_neg h]
  cases hb:nd (Nat.ble lo j) (Nat.blt j hi) with
  | false=>rfl
  | true=>obtain⟨h1,h2⟩:=zd.1 hb; exact absurd ⟨Nat.le_of_ble_eq_true h1,xZ.1 h2⟩ h
def zbQ (c:KV) (off len0:Nat) (k:Nat):(Nat→KV)→((Nat→KV)→Prop)→Prop:=@Nat.rec (fun _=>(Nat→KV)→((Nat→KV)→Prop)→Prop) (fun f K=>K f) (fun j ih f K=>ih f fun f=>fV (zQ (Nat.add off j) c) fun x=>K fun i=>ifN i (Nat.add len0 j) x (f i)) k
theorem zaC {c:KV}{off len0:Nat}{f:Nat→KV}:∀ {k:Nat}{K:(Nat→KV)→Prop},zbQ c off len0 k f K→∃ g,K g∧∀ i,i < len0 + k→g i=if i < len0 then f i else zQ (off + (i - len0)) c
 | 0,K,h=>⟨f,h,fun i hi=>by rw[if_pos (by omega)]⟩
 | k + 1,K,h=>by
  obtain⟨g,h1,h2⟩:=zaC (show zbQ c off len0 k f (fun f=>fV (zQ (Nat.add off k) c) fun x=>K fun i=>ifN i (Nat.add len0 k) x (f i)) from h)
  rw[xC] at h1
  refine⟨_,h1,fun i hi=>?_⟩
  rw[jp]
  by_cases h:i=len0 + k
  ·rw[if_pos (show i=Nat.add len0 k from h),if_neg (by omega),show i - len0=k by omega]; rfl
  ·rw[if_neg (show ¬ i=Nat.add len0 k from h),h2 i (by omega)]
def zod (len0:Nat) (c:KV) (off k:Nat) (K:KV→Prop) (off0:Nat) (c0:KV) (_:Nat) (f:Nat→KV):Prop :=
 Jh (fun _ g=>K (.fa (Nat.add len0 k) fun i=>ZE 0 len0 i (zfu off0 f i) (g (Nat.add off (Nat.sub i len0))))) (zbQ c off len0 k (zfu off0 f) fun f=>K (.fa (Nat.add len0 k) f)) c
def zhg (z:KV) (c0:KV) (off0 len0:Nat) (c:KV) (off k:Nat) (K:KV→Prop):Prop :=
 @Bool.rec (fun _=>Prop) (wh (zoa len0 c off k K off0) (W5 (zob len0 c off k K off0 c0) (BadN 117) c0) c0) (zoc z c off k K) (Nat.beq len0 0)
def zhh (z:KV) (c0:KV) (off0 len0:Nat) (c:KV) (off k:Nat) (K:KV→Prop):Prop :=
 Jh (zod len0 c off k K off0 c0) (zhg z c0 off0 len0 c off k K) c0
omit [KGl] in
theorem zhi {kk:IntKind}{a b len0 j:Nat}(ha:a < 2 ^ (wd kk * len0)):pkr kk (a + b <<< (wd kk * len0)) j=if j < len0 then pkr kk a j else pkr kk b (j - len0):=by
 have h0:a + b <<< (wd kk * len0)=b <<< (wd kk * len0) ||| a:=by
  rw[Nat.add_comm,Nat.shiftLeft_eq,Nat.mul_comm b]
  exact Nat.two_pow_add_eq_or_of_lt ha b
 have hbit:∀ q,(a + b <<< (wd kk * len0)).testBit q=if q < wd kk * len0 then a.testBit q else b.testBit (q - wd kk * len0):=by
  intro q
  rw[h0,Nat.testBit_or,Nat.testBit_shiftLeft]
  by_cases hq:q < wd kk * len0
  ·rw[if_pos hq]; simp [show ¬ wd kk * len0≤q by omega]
  ·rw[if_neg hq,zdQ ha (by omega)]; simp [show wd kk * len0≤q by omega]
 apply Nat.eq_of_testBit_eq; intro q
 show (bts (a + b <<< (wd kk * len0)) (wd kk * j) (wd kk)).testBit q=_
 rw[xb,hbit]
 by_cases hq:q < wd kk
 ·by_cases hj:j < len0
  ·have:wd kk * (j + 1)≤wd kk * len0:=Nat.mul_le_mul_left _ hj
   rw[Nat.mul_succ] at this
   rw[if_pos (by omega),if_pos hj]
   show _=(bts a (wd kk * j) (wd kk)).testBit q
   rw[xb]
  ·have:wd kk * len0≤wd kk * j:=Nat.mul_le_mul_left _ (by omega)
   rw[if_neg (by omega),if_neg hj]
   show _=(bts b (wd kk * (j - len0)) (wd kk)).testBit q
   rw[xb,Nat.mul_sub,show wd kk * j + q - wd kk * len0=wd kk * j - wd kk * len0 + q by omega]
 ·have h1:∀ x y,(pkr kk x y).testBit q=false:=fun x y=>by
   show (bts x (wd kk * y) (wd kk)).testBit q=false
   rw[xb]; simp [hq]
  simp only[hq,decide_false,Bool.false_and]
  split<;>rw[h1]
theorem WR {z c0 c:KV}{off0 len0 off k:Nat}{K:KV→Prop}(h:zhh z c0 off0 len0 c off k K):∃ c' g,K c'∧c'.v=.arr (len0 + k) g∧∀ i,i < len0 + k→g i=if i < len0 then (zQ (off0 + i) c0).v else (zQ (off + (i - len0)) c).v:=by
 rcases jU (show Jh (zod len0 c off k K off0 c0) (zhg z c0 off0 len0 c off k K) c0 from h) with ⟨n0,f,rfl,h1⟩ | ⟨_,h⟩
 ·rcases jU (show Jh _ _ c from h1) with ⟨n1,g,rfl,h2⟩ | ⟨_,h2⟩
  ·refine⟨_,_,h2,Xy _ _,fun i hi=>?_⟩
   show (ZE 0 len0 i (zfu off0 f i) (g (off + (i - len0)))).v=_
   rw[ZF,WQ]
   by_cases hi':i < len0
   ·rw[if_pos ⟨Nat.zero_le _,hi'⟩,if_pos hi']; rfl
   ·rw[if_neg (fun h=>hi' h.2),if_neg hi']; rfl
  ·obtain⟨g,h3,h4⟩:=zaC h2
   refine⟨_,_,h3,Xy _ _,fun i hi=>?_⟩
   rw[h4 i hi]
   by_cases hi':i < len0
   ·rw[if_pos hi',if_pos hi',WQ]; rfl
   ·rw[if_neg hi',if_neg hi']
 unfold zhg at h
 cases hl:Nat.beq len0 0 with
 | true =>
  obtain rfl:=zI hl
  rw[hl] at h
  rcases xp (show zoc z c off k K from h) with ⟨kk,n,y,rfl,h1⟩ | ⟨_,h1⟩
  ·rw[zU] at h1
   refine⟨_,_,h1,by rw[wI,Nat.zero_add],fun i hi=>?_⟩
   rw[if_neg (by omega),Nat.sub_zero]
   show V.int kk (dec kk (pkr kk _ i))=V.int kk (dec kk (pkr kk y (off + i)))
   rw[v3 (by omega)]
  ·rcases jb h1 with ⟨n,d,t,rfl,q1⟩ | ⟨_,h1⟩
   ·cases ho:Nat.beq off 0 with
    | true =>
     obtain rfl:=zI ho
     refine⟨_,_,(by rw[ho] at q1; exact q1),by rw[ZM,Nat.zero_add],fun i hi=>?_⟩
     rw[if_neg (by omega),Nat.zero_add,Nat.sub_zero,xU]; rfl
    | false =>
     rw[ho] at q1
     obtain⟨t',h2,h3⟩:=wZ _ _ _ (show yx (.ar n d t) off 0 k .te _ from q1)
     refine⟨_,_,h2,by rw[ZM,Nat.zero_add],fun i hi=>?_⟩
     rw[h3,if_pos (by omega),if_neg (by omega)]
   ·rcases jU h1 with ⟨n,g,rfl,q1⟩ | ⟨_,h1⟩
    ·refine⟨_,_,q1,by rw[Xy,Nat.zero_add],fun i hi=>?_⟩
     rw[if_neg (by omega),Nat.sub_zero,WQ]; rfl
    obtain⟨h2,h3⟩:=ze h1
    obtain rfl:=zI h2
    exact⟨_,_,h3,ZC 0 z,fun i hi=>by omega⟩
 | false =>
  rw[hl] at h
  rcases xp (show wh (zoa len0 c off k K off0) _ c0 from h) with ⟨kk,n0,x0,rfl,h1⟩ | ⟨_,h1⟩
  ·rcases xp h1 with ⟨kk',n,y,rfl,h2⟩ | ⟨_,h2⟩
   ·obtain⟨h3,h4⟩:=ze h2
    obtain rfl:=zD h3
    rw[zU] at h4
    refine⟨_,_,h4,rfl,fun i hi=>?_⟩
    show V.int kk (dec kk (pkr kk (pkx kk x0 off0 len0 + (pkx kk y off k) <<< (wd kk * len0)) i))=_
    rw[zhi (zh5 _ _ _ _)]
    by_cases hi':i < len0
    ·rw[if_pos hi',if_pos hi',v3 hi']; rfl
    ·rw[if_neg hi',if_neg hi',v3 (by omega)]; rfl
   ·obtain⟨h3,h4⟩:=ze h2
    obtain rfl:=zI h3
    refine⟨_,_,h4,rfl,fun i hi=>?_⟩
    rw[if_pos (by omega)]
    show V.int kk (dec kk (pkr kk _ i))=V.int kk (dec kk (pkr kk x0 (off0 + i)))
    rw[v3 (by omega)]
  ·rcases jb h1 with ⟨n0,d,t,rfl,h2⟩ | ⟨_,h2⟩
   ·unfold zob at h2
    cases ho:Nat.beq off0 0 with
    | true =>
     obtain rfl:=zI ho
     rw[ho] at h2
     obtain⟨t',h3,h4⟩:=wZ _ _ _ (show yx c off len0 k t _ from h2)
     refine⟨_,_,h3,rfl,fun i hi=>?_⟩
     show t'.atv (enc i) d.v=_
     rw[h4]
     by_cases hi':i < len0
     ·rw[if_neg (by omega),if_pos hi',xU,Nat.zero_add]; rfl
     ·rw[if_pos (by omega),if_neg hi']
    | false =>
     rw[ho] at h2
     obtain⟨t1,h3,h4⟩:=wZ _ _ _ (show yx (.ar n0 d t) off0 0 len0 .te _ from h2)
     obtain⟨t',h5,h6⟩:=wZ _ _ _ h3
     refine⟨_,_,h5,rfl,fun i hi=>?_⟩
     show t'.atv (enc i) d.v=_
     rw[h6]
     by_cases hi':i < len0
     ·rw[if_neg (by omega),if_pos hi',h4,if_pos (by omega),Nat.sub_zero]
     ·rw[if_pos (by omega),if_neg hi']
   ·exact h2.elim
def arZ (c:KV):Nat:=match c with
 | .pk _ n _=>n
 | .ar n _ _=>n
 | .fa n _=>n
 | _=>0
omit [KGl] in
theorem QI {c:KV}{n:Nat}{f:Nat→V}(h:arK c=true) (hv:c.v=.arr n f):arZ c=n:=by
 unfold arK at h
 unfold arZ
 split at h
 ·rw[wI] at hv; cases hv; rfl
 ·rw[ZM] at hv; cases hv; rfl
 ·rw[Xy] at hv; cases hv; rfl
 ·cases h
def zhj (c0:KV) (off cnt:Nat) (c:KV) (offs:Nat) (K:KV→Prop):Prop:=chk (arK c0) 414 (K (.fa (arZ c0) fun j=>ZE off (Nat.add off cnt) j (zQ (Nat.add offs (Nat.sub j off)) c) (zQ j c0)))
def zvk (c0:KV) (off cnt:Nat) (c:KV) (offs:Nat) (K:KV→Prop):Prop :=
 wh (fun kk n x=>wh (fun kk' _ y=>chk (xa kk kk') 118 (fN (pkp kk x off cnt (pkx kk y offs cnt)) fun x=>K (.pk kk n x))) (chk (Nat.beq cnt 0) 119 (K c0)) c)
  (W5 (fun n d t=>yx c offs off cnt t fun t=>K (.ar n d t)) (BadN 120) c0) c0
def zqu (c0:KV) (off cnt:Nat) (c:KV) (offs:Nat) (K:KV→Prop):Prop :=
 Jh (fun _ _=>zhj c0 off cnt c offs K) (Jh (fun _ _=>zhj c0 off cnt c offs K) (zvk c0 off cnt c offs K) c0) c
theorem zhk {c0 c:KV}{off cnt offs N:Nat}{f0 f:Nat→V}{K:KV→Prop}(h:zqu c0 off cnt c offs K) (h0:c0.v=.arr N f0) (hf:∀ i,i < cnt→f i=(zQ (offs + i) c).v):∃ c',K c'∧c'.v=.arr N (cpF off cnt f0 f):=by
 have key:∀ j,cpF off cnt f0 f j=if off≤j∧j < off + cnt then f (j - off) else f0 j:=by
  intro j
  unfold cpF
  rw[V.ite_eq]
  by_cases hj:off≤j∧j < off + cnt
  ·rw[if_pos hj]; simp [hj.1,hj.2]
  ·rw[if_neg hj]
   have:(decide (off≤j)&&decide (j < off + cnt))=false:=by simpa using hj
   rw[this]; rfl
 have fa:zhj c0 off cnt c offs K→∃ c',K c'∧c'.v=.arr N (cpF off cnt f0 f):=by
  intro h
  obtain⟨h1,h2⟩:=ze h
  obtain⟨n,g,h3,h4⟩:=we h1
  have hz:=QI h1 h0
  rw[h0] at h3
  injection h3 with e1 e2
  subst e1; subst e2
  refine⟨_,h2,?_⟩
  rw[Xy,hz]
  congr 1
  funext j
  rw[key,ZF]
  by_cases hj:off≤j∧j < off + cnt
  ·rw[if_pos (show off≤j∧j < Nat.add off cnt from hj),if_pos hj,hf _ (by omega)]; rfl
  ·rw[if_neg (show ¬ (off≤j∧j < Nat.add off cnt) from hj),if_neg hj,h4]
 rcases jU (show Jh _ _ c from h) with ⟨_,_,_,h1⟩ | ⟨_,h1⟩
 ·exact fa h1
 rcases jU h1 with ⟨_,_,_,h1⟩ | ⟨_,h⟩
 ·exact fa h1
 clear h1 fa
 rcases xp (show wh _ _ c0 from h) with ⟨kk,n,x,rfl,h1⟩ | ⟨_,h1⟩
 ·rw[wI] at h0
  injection h0 with e1 e2
  subst e1; subst e2
  rcases xp h1 with ⟨kk',m,y,rfl,h2⟩ | ⟨_,h2⟩
  ·obtain⟨h3,h4⟩:=ze h2
   obtain rfl:=zD h3
   rw[zU] at h4
   refine⟨_,h4,?_⟩
   rw[wI]
   congr 1
   funext j
   rw[key]
   unfold pkg
   rw[zdS (zh5 _ _ _ _)]
   by_cases hj:off≤j∧j < off + cnt
   ·rw[if_pos hj,if_pos hj,hf _ (by omega),v3 (by omega)]; rfl
   ·rw[if_neg hj,if_neg hj]
  ·obtain⟨h3,h4⟩:=ze h2
   obtain rfl:=zI h3
   refine⟨_,h4,?_⟩
   rw[wI]
   congr 1
   funext j
   rw[key,if_neg (by omega)]
 ·rcases jb h1 with ⟨n,d,t,rfl,h2⟩ | ⟨_,h2⟩
  ·rw[ZM] at h0
   injection h0 with e1 e2
   subst e1; subst e2
   obtain⟨t',h3,h4⟩:=wZ _ _ _ h2
   refine⟨_,h3,?_⟩
   rw[ZM]
   congr 1
   funext j
   rw[key,h4]
   by_cases hj:off≤j∧j < off + cnt
   ·rw[if_pos hj,if_pos hj,hf _ (by omega)]
   ·rw[if_neg hj,if_neg hj]
  ·exact h2.elim
def apS (P:Program) (t t':TypeId):Option (TypeId×(Shape×KV)):=if t'=t then match P.underlying t with
  | some (.slice et)=>match wx P et,P.info? et with
   | some (s,z),some i=>if i.bytes≤1048576∧0 < s.size then some (et,(s,z)) else none
   | _,_=>none
  | _=>none
 else none
def zBd (et:TypeId) (s:Shape) (z:KV) (zm:KZ) (nx:Nat) (K:KT) (off k:Nat) (c:KV) (rd:List Nat):Prop :=
 cnd (apB 0 k) (zhh z .unk 0 0 c off k fun c'=>nwB (.row et) (.arr k s) c' zm nx fun zm nx'=>K (.row nx s k) zm nx' [] rd)
def zBe (lo:Nat) (et:TypeId) (s:Shape) (z:KV) (zm:KZ) (nx:Nat) (K:KT) (off k:Nat) (c:KV) (rd:List Nat) (id:Nat) (s':Shape) (len:Nat):Prop :=
 oB zm id fun kd sh v=>@Kind.rec (fun _=>Prop) (fun _=>BadN 121) (fun et'=>chk (nd (Nat.ble lo id) (nd (s'.beq s) (nd (Nat.beq et' et) (nd (Nat.blt id nx) (arK v))))) 122
  (cnd (apB len k) (zhh z v 0 len c off k fun c'=>upB id .dead sh .unk zm fun zm=>fN (Nat.add len k) fun m=>nwB (.row et) (.arr m s) c' zm nx fun zm nx'=>K (.row nx s m) zm nx' [id] rd))) (BadN 123) (fun _ _ _ _=>BadN 123) (BadN 123) kd
def zBf (et:TypeId) (s:Shape) (z:KV) (zm:KZ) (nx:Nat) (K:KT) (off k:Nat) (c:KV) (rd:List Nat) (_ clip:Bool) (s':Shape) (off0 len:Nat) (c0:KV):Prop :=
 chk (nd clip (s'.beq s)) 124 (cnd (apB len k&&Nat.blt 0 k) (zhh z c0 off0 len c off k fun c'=>fN (Nat.add len k) fun m=>nwB (.row et) (.arr m s) c' zm nx fun zm nx'=>K (.row nx s m) zm nx' [] rd))
def zoe (et:TypeId) (s:Shape) (z:KV) (zm:KZ) (nx:Nat) (K:KT) (off k:Nat) (c:KV) (rd:List Nat) (id off0 len:Nat) (c0:KV):Prop :=
 chk (Nat.blt 0 k) 212 (zhh z c0 off0 len c off k fun c'=>fN (Nat.add len k) fun m=>nwB (.row et) (.arr m s) c' zm nx fun zm nx'=>K (.row nx s m) zm nx' [] (id::rd))
def zof (lo:Nat) (zm:KZ) (nx:Nat) (K:KT) (off k:Nat) (c:KV) (rd:List Nat) (id:Nat) (p:List Step) (s':Shape) (off0 len cap:Nat) (kd:Kind) (sh:Shape) (v c0:KV):Prop :=
 chk (nd (Nat.ble lo id) (Nat.ble (off0 + len + k) (arZ c0))) 213 (fN (Nat.add off0 len) fun q=>zqu c0 q k c off fun c'=>Jl c' p v fun v'=>fN (Nat.add len k) fun m=>upB id kd sh v' zm fun zm=>K (.sl id p s' off0 m (some cap)) zm nx [id] rd)
def zBg (lo:Nat) (et:TypeId) (s:Shape) (z:KV) (zm:KZ) (nx:Nat) (K:KT) (off k:Nat) (c:KV) (rd:List Nat) (id:Nat) (p:List Step) (s':Shape) (off0 len:Nat) (cp:Option Nat):Prop :=
 os 210 (fun cap=>oB zm id fun kd sh v=>fV (jd p v) fun c0=>chk (nd (wg kd) (nd (s'.beq s) (nd (apB len k) (nd (yF p v) (arK c0))))) 211
  (@Bool.rec (fun _=>Prop) (zoe et s z zm nx K off k c rd id off0 len c0) (zof lo zm nx K off k c rd id p s' off0 len cap kd sh v c0) (Nat.ble (Nat.add len k) cap))) cp
def kAp (lo:Nat) (et:TypeId) (s:Shape) (z:KV) (x:KV) (zm:KZ) (nx:Nat) (K:KT) (s2:Shape) (off k:Nat) (c:KV) (rd:List Nat):Prop :=
 chk (s2.beq s) 125 (yA (zBe lo et s z zm nx K off k c rd) (wH (zBd et s z zm nx K off k c rd) (Xu (zBf et s z zm nx K off k c rd) (Jg (zBg lo et s z zm nx K off k c rd) (BadN 126) x) x) x) x)
def zdy (lo:Nat) (P:Program) (t t':TypeId) (x y:KV) (zm:KZ) (nx:Nat) (K:KT):Prop :=
 os 127 (pr fun et sz=>pr (fun s z=>QH s y zm (kAp lo et s z x zm nx K)) sz) (apS P t t')
omit [KGl] in
theorem zdz {len k:Nat}{f0 f g:Nat→V}{h0:Nat→V}(hg:∀ i,i < len + k→g i=if i < len then h0 i else f (i - len)) (h1:∀ i,i < len→f0 i=h0 i):Imp (.arr (len + k) (wt len f0 f)) (.arr (len + k) g):=by
 refine Imp.arrE fun i hi=>?_
 rw[hg i hi]
 unfold wt
 rw[V.ite_eq]
 by_cases h:i < len
 ·rw[if_pos h,←h1 i h]; simp [h]
 ·rw[if_neg h]; simp [h]
theorem zfv {t t':TypeId}{x y:Operand}(ho:o.op=.call ⟨.builtin .append,#[x,y],#[t,t']⟩) (h:zdy lo P t t' (kev τ x) (kev τ y) zm nx K):Out P B o τ lo zm nx K:=by
 have hx:=zK τ x
 have hy:=zK τ y
 obtain⟨⟨et,s,z⟩,h1,h2⟩:=xg h
 have key:t'=t∧P.underlying t=some (.slice et)∧xu P et=some (s,z.v)∧∃ i,P.info? et=some i∧(i.bytes≤1048576∧0 < s.size):=by
  unfold apS at h1
  split at h1
  ·rename_i ht
   split at h1
   ·rename_i et' hu
    split at h1
    ·rename_i s' z' i hz hi
     split at h1
     ·rename_i hc
      simp only[Option.some.injEq,Prod.mk.injEq] at h1
      obtain⟨rfl,rfl,rfl⟩:=h1
      exact⟨ht,hu,wy hz,i,hi,hc⟩
     ·cases h1
    ·cases h1
   ·cases h1
  ·cases h1
 obtain⟨rfl,hu,hz,i,hi,hc⟩:=key
 obtain⟨s2,off,k,c,rd,f,h3,h4,h5⟩:=WP (show QH s (kev τ y) zm (kAp lo et s z (kev τ x) zm nx K) from h2)
 obtain⟨h6,h7⟩:=ze h3
 rw[hy] at h4
 have hY:∀ r,(Xi et (opv Gl.G (tv' τ) x) s k f rd (am zm) nx).is r→(Zw P t' t' (opv Gl.G (tv' τ) x) (opv Gl.G (tv' τ) y) (am zm) nx).is r:=by
  intro r hr
  unfold Zw
  simp only[if_true,hu,hz,hi,h4,h6]
  rw[if_pos hc]
  exact hr
 rcases vu h7 with ⟨id,s',len,hp,h8⟩ | ⟨_,h8⟩
 ·obtain⟨kd,sh,v,hb,h9⟩:=xL h8
  cases kd with
  | box=>exact (show BadN 121 from h9).elim
  | dead=>exact (show BadN 123 from h9).elim
  | lp k ps x y=>exact (show BadN 123 from h9).elim
  | mp=>exact (show BadN 123 from h9).elim
  | row et' =>
   obtain⟨h10,h11⟩:=ze h9
   obtain⟨h12,h13⟩:=za.1 h11
   simp only[zd] at h10
   obtain⟨q1,q2,q3,q4,q5⟩:=h10
   obtain⟨n1,f0,hf,hf'⟩:=we q5
   obtain⟨c',g,h14,h15,h16⟩:=WR h13
   rw[hp] at hx
   have h17:upB id .dead sh .unk zm fun zm=>nwB (.row et) (.arr (len + k) s) c' zm nx fun zm nx'=>K (.row nx s (len + k)) zm nx' [id] rd:=by
    rw[VX,zU] at h14
    rw[VX]; exact h14
   refine Out.upnew (v:=.row nx s (len + k)) (xZ.1 q4) h17 (Nat.le_of_ble_eq_true q1) (jJ (e:=⟨.row nx s (len + k),[(id,⟨.dead,sh,.unk⟩)],[⟨.row et,.arr (len + k) s,.arr (len + k) (wt len f0 f)⟩],rd⟩) ho (hY _ ?_)) ?_
   ·rw[←hx]
    show (Xi et (.row id s' len) s k f rd (am zm) nx).is _
    simp only[Xi,zJ hb,KBlk.b,hf,Zk]
    rw[if_pos ⟨q2,zI q3,q4⟩]
    exact qf h12
   ·refine⟨Imp.refl _,rfl,rfl,rfl,fun M n i b hb'=>?_⟩
    unfold put xf at hb' ⊢
    simp only[List.length_cons,List.length_nil] at hb' ⊢
    by_cases hin:n≤i∧i < n + (0 + 1)
    ·rw[if_pos hin] at hb' ⊢
     obtain rfl:i=n:=by omega
     simp only[Nat.sub_self,List.getElem?_cons_zero] at hb' ⊢
     cases hb'
     refine⟨_,rfl,.inr ⟨rfl,rfl,?_,fun h=>(by cases h)⟩⟩
     rw[h15]
     exact zdz (h0:=fun i=>(zQ (0 + i) v).v) (fun i hi=>by
      rw[h16 i hi]
      by_cases hl:i < len
      ·rw[if_pos hl,if_pos hl]
      ·rw[if_neg hl,if_neg hl,h5 _ (by omega)]) (fun i hi=>by rw[hf',Nat.zero_add])
    ·rw[if_neg hin] at hb' ⊢
     exact⟨b,hb',BImp.refl b⟩
 rcases vk h8 with ⟨hp,h8⟩ | ⟨_,h8⟩
 ·obtain⟨h12,h13⟩:=za.1 h8
  obtain⟨c',g,h14,h15,h16⟩:=WR h13
  rw[hp] at hx
  refine Out.new (v:=.row nx s k) h14 (jJ (e:=⟨.row nx s (0 + k),[],[⟨.row et,.arr (0 + k) s,.arr (0 + k) (wt 0 (fun _=>.unk) f)⟩],rd⟩) ho (hY _ ?_)) ?_
  ·rw[←hx]
   show (Xi et .nils s k f rd (am zm) nx).is _
   simp only[Xi,Zk]
   exact qf h12
  ·rw[Nat.zero_add,zh9]
   refine EImp.new (Imp.refl _) (.inr ⟨rfl,rfl,?_,fun h=>(by cases h)⟩)
   show Imp _ c'.v
   rw[h15]
   have h17:=zdz (len:=0) (k:=k) (f0:=fun _=>.unk) (f:=f) (g:=g) (h0:=fun _=>.unk) (fun i hi=>by
    rw[h16 i hi,if_neg (by omega),if_neg (by omega),h5 _ (by omega)]) (fun i hi=>by omega)
   rw[Nat.zero_add] at h17 ⊢
   exact h17
 rcases xJ h8 with ⟨u,clip,s',off0,len,c0,hp,h8⟩ | ⟨_,h8⟩
 ·obtain⟨h9,h10⟩:=ze h8
  obtain⟨h12,h13⟩:=za.1 h10
  rw[zd] at h9
  obtain⟨rfl,q1⟩:=h9
  obtain⟨c',g,h14,h15,h16⟩:=WR h13
  rw[zU] at h14
  rw[hp] at hx
  refine Out.new (v:=.row nx s (len + k)) h14 (jJ (e:=⟨.row nx s (len + k),[],[⟨.row et,.arr (len + k) s,.arr (len + k) (wt len (fun i=>c0.v.step (.idx (off0 + i))) f)⟩],rd⟩) ho (hY _ ?_)) ?_
  ·rw[←hx]
   show (Xi et (.ro u true s' len fun i=>c0.v.step (.idx (off0 + i))) s k f rd (am zm) nx).is _
   simp only[Xi,q1,if_true,Zk]
   exact qf h12
  ·refine EImp.new (Imp.refl _) (.inr ⟨rfl,rfl,?_,fun h=>(by cases h)⟩)
   show Imp _ c'.v
   rw[h15]
   exact zdz (h0:=fun i=>(zQ (off0 + i) c0).v) (fun i hi=>by
    rw[h16 i hi]
    by_cases hl:i < len
    ·rw[if_pos hl,if_pos hl]
    ·rw[if_neg hl,if_neg hl,h5 _ (by omega)]) (fun i hi=>by rw[xU])
 rcases ve h8 with ⟨id,p,s',off0,len,cp,hp,h8⟩ | ⟨_,h8⟩
 ·obtain⟨cap,rfl,h9⟩:=xg h8
  obtain⟨kd,sh,v,hb,h10⟩:=xL h9
  rw[xC] at h10
  obtain⟨h11,h12⟩:=ze h10
  simp only[zd] at h11
  obtain⟨q1,q2,q3,hpo,q5⟩:=h11
  obtain⟨N,f0,hf,hf'⟩:=we q5
  have hN:arZ (jd p v)=N:=QI q5 hf
  have hf2:=hf
  rw[v4 p v hpo] at hf2
  rw[hp] at hx
  cases hc:Nat.ble (Nat.add len k) cap with
  | true =>
   rw[hc] at h12
   obtain⟨h13,h14⟩:=ze (show zof lo zm nx K off k c rd id p s' off0 len cap kd sh v (jd p v) from h12)
   rw[zd,hN] at h13
   rw[zU] at h14
   obtain⟨c',h15,h16⟩:=zhk h14 hf fun i hi=>h5 i hi
   obtain⟨v',h17,h18⟩:=qQ _ _ _ _ h15
   rw[zU] at h17
   refine Out.up h17 (Nat.le_of_ble_eq_true h13.1) (jJ (e:=⟨.sl id p s' off0 (len + k) (some cap),[(id,⟨kd,sh,v'.v⟩)],[],rd⟩) ho (hY _ ?_)) (EImp.refl _)
   rw[←hx]
   show (Xi et (.sl id p s' off0 len (some cap)) s k f rd (am zm) nx).is _
   simp only[Xi,zJ hb,KBlk.b,hf2]
   rw[if_pos ⟨by rw[xk]; exact q1,q2⟩,if_pos (show Nat.ble (len + k) cap=true from hc),wT,Wf,h18,h16]
   exact qf h13.2
  | false =>
   rw[hc] at h12
   obtain⟨h13,h14⟩:=ze (show zoe et s z zm nx K off k c rd id off0 len (jd p v) from h12)
   obtain⟨c',g,h14,h15,h16⟩:=WR h14
   rw[zU] at h14
   refine Out.new (v:=.row nx s (len + k)) h14 (jJ (e:=⟨.row nx s (len + k),[],[⟨.row et,.arr (len + k) s,.arr (len + k) (wt len (fun i=>f0 (off0 + i)) f)⟩],id::rd⟩) ho (hY _ ?_)) ?_
   ·rw[←hx]
    show (Xi et (.sl id p s' off0 len (some cap)) s k f rd (am zm) nx).is _
    simp only[Xi,zJ hb,KBlk.b,hf2]
    rw[if_pos ⟨by rw[xk]; exact q1,q2⟩,if_neg (show ¬ Nat.ble (len + k) cap=true by rw[show Nat.ble (len + k) cap=false from hc]; simp),Zk]
    exact qf (by rw[Bool.and_eq_true]; exact⟨q3,h13⟩)
   ·refine EImp.new (Imp.refl _) (.inr ⟨rfl,rfl,?_,fun h=>(by cases h)⟩)
    show Imp _ c'.v
    rw[h15]
    exact zdz (h0:=fun i=>(zQ (off0 + i) (jd p v)).v) (fun i hi=>by
     rw[h16 i hi]
     by_cases hl:i < len
     ·rw[if_pos hl,if_pos hl]
     ·rw[if_neg hl,if_neg hl,h5 _ (by omega)]) (fun i hi=>hf' _)
 ·exact h8.elim
def cpS (P:Program) (t:TypeId):Option Nat:=match P.underlying t with
 | some (.slice et)=>match P.info? et with
  | some i=>some i.size
  | none=>none
 | _=>none
def zBh (lo z:Nat) (zm:KZ) (nx:Nat) (K:KT) (y:KV) (id:Nat) (p:List Step) (e:Shape) (off len:Nat) (_:Option Nat):Prop :=
 oB zm id fun kd sh v=>fV (jd p v) fun c0=>QH e y zm fun e' offs k c rd=>chk (nd (Nat.ble lo id) (nd (wg kd) (nd (e'.beq e) (nd (Nat.beq z e.size) (nd (yF p v) (arK c0)))))) 128
  (fN (min k len) fun cnt=>zqu c0 off cnt c offs fun c'=>Jl c' p v fun v'=>upB id kd sh v' zm fun zm=>K (.int .i64 (.ofNat cnt)) zm nx [id] rd)
def zhl (lo:Nat) (P:Program) (t:TypeId) (x y:KV) (zm:KZ) (nx:Nat) (K:KT):Prop:=os 129 (fun z=>Jg (zBh lo z zm nx K y) (BadN 130) x) (cpS P t)
theorem zlx {t t':TypeId}{x y:Operand}(ho:o.op=.call ⟨.builtin .copy,#[x,y],#[t,t']⟩) (h:zhl lo P t (kev τ x) (kev τ y) zm nx K):Out P B o τ lo zm nx K:=by
 have hx:=zK τ x
 have hy:=zK τ y
 obtain⟨z,h1,h2⟩:=xg h
 obtain⟨et,i,hu,hi,rfl⟩:∃ et i,P.underlying t=some (.slice et)∧P.info? et=some i∧z=i.size:=by
  unfold cpS at h1
  split at h1
  ·split at h1
   ·cases h1; exact⟨_,_,‹_›,‹_›,rfl⟩
   ·cases h1
  ·cases h1
 rcases ve h2 with ⟨id,p,e,off,len,cap,hp,h3⟩ | ⟨_,h3⟩
 ·obtain⟨kd,sh,v,hb,h4⟩:=xL h3
  rw[xC] at h4
  obtain⟨e',offs,k,c,rd,f,h5,h6,h7⟩:=WP h4
  obtain⟨h8,h9⟩:=ze h5
  simp only[zd] at h8
  obtain⟨q1,q2,q3,q4,hpo,q5⟩:=h8
  rw[zU] at h9
  obtain⟨N,f0,hf,_⟩:=we q5
  obtain⟨c',h10,h11⟩:=zhk h9 hf fun i hi=>h7 i (by omega)
  obtain⟨v',h12,h13⟩:=qQ _ _ _ _ h10
  rw[hp] at hx
  rw[hy] at h6
  rw[v4 p v hpo] at hf
  refine Out.up h12 (Nat.le_of_ble_eq_true q1) (zdp (e:=⟨.int .i64 (min k len:Nat),[(id,⟨kd,sh,v'.v⟩)],[],rd⟩) ho ?_) (EImp.refl _)
  unfold zdq
  rw[hu,←hx]
  simp only[hi,zl6,zJ hb,KBlk.b,hf,h6]
  rw[if_pos ⟨by rw[xk]; exact q2,q3,zI q4⟩,wT,Wf,h13,h11]
  rfl
 ·exact h3.elim
end
end
end Go.K
