/- Single operations: what is made, appended, copied, converted. No condition. -/
import Derived.Test.YtkllahedaiddgaaGreatDoorK2
set_option linter.unusedSimpArgs false
set_option linter.unusedVariables false
namespace Go.K
open Go.Ab Go.RowKit Go.Y
noncomputable section
variable [KGl]
section
variable {P:Program}{B:Nat}{o:Oper}{τ:Nat→KV}{lo:Nat}{zm:KZ}{nx:Nat}{K:KT}
abbrev NF:=IntKind→Int→IntKind→Int→(KV→Prop)→Prop
def bI (f:IntKind→Int→Int→Int):NF:=fun k a k' b K=>chk (xn k k') 60 (fI (f k a b) fun r=>K (.int k r))
def V6 (k:IntKind) (r:Nat) (K:Int→Prop):Prop:=@Bool.rec (fun _=>Prop) (K (.ofNat (Nat.mod r (mdl k)))) (cnd (Nat.blt r (hlf k)) (K (.ofNat r))) (sgn k)
omit [KGl] in
theorem V7 {k:IntKind}{r:Nat}{K:Int→Prop}(h:V6 k r K):K (qH k r):=by
 unfold V6 at h
 unfold qH
 cases hs:sgn k with
 | false=>rw[hs] at h; exact h
 | true =>
  rw[hs] at h
  obtain⟨h1,h2⟩:=zd.1 (show cnd (Nat.blt r (hlf k)) (K (.ofNat r)) from h)
  show K (bif Nat.blt r (hlf k) then .ofNat r else k.wrap (.ofNat r))
  rw[h1]; exact h2
abbrev PF:=IntKind→Int→Int→(Int→Prop)→Prop
def on2 (g:Nat→Nat→Prop) (z:Prop) (a b:Int):Prop:=@Int.rec (fun _=>Prop) (fun x=>@Int.rec (fun _=>Prop) (fun y=>g x y) (fun _=>z) b) (fun _=>z) a
omit [KGl] in
theorem zdL {g:Nat→Nat→Prop}{z p:Prop}{a b:Int}(h:on2 g z a b) (h1:∀ x y,a=.ofNat x→b=.ofNat y→g x y→p) (h2:z→p):p:=by
 cases a with
 | negSucc x=>exact h2 h
 | ofNat x =>
  cases b with
  | negSucc y=>exact h2 h
  | ofNat y=>exact h1 x y rfl rfl h
def zAB:PF:=fun k a b K=>on2 (fun x y=>V6 k (Nat.add x y) K) (K (ze3 k a b)) a b
def zAC:PF:=fun k a b K=>on2 (fun x y=>V6 k (Nat.mul x y) K) (K (ze4 k a b)) a b
def zAD:PF:=fun k a b K=>on2 (fun x y=>V6 k (Nat.div x y) K) (K (ze5 k a b)) a b
def zhi:PF:=fun k a b K=>on2 (fun x y=>@Bool.rec (fun _=>Prop) (K (yR k a b)) (@Bool.rec (fun _=>Prop) (K (yR k a b)) (V6 k (Nat.sub x y) K) (sgn k)) (Nat.ble y x)) (K (yR k a b)) a b
omit [KGl] in
theorem zuC {k:IntKind}{a b:Int}{K:Int→Prop}(h:zAB k a b K):K (ze3 k a b):=zdL h (fun x y e1 e2 h=>by subst e1; subst e2; exact V7 h) id
omit [KGl] in
theorem zuD {k:IntKind}{a b:Int}{K:Int→Prop}(h:zAC k a b K):K (ze4 k a b):=zdL h (fun x y e1 e2 h=>by subst e1; subst e2; exact V7 h) id
omit [KGl] in
theorem zuE {k:IntKind}{a b:Int}{K:Int→Prop}(h:zAD k a b K):K (ze5 k a b):=zdL h (fun x y e1 e2 h=>by subst e1; subst e2; exact V7 h) id
omit [KGl] in
theorem zhj {k:IntKind}{a b:Int}{K:Int→Prop}(h:zhi k a b K):K (yR k a b):=zdL h (fun x y e1 e2 h=>by
 subst e1; subst e2
 cases hb:Nat.ble y x with
 | false=>rw[hb] at h; exact h
 | true =>
  rw[hb] at h
  cases hs:sgn k with
  | false=>rw[hs] at h; exact h
  | true =>
   rw[hs] at h
   have:=V7 (show V6 k (Nat.sub x y) K from h)
   show K (@Bool.rec (fun _=>Int) (qH k (x + (mdl k - y % mdl k))) (bif Nat.ble y x then qH k (x - y) else k.wrap (Int.ofNat x - Int.ofNat y)) (sgn k))
   rw[hs,hb]; exact this) id
def zuF (k:IntKind) (a:Int) (K:Int→Prop):Prop:=@Int.rec (fun _=>Prop) (fun x=>V6 k x K) (fun _=>K (VC k a)) a
omit [KGl] in
theorem zuG {k:IntKind}{a:Int}{K:Int→Prop}(h:zuF k a K):K (VC k a):=by
 cases a with
 | ofNat x=>exact V7 h
 | negSucc x=>exact h
def bP (f:IntKind→Int→Int→Int) (p:PF):NF:=fun k a k' b K=>chk (xn k k') 60 (@Bool.rec (fun _=>Prop) (p k a b fun r=>K (.int k r)) (fI (f k a b) fun r=>K (.int k r)) Gl.cl)
theorem zuH {f:IntKind→Int→Int→Int}{p:PF}(hp:∀ {k a b K},p k a b K→K (f k a b)) {k k':IntKind}{a b:Int}{K:KV→Prop}(h:bP f p k a k' b K):bI f k a k' b K:=by
 unfold bP at h
 unfold bI
 obtain⟨h1,h2⟩:=ze h
 rw[h1]
 show fI (f k a b) fun r=>K (.int k r)
 rw[jW]
 cases hc:(Gl.cl:Bool) with
 | false=>rw[hc] at h2; exact hp (K:=fun r=>K (.int k r)) h2
 | true=>rw[hc] at h2; have h2:fI (f k a b) fun r=>K (.int k r):=h2; rwa [jW] at h2
def bD (f:IntKind→Int→Int→Int):NF:=fun k a k' b K=>chk (xn k k') 61 (cnd (neB b) (fI (f k a b) fun r=>K (.int k r)))
def bDP (f:IntKind→Int→Int→Int) (p:PF):NF:=fun k a k' b K=>chk (xn k k') 61 (cnd (neB b) (@Bool.rec (fun _=>Prop) (p k a b fun r=>K (.int k r)) (fI (f k a b) fun r=>K (.int k r)) Gl.cl))
theorem zAE {f:IntKind→Int→Int→Int}{p:PF}(hp:∀ {k a b K},p k a b K→K (f k a b)) {k k':IntKind}{a b:Int}{K:KV→Prop}(h:bDP f p k a k' b K):bD f k a k' b K:=by
 unfold bDP at h
 unfold bD
 obtain⟨h1,h2⟩:=ze h
 obtain⟨h3,h4⟩:=zd.1 h2
 rw[h1]
 refine zd.2 ⟨h3,?_⟩
 rw[jW]
 cases hc:(Gl.cl:Bool) with
 | false=>rw[hc] at h4; exact hp (K:=fun r=>K (.int k r)) h4
 | true=>rw[hc] at h4; have h4:fI (f k a b) fun r=>K (.int k r):=h4; rwa [jW] at h4
def bS (f:IntKind→Int→Nat→Int):NF:=fun k a _ b K=>cnd (geB b) (fI (f k a (min b.toNat k.bits)) fun r=>K (.int k r))
def bB (f:Int→Int→Bool):NF:=fun k a k' b K=>chk (xn k k') 62 (fB (f a b) fun r=>K (.bool r))
def zuI (k:IntKind) (a b:Int):Int:=match a,b with
 | .ofNat x,.ofNat y=>.ofNat (x % y)
 | a,b=>a.tmod b
omit [KGl] in
theorem zoi (k:IntKind) (a b:Int):zuI k a b=a.tmod b:=by
 unfold zuI
 split
 ·rfl
 ·rfl
def anI (k:IntKind) (a b:Int):Int:=k.wrap (BitVec.ofInt k.bits a &&& ~~~ BitVec.ofInt k.bits b).toNat
def zGE (k:IntKind) (a:Int) (n:Nat):Int:=fdv a (2 ^ n)
def zAF (op:BinOp):NF:=@BinOp.rec (fun _=>NF) (bP ze3 zAB) (bP yR zhi) (bP ze4 zAC) (bDP ze5 zAD) (bD zuI) (bI znw) (bI orI) (bI znx) (bS znz) (bS zGE) (bI anI)
 (bB eqI) (bB fun a b=>!eqI a b) (bB ltI) (bB leI) (bB fun a b=>ltI b a) (bB fun a b=>leI b a) op
def zAG (op:BinOp) (k:IntKind) (a:Int) (zm:KZ) (nx:Nat) (K:KT) (k':IntKind) (b:Int):Prop:=zAF op k a k' b fun r=>K r zm nx [] []
omit [KGl] in
theorem xE (op:BinOp) (t:TypeId) (k k':IntKind) (a b:Int):jj P op t (.int k a) (.int k' b)=qf P op t (.int k a) (.int k' b):=rfl
omit [KGl] in
theorem V8 (op:BinOp) (t:TypeId) (a b:Bool):jj P op t (.bool a) (.bool b)=qf P op t (.bool a) (.bool b):=rfl
theorem zuJ {op:BinOp}{t t':TypeId}{x y:Operand}{k k':IntKind}{a b:Int}(ho:o.op=.binOp op t x y t') (hx:kev τ x=.int k a) (hy:kev τ y=.int k' b) (h:zAF op k a k' b fun r=>K r zm nx [] []):Out P B o τ lo zm nx K:=by
 have qx:opv Gl.G (tv' τ) x=.int k a:=by rw[←zT,hx]; rfl
 have qy:opv Gl.G (tv' τ) y=.int k' b:=by rw[←zT,hy]; rfl
 have fin:∀ {r:KV},K r zm nx [] []→(jj P op t (.int k a) (.int k' b)).is (zj r.v)→Out P B o τ lo zm nx K:=fun hk hr =>
  Out.pure hk (jf (e:=zj _) ho (by rw[qx,qy]; exact hr)) (EImp.refl _)
 have hI:∀ {f:IntKind→Int→Int→Int},bI f k a k' b (fun r=>K r zm nx [] [])→k'=k∧K (.int k (f k a b)) zm nx [] []:=fun h=>by
  obtain⟨h1,h2⟩:=ze h
  rw[jW] at h2
  exact⟨(zJ h1).symm,h2⟩
 have hB:∀ {f:Int→Int→Bool},bB f k a k' b (fun r=>K r zm nx [] [])→k'=k∧K (.bool (f a b)) zm nx [] []:=fun h=>by
  obtain⟨h1,h2⟩:=ze h
  rw[Jj] at h2
  exact⟨(zJ h1).symm,h2⟩
 have hD:∀ {f:IntKind→Int→Int→Int},bD f k a k' b (fun r=>K r zm nx [] [])→k'=k∧neB b=true∧K (.int k (f k a b)) zm nx [] []:=fun h=>by
  obtain⟨h1,h2⟩:=ze h
  obtain⟨h3,h4⟩:=zd.1 h2
  rw[jW] at h4
  exact⟨(zJ h1).symm,h3,h4⟩
 have hS:∀ {f:IntKind→Int→Nat→Int},bS f k a k' b (fun r=>K r zm nx [] [])→geB b=true∧K (.int k (f k a (min b.toNat k.bits))) zm nx [] []:=fun h=>by
  obtain⟨h3,h4⟩:=zd.1 h
  rw[jW] at h4
  exact⟨h3,h4⟩
 have ikr:∀ k,xn k k=true:=fun k=>by cases k<;>rfl
 cases op
 case shl=>obtain⟨h1,h2⟩:=hS h; exact fin h2 ⟨h1,rfl⟩
 case shr=>obtain⟨h1,h2⟩:=hS h; exact fin h2 ⟨h1,rfl⟩
 case add=>obtain⟨rfl,h2⟩:=hI (zuH zuC h); exact fin h2 (by rw[xE]; simp only[qf,ikr,if_true]; rfl)
 case sub=>obtain⟨rfl,h2⟩:=hI (zuH zhj h); exact fin h2 (by rw[xE]; simp only[qf,ikr,if_true]; rfl)
 case mul=>obtain⟨rfl,h2⟩:=hI (zuH zuD h); exact fin h2 (by rw[xE]; simp only[qf,ikr,if_true]; rfl)
 case quo=>obtain⟨rfl,h1,h2⟩:=hD (zAE zuE h); exact fin h2 (by rw[xE]; simp only[qf,ikr,if_true]; exact⟨h1,rfl⟩)
 case rem=>obtain⟨rfl,h1,h2⟩:=hD h; exact fin h2 (by rw[xE]; simp only[qf,ikr,if_true]; exact⟨h1,by rw[yJ,zoi]; rfl⟩)
 case eql=>obtain⟨rfl,h2⟩:=hB h; exact fin h2 (by rw[xE]; simp only[qf,ikr,if_true]; rfl)
 case neq=>obtain⟨rfl,h2⟩:=hB (f:=fun a b=>!eqI a b) h; exact fin h2 (by rw[xE]; simp only[qf,ikr,if_true]; rfl)
 case lss=>obtain⟨rfl,h2⟩:=hB h; exact fin h2 (by rw[xE]; simp only[qf,ikr,if_true]; rfl)
 case leq=>obtain⟨rfl,h2⟩:=hB h; exact fin h2 (by rw[xE]; simp only[qf,ikr,if_true]; rfl)
 case gtr=>obtain⟨rfl,h2⟩:=hB (f:=fun a b=>ltI b a) h; exact fin h2 (by rw[xE]; simp only[qf,ikr,if_true]; rfl)
 case geq=>obtain⟨rfl,h2⟩:=hB (f:=fun a b=>leI b a) h; exact fin h2 (by rw[xE]; simp only[qf,ikr,if_true]; rfl)
 all_goals
  obtain⟨rfl,h2⟩:=hI h
  exact fin h2 (by rw[xE]; simp only[qf,ikr,if_true]; rfl)
def zdM (P:Program) (t:TypeId):Bool:=match P.underlying t with | some .bool=>true | _=>false
def eqn (op:BinOp) (b:Bool) (K:Bool→Prop):Prop:=@BinOp.rec (fun _=>Bool→(Bool→Prop)→Prop) (fun _ _=>BadN 63) (fun _ _=>BadN 63) (fun _ _=>BadN 63) (fun _ _=>BadN 63) (fun _ _=>BadN 63) (fun _ _=>BadN 63) (fun _ _=>BadN 63) (fun _ _=>BadN 63) (fun _ _=>BadN 63) (fun _ _=>BadN 63) (fun _ _=>BadN 63)
 (fun b K=>fB b K) (fun b K=>fB (!b) K) (fun _ _=>BadN 63) (fun _ _=>BadN 63) (fun _ _=>BadN 63) (fun _ _=>BadN 63) op b K
theorem ZM {op:BinOp}{b:Bool}{K:Bool→Prop}(h:eqn op b K):(op=.eql∧K b)∨(op=.neq∧K (!b)):=by
 cases op
 case eql=>exact .inl ⟨rfl,by have h:fB b K:=h; rwa [Jj] at h⟩
 case neq=>exact .inr ⟨rfl,by have h:fB (!b) K:=h; rwa [Jj] at h⟩
 all_goals exact (show BadN 63 from h).elim
def ZN (a b:Bool):Bool:=@Bool.rec (fun _=>Bool) (@Bool.rec (fun _=>Bool) true false b) b a
omit [KGl] in
theorem Vh (a b:Bool):ZN a b=(a==b):=by cases a<;>cases b<;>rfl
def zhk (n x m y:Nat):Bool:=nd (Nat.beq n m) (Nat.beq (pkx .u8 x 0 n) (pkx .u8 y 0 m))
omit [KGl] in
theorem zhl {k:IntKind}{x y n:Nat}(h:∀ i,i < n→pkr k x i=pkr k y i):pkx k x 0 n=pkx k y 0 n:=by
 have hw:0 < wd k:=by cases k<;>decide
 apply Nat.eq_of_testBit_eq; intro b
 show (bts x (wd k * 0) (wd k * n)).testBit b=(bts y (wd k * 0) (wd k * n)).testBit b
 rw[xq,xq]
 by_cases hb:b < wd k * n
 ·have hi:b / wd k < n:=Nat.div_lt_of_lt_mul hb
  have h1:=congrArg (fun z=>z.testBit (b % wd k)) (h _ hi)
  replace h1:(bts x (wd k * (b / wd k)) (wd k)).testBit (b % wd k)=(bts y (wd k * (b / wd k)) (wd k)).testBit (b % wd k):=h1
  rw[xq,xq,Nat.div_add_mod] at h1
  have h2:b % wd k < wd k:=Nat.mod_lt _ hw
  simp only[h2,decide_true,Bool.true_and] at h1
  rw[Nat.mul_zero,Nat.zero_add,h1]
 ·simp [hb]
omit [KGl] in
theorem zdN {k:IntKind}{x y n:Nat}(h:pkx k x 0 n=pkx k y 0 n) (i:Nat) (hi:i < n):pkr k x i=pkr k y i:=by
 have h1:pkr k (pkx k x 0 n) i=pkr k (pkx k y 0 n) i:=by rw[h]
 rw[jh hi,jh hi,Nat.zero_add] at h1
 exact h1
omit [KGl] in
theorem zoj {k:IntKind}{r s:Nat}(hr:r < mdl k) (hs:s < mdl k) (h:dec k r=dec k s):r=s:=by
 have hh:=zdU k
 unfold dec at h
 cases hsg:sgn k with
 | false=>rw[hsg] at h; exact Int.ofNat.inj h
 | true =>
  rw[hsg] at h
  replace h:@Bool.rec (fun _=>Int) (Int.negSucc (mdl k - 1 - r)) (Int.ofNat r) (Nat.blt r (hlf k))=@Bool.rec (fun _=>Int) (Int.negSucc (mdl k - 1 - s)) (Int.ofNat s) (Nat.blt s (hlf k)):=h
  cases h1:Nat.blt r (hlf k)<;>cases h2:Nat.blt s (hlf k)<;>rw[h1,h2] at h
  ·have:=Int.negSucc.inj h; omega
  ·cases h
  ·cases h
  ·exact Int.ofNat.inj h
omit [KGl] in
theorem V9 (n x m y:Nat):JO (zV n x).data.toList (zV m y).data.toList=zhk n x m y:=by
 rw[X7]
 show ((List.range n).map (fun i=>UInt8.ofNat (pkr .u8 x i))==(List.range m).map fun i=>UInt8.ofNat (pkr .u8 y i))=nd (Nat.beq n m) _
 rw[Bool.eq_iff_iff,beq_iff_eq,za,Nat.beq_eq,Nat.beq_eq]
 constructor
 ·intro h
  have hl:=congrArg List.length h
  simp only[List.length_map,List.length_range] at hl
  subst hl
  refine⟨rfl,zhl fun i hi=>?_⟩
  have:=congrArg (fun l=>l[i]?) h
  simp only[List.getElem?_map,List.getElem?_range hi,Option.map_some,Option.some.injEq] at this
  have h2:=congrArg UInt8.toNat this
  rw[UInt8.toNat_ofNat',UInt8.toNat_ofNat'] at h2
  have a1:=y5 .u8 x i
  have a2:=y5 .u8 y i
  simp only[mdl] at a1 a2
  omega
 ·rintro⟨rfl,h⟩
  apply List.map_congr_left
  intro i hi
  rw[List.mem_range] at hi
  rw[zdN h i hi]
def Ja (f:Nat→Option Bool) (n:Nat):Option Bool:=@Nat.rec (fun _=>Option Bool) (some true) (fun i ih=>@Option.rec Bool (fun _=>Option Bool) none (fun b=>@Option.rec Bool (fun _=>Option Bool) none (fun c=>some (nd b c)) (f i)) ih) n
omit [KGl] in
theorem qT {f:Nat→Option Bool}{g:Nat→Bool}:∀(n:Nat) (b:Bool),(∀ i b,i < n→f i=some b→g i=b)→Ja f n=some b→(List.range n).all g=b
 | 0,b,_,h=>by cases h; rfl
 | n + 1,b,hf,h=>by
  have h0:@Option.rec Bool (fun _=>Option Bool) none (fun b=>@Option.rec Bool (fun _=>Option Bool) none (fun c=>some (nd b c)) (f n)) (Ja f n)=some b:=h
  cases h1:Ja f n with
  | none=>rw[h1] at h0; cases h0
  | some b1 =>
   rw[h1] at h0
   cases h2:f n with
   | none=>rw[h2] at h0; cases h0
   | some c =>
    rw[h2] at h0
    have h3:nd b1 c=b:=Option.some.inj h0
    have q1:=qT n b1 (fun i b hi=>hf i b (by omega)) h1
    have q2:=hf n c (by omega) h2
    rw[List.range_succ,List.all_append,q1]
    simp only[List.all_cons,List.all_nil,Bool.and_true,q2]
    rw[←h3]
    cases b1<;>rfl
def keq:Nat→KV→KV→Option Bool
 | 0,_,_=>none
 | f + 1,v,w=>match v,w with
  | .int _ a,.int _ b=>some (eqI a b)
  | .bool a,.bool b=>some (ZN a b)
  | .str n x,.str m y=>some (zhk n x m y)
  | .nl,.nl=>some true
  | .cons h t,.cons h' t'=>match keq f h h',keq f t t' with
   | some a,some b=>some (nd a b)
   | _,_=>none
  | .pk k n x,.pk k' _ y=>bif xn k k' then some (Nat.beq (pkx k x 0 n) (pkx k y 0 n)) else none
  | .pk k n x,.ar m d t=>Ja (fun i=>keq f (z7 i (.pk k n x)) (z7 i (.ar m d t))) n
  | .pk k n x,.fa m g=>Ja (fun i=>keq f (z7 i (.pk k n x)) (z7 i (.fa m g))) n
  | .ar n d t,w=>match w with
   | .ar _ _ _=>Ja (fun i=>keq f (z7 i (.ar n d t)) (z7 i w)) n
   | .pk _ _ _=>Ja (fun i=>keq f (z7 i (.ar n d t)) (z7 i w)) n
   | .fa _ _=>Ja (fun i=>keq f (z7 i (.ar n d t)) (z7 i w)) n
   | _=>none
  | .fa n g,w=>match w with
   | .ar _ _ _=>Ja (fun i=>keq f (z7 i (.fa n g)) (z7 i w)) n
   | .pk _ _ _=>Ja (fun i=>keq f (z7 i (.fa n g)) (z7 i w)) n
   | .fa _ _=>Ja (fun i=>keq f (z7 i (.fa n g)) (z7 i w)) n
   | _=>none
  | _,_=>none
omit [KGl] in
theorem zAH (a b:Bool):nd a b=(a&&b):=by cases a<;>rfl
omit [KGl] in
theorem qc {v w:KV}{n m:Nat}{f g:Nat→V}(hv:v.v=.arr n f) (hw:w.v=.arr m g):eqV v.v w.v=(List.range n).all fun i=>eqV (z7 i v).v (z7 i w).v:=by
 have h1:∀ i,(z7 i v).v=f i:=fun i=>by rw[xY,hv]; rfl
 have h2:∀ i,(z7 i w).v=g i:=fun i=>by rw[xY,hw]; rfl
 rw[hv,hw]
 show (List.range n).all (fun i=>eqV (f i) (g i))=_
 congr 1
 funext i
 rw[h1,h2]
omit [KGl] in
theorem zsm:∀(f:Nat) (v w:KV) (b:Bool),keq f v w=some b→eqV v.v w.v=b
 | 0,_,_,_,h=>by cases h
 | f + 1,v,w,b,h=>by
  have ih:=zsm f
  unfold keq at h
  split at h
  ·cases h; exact (qI _ _).symm
  ·cases h; rw[Vh]; rfl
  ·rename_i n x m y
   cases h
   rw[←V9,X7]
   show ((zV n x).toList==(zV m y).toList)=_
   rw[ByteArray.toList_eq,ByteArray.toList_eq]
  ·cases h; rfl
  ·split at h
   ·rename_i a b' h1 h2
    cases h
    show (eqV (KV.v _) (KV.v _)&&eqV (KV.v _) (KV.v _))=_
    rw[ih _ _ _ h1,ih _ _ _ h2,zAH]
   ·cases h
  ·rename_i k n x k' m y
   cases hk:xn k k' with
   | false=>rw[hk] at h; cases h
   | true =>
    rw[hk] at h
    obtain rfl:=zJ hk
    have h1:Nat.beq (pkx k x 0 n) (pkx k y 0 n)=b:=Option.some.inj h
    rw[←h1]
    show ((List.range n).all fun i=>pkg k x i==pkg k y i)=_
    rw[Bool.eq_iff_iff,Nat.beq_eq,List.all_eq_true]
    constructor
    ·intro h2
     refine zhl fun i hi=>?_
     have:=h2 i (List.mem_range.2 hi)
     rw[beq_iff_eq] at this
     exact zoj (y5 _ _ _) (y5 _ _ _) this
    ·intro h2 i hi
     rw[beq_iff_eq]
     unfold pkg
     rw[zdN h2 i (List.mem_range.1 hi)]
  ·rw[qc (wj _ _ _) (ZP _ _ _)]; exact qT _ _ (fun i b _ hb=>ih _ _ _ hb) h
  ·rw[qc (wj _ _ _) (Xu _ _)]; exact qT _ _ (fun i b _ hb=>ih _ _ _ hb) h
  ·split at h
   ·rw[qc (ZP _ _ _) (ZP _ _ _)]; exact qT _ _ (fun i b _ hb=>ih _ _ _ hb) h
   ·rw[qc (ZP _ _ _) (wj _ _ _)]; exact qT _ _ (fun i b _ hb=>ih _ _ _ hb) h
   ·rw[qc (ZP _ _ _) (Xu _ _)]; exact qT _ _ (fun i b _ hb=>ih _ _ _ hb) h
   ·cases h
  ·split at h
   ·rw[qc (Xu _ _) (ZP _ _ _)]; exact qT _ _ (fun i b _ hb=>ih _ _ _ hb) h
   ·rw[qc (Xu _ _) (wj _ _ _)]; exact qT _ _ (fun i b _ hb=>ih _ _ _ hb) h
   ·rw[qc (Xu _ _) (Xu _ _)]; exact qT _ _ (fun i b _ hb=>ih _ _ _ hb) h
   ·cases h
  ·cases h
def QJ (r:TypeId→KV→Bool):List Field→KV→Bool
 | [],.nl=>true
 | f::fs,.cons h t=>nd (f.name != "_") (nd (r f.type h) (QJ r fs t))
 | _,_=>false
def zok (f:Nat→Bool) (n:Nat):Bool:=@Nat.rec (fun _=>Bool) true (fun i ih=>nd ih (f i)) n
omit [KGl] in
theorem zbR {f:Nat→Bool}:∀ {n:Nat},zok f n=true→∀ i,i < n→f i=true
 | 0,_,i,hi=>by omega
 | n + 1,h,i,hi=>by
  obtain⟨h1,h2⟩:=za.1 (show nd (zok f n) (f n)=true from h)
  rcases Nat.lt_or_ge i n with h3 | h3
  ·exact zbR h1 i h3
  ·obtain rfl:i=n:=by omega
   exact h2
def jU (P:Program):Nat→TypeId→KV→Bool
 | 0,_,_=>false
 | d + 1,t,v=>match P.underlying t with
  | some (.int k)=>match v with | .int k' _=>xn k k' | _=>false
  | some .bool=>match v with | .bool _=>true | _=>false
  | some .string=>match v with | .str _ _=>true | _=>false
  | some (.struct fs)=>nd (!P.stoodInHeld t) (QJ (jU P d) fs.toList v)
  | some (.array n e)=>match v with
   | .pk k m _=>nd (Nat.beq n m) (match P.underlying e with | some (.int k')=>nd (xn k' k) (Nat.blt 0 d) | _=>false)
   | .ar m d' t'=>nd (Nat.beq n m) (zok (fun i=>jU P d e (z7 i (.ar m d' t'))) n)
   | _=>false
  | _=>false
omit [KGl] in
theorem zdO {P:Program}{d:Nat}(ih:∀ t v w,jU P d t v=true→jU P d t w=true→eqT P d t v.v w.v=true):∀(fs:List Field) (v w:KV),QJ (jU P d) fs v=true→QJ (jU P d) fs w=true→JV (eqT P d) fs v.v w.v=true
 | [],v,w,h1,h2=>by
  cases v<;>first | (cases h1; done) | skip
  cases w<;>first | (cases h2; done) | rfl
 | f::fs,v,w,h1,h2=>by
  cases v<;>first | (cases h1; done) | skip
  rename_i a b
  cases w<;>first | (cases h2; done) | skip
  rename_i a' b'
  have h3:nd (f.name != "_") (nd (jU P d f.type a) (QJ (jU P d) fs b))=true:=h1
  have h4:nd (f.name != "_") (nd (jU P d f.type a') (QJ (jU P d) fs b'))=true:=h2
  simp only[za] at h3 h4
  show (f.name != "_" && eqT P d f.type a.v a'.v&&JV (eqT P d) fs b.v b'.v)=true
  rw[h3.1,ih _ _ _ h3.2.1 h4.2.1,zdO ih fs b b' h3.2.2 h4.2.2]; rfl
omit [KGl] in
theorem zaN {P:Program}{d n:Nat}{t e:TypeId}{v:KV}(hu:P.underlying t=some (.array n e)) (h:jU P (d + 1) t v=true):∃ f,v.v=.arr n f∧∀ i,i < n→∃ x:KV,x.v=f i∧jU P d e x=true:=by
 unfold jU at h
 rw[hu] at h
 simp only at h
 split at h
 ·rename_i k m x
  obtain⟨h1,h2⟩:=za.1 h
  obtain rfl:=zP h1
  split at h2
  ·rename_i k' he
   obtain⟨h3,h4⟩:=za.1 h2
   refine⟨_,rfl,fun i _=>⟨.int k (pkg k x i),rfl,?_⟩⟩
   rw[vq] at h4
   cases d with
   | zero=>omega
   | succ d=>unfold jU; rw[he]; exact h3
  ·cases h2
 ·rename_i m d' t'
  obtain⟨h1,h2⟩:=za.1 h
  obtain rfl:=zP h1
  exact⟨_,rfl,fun i hi=>⟨z7 i (.ar n d' t'),by rw[xY]; rfl,zbR h2 i hi⟩⟩
 ·cases h
omit [KGl] in
theorem zhm {P:Program}:∀(d:Nat) (t:TypeId) (v w:KV),jU P d t v=true→jU P d t w=true→eqT P d t v.v w.v=true
 | 0,_,_,_,h,_=>by cases h
 | d + 1,t,v,w,h1,h2=>by
  have ih:=zhm (P:=P) d
  cases hu:P.underlying t with
  | none=>unfold jU at h1; rw[hu] at h1; cases h1
  | some x =>
   cases x
   case array n e =>
    obtain⟨f,hf,q1⟩:=zaN hu h1
    obtain⟨g,hg,q2⟩:=zaN hu h2
    unfold eqT
    rw[hu,hf,hg]
    simp only[beq_self_eq_true,Bool.true_and,List.all_eq_true,List.mem_range]
    intro i hi
    obtain⟨a,ha,ha'⟩:=q1 i hi
    obtain⟨b,hb,hb'⟩:=q2 i hi
    rw[←ha,←hb]
    exact ih _ _ _ ha' hb'
   case struct fs =>
    unfold jU at h1 h2
    unfold eqT
    rw[hu] at h1 h2 ⊢
    simp only[za] at h1 h2 ⊢
    rw[h1.1,zdO ih _ _ _ h1.2 h2.2]; rfl
   case int k =>
    unfold jU at h1 h2
    unfold eqT
    rw[hu] at h1 h2 ⊢
    simp only at h1 h2 ⊢
    split at h1
    ·split at h2
     ·have a:=zJ h1; have b:=zJ h2; subst a; subst b; simp [yJ]
     ·cases h2
    ·cases h1
   case bool =>
    unfold jU at h1 h2
    unfold eqT
    rw[hu] at h1 h2 ⊢
    simp only at h1 h2 ⊢
    split at h1
    ·split at h2
     ·rfl
     ·cases h2
    ·cases h1
   case string =>
    unfold jU at h1 h2
    unfold eqT
    rw[hu] at h1 h2 ⊢
    simp only at h1 h2 ⊢
    split at h1
    ·split at h2
     ·rfl
     ·cases h2
    ·cases h1
   all_goals (unfold jU at h1; rw[hu] at h1; cases h1)
def zbS (v:KV):Bool:=match v with
 | .nl | .cons _ _ | .pk _ _ _ | .ar _ _ _=>true
 | _=>false
omit [KGl] in
theorem Jb {v:KV}(h:zbS v=true):v.v.isAgg=true:=by
 cases v<;>first | rfl | cases h
def eqS (P:Program) (t:TypeId):Bool:=nd (lay P 12 t) (!P.eqGuardType P.depth t)
def zuK (P:Program) (t:TypeId) (v:KV):Bool:=nd (zbS v) (nd (jU P 12 t v) (ZF v (shp P 12 t)))
def zGF (P:Program) (op:BinOp) (t:TypeId) (x y:KV) (zm:KZ) (nx:Nat) (K:KT):Prop :=
 chk (nd (eqS P t) (nd (zuK P t x) (zuK P t y))) 64 (os 65 (fun b=>eqn op b fun r=>K (.bool r) zm nx [] []) (keq 24 x y))
def zhn (v:KV):Option Bool:=match v with
 | .nilp=>some true
 | .ptr _ _ _=>some false
 | .ref _ _ _=>some false
 | _=>none
def zho (P:Program) (t:TypeId):Bool:=match P.underlying t with | some (.pointer _)=>true | _=>false
def zuL (P:Program) (op:BinOp) (t:TypeId) (a:Bool) (zm:KZ) (nx:Nat) (K:KT) (b:Bool):Prop:=chk (zdM P t) 66 (eqn op (ZN a b) fun r=>K (.bool r) zm nx [] [])
def zAI (op:BinOp) (n x:Nat) (zm:KZ) (nx:Nat) (K:KT) (m y:Nat):Prop:=eqn op (zhk n x m y) fun r=>K (.bool r) zm nx [] []
def zAJ (P:Program) (op:BinOp) (t:TypeId) (x:KV) (zm:KZ) (nx:Nat) (K:KT):Prop:=chk (zho P t) 67 (os 68 (fun b=>eqn op b fun r=>K (.bool r) zm nx [] []) (zhn x))
def zaO (m:Mem) (v:V):Option (Bool×List Nat):=match v with
 | .nils=>some (true,[])
 | .ro _ _ _ (_ + 1) _=>some (false,[])
 | .sl _ _ _ _ (_ + 1) _=>some (false,[])
 | .sl _ _ _ _ 0 (some (_ + 1))=>some (false,[])
 | .row id _ (_ + 1)=>match m id with
  | some blk=>if blk.alive then some (false,[id]) else none
  | none=>none
 | _=>none
theorem XQ {op:BinOp}{t t' e:TypeId}{x y:Operand}{ρ:Operand→V}{m:Mem}{n:Nat}{b:Bool}{rd:List Nat}(ho:o.op=.binOp op t x y t') (hop:op=.eql∨op=.neq) (hx:zaO m (ρ x)=some (b,rd)) (hy:ρ y=.nils) (hu:P.underlying t=some (.slice e)) :
  OpSem P B o ρ m n ⟨.bool (if op=.eql then b else !b),[],[],rd⟩ :=
 OpSem.pure fun C M ρc hs hr hrel=>by
  have h0:=hrel x (by simp [ho,Op.operands])
  have h1:=hrel y (by simp [ho,Op.operands])
  rw[hy] at h1
  have h1':ρc y=.slice none 0 0:=h1
  obtain⟨a,l,c,h2,h3⟩:∃ a l c,ρc x=.slice a l c∧a.isNone=b:=by
   unfold zaO at hx
   split at hx
   ·rename_i hv
    cases hx
    rw[hv] at h0
    exact⟨none,0,0,h0,rfl⟩
   ·rename_i hv
    cases hx
    rw[hv] at h0
    obtain⟨a,c,q1,q2,q3,q4⟩:=h0
    rcases q4 with q4 | ⟨g,o,rfl,_⟩
    ·cases q4
    ·exact⟨_,_,_,q1,rfl⟩
   ·rename_i hv
    cases hx
    rw[hv] at h0
    obtain⟨hal,ad,c,o1,n1,q1,q2,q3,q4,q5,q6⟩:=h0
    rcases q6 with q6 | ⟨g,_,rfl⟩
    ·omega
    ·exact⟨_,_,_,q1,rfl⟩
   ·rename_i hv
    cases hx
    rw[hv] at h0
    obtain⟨hal,ad,c,o1,n1,q1,q2,q3,q4,q5,q6⟩:=h0
    rcases q6 with q6 | ⟨g,_,rfl⟩
    ·have:=q3 _ rfl; omega
    ·exact⟨_,_,_,q1,rfl⟩
   ·rename_i id e' k hv
    split at hx
    ·rename_i blk hm
     split at hx
     ·rename_i hal
      cases hx
      rw[hv] at h0
      obtain⟨hal',⟨a,c,q1⟩,q2,q3⟩:=h0
      have hM:M id=some blk:=by rw[hr id (by simp),hm]
      have hbr:=hs.mem id blk hM
      unfold BR at hbr; unfold Blk.alive at hal
      refine⟨a,k + 1,c,by rw[←q1]; exact q3,?_⟩
      cases hkd:blk.k<;>simp only[hkd] at hbr hal
      ·obtain⟨g,cur,e',h4,_⟩:=hbr
       rw[q1] at h4; cases h4
      ·obtain⟨n1,s1,cells,h4,h5,h6,_⟩:=hbr
       rcases h6.2 with ⟨h7,h8⟩ | ⟨g,cap,cur,hv,_⟩
       ·rw[q1] at h7; cases h7
       ·rw[q1] at hv; cases hv; rfl
      ·simp at hal
      ·simp at hal
      ·simp at hal
     ·cases hx
    ·cases hx
   ·cases hx
  have he:∀ w,(Op.equal t (.slice a l c) (.slice none 0 0)).run P w=.ok a.isNone w:=fun w=>by
   show (Op.equalIn (9999 + 1) t (.slice a l c) (.slice none 0 0)).run P w=.ok a.isNone w
   generalize 9999=d
   cases a<;>simp [Op.equalIn,run_underlying hu]
  rcases hop with rfl | rfl
  ·exact⟨.bool b,by simp [execOp,ho,h1',h2,eqGuard,binOp,he,h3],rfl⟩
  ·exact⟨.bool (!b),by simp [execOp,ho,h1',h2,eqGuard,binOp,he,h3],rfl⟩
def zsn (P:Program) (t:TypeId):Bool:=match P.underlying t with | some (.slice _)=>true | _=>false
def zso (P:Program) (op:BinOp) (t:TypeId) (x:KV) (zm:KZ) (nx:Nat) (K:KT):Prop :=
 chk (zsn P t) 241 (wK (eqn op true fun r=>K (.bool r) zm nx [] [])
  (Jf (fun _ _ _ _ len _=>chk (Nat.blt 0 len) 242 (eqn op false fun r=>K (.bool r) zm nx [] []))
   (Je (fun _ _ _ _ len cap=>chk (Nat.blt 0 (@Option.rec Nat (fun _=>Nat) len (fun k=>Nat.add len k) cap)) 243 (eqn op false fun r=>K (.bool r) zm nx [] []))
    (yI (fun id _ len=>oB zm id fun kd _ _=>chk (nd (qQ kd) (Nat.blt 0 len)) 244 (eqn op false fun r=>K (.bool r) zm nx [] [id])) (BadN 245) x) x) x) x)
theorem zol {op:BinOp}{t t':TypeId}{x y:Operand}(ho:o.op=.binOp op t x y t') (hy0:kev τ y=.nils) (h:zso P op t (kev τ x) zm nx K):Out P B o τ lo zm nx K:=by
 have hx:=zT τ x
 have hy:=zT τ y
 rw[hy0] at hy
 obtain⟨h1,h2⟩:=ze h
 obtain⟨e,hu⟩:∃ e,P.underlying t=some (.slice e):=by
  unfold zsn at h1
  split at h1
  ·exact⟨_,‹_›⟩
  ·cases h1
 have fin:∀(b:Bool) (rd:List Nat),(eqn op b fun r=>K (.bool r) zm nx [] rd)→zaO (am zm) (opv Gl.G (tv' τ) x)=some (b,rd)→(∀ id∈rd,∃ b,am zm id=some b)→Out P B o τ lo zm nx K:=by
  intro b rd hk hn hrd
  rcases ZM hk with ⟨rfl,h5⟩ | ⟨rfl,h5⟩
  ·exact Out.pure h5 ⟨XQ (ρ:=opv Gl.G (tv' τ)) (m:=am zm) (n:=nx) ho (.inl rfl) hn hy.symm hu,UpIn.rdL hrd⟩ (by rw[Xt]; exact EImp.refl _)
  ·exact Out.pure h5 ⟨XQ (ρ:=opv Gl.G (tv' τ)) (m:=am zm) (n:=nx) ho (.inr rfl) hn hy.symm hu,UpIn.rdL hrd⟩ (by rw[Xt]; exact EImp.refl _)
 rcases vJ h2 with ⟨hp,h3⟩ | ⟨_,h2⟩
 ·rw[hp] at hx
  exact fin true [] h3 (by rw[←hx]; rfl) (fun _ h=>(by cases h))
 rcases vA h2 with ⟨u,cl,s,off,len,c,hp,h3⟩ | ⟨_,h2⟩
 ·obtain⟨h4,h5⟩:=ze h3
  rw[hp] at hx
  rw[vq] at h4
  obtain⟨k,rfl⟩:∃ k,len=k + 1:=⟨len - 1,by omega⟩
  exact fin false [] h5 (by rw[←hx]; rfl) (fun _ h=>(by cases h))
 rcases vz h2 with ⟨id,p,s,off,len,cap,hp,h3⟩ | ⟨_,h2⟩
 ·obtain⟨h4,h5⟩:=ze h3
  rw[hp] at hx
  rw[vq] at h4
  refine fin false [] h5 ?_ (fun _ h=>(by cases h))
  rw[←hx]
  cases len with
  | succ k=>rfl
  | zero =>
   cases cap with
   | none=>exact absurd h4 (Nat.lt_irrefl 0)
   | some k =>
    cases k with
    | zero=>exact absurd h4 (Nat.lt_irrefl 0)
    | succ k=>rfl
 rcases vM h2 with ⟨id,s,len,hp,h3⟩ | ⟨_,h2⟩
 ·obtain⟨kd,sh,v,hb,h4⟩:=x7 h3
  obtain⟨h5,h6⟩:=ze h4
  obtain⟨q1,q2⟩:=za.1 h5
  rw[hp] at hx
  rw[vq] at q2
  obtain⟨k,rfl⟩:∃ k,len=k + 1:=⟨len - 1,by omega⟩
  refine fin false [id] h6 ?_ (fun i hi=>by rw[List.mem_singleton] at hi; subst hi; exact⟨_,zL hb⟩)
  rw[←hx]
  show zaO (am zm) (.row id s (k + 1))=_
  unfold zaO
  simp only[zL hb,KBlk.b,xp,q1,if_true]
 ·exact h2.elim
def zuM (P:Program) (op:BinOp) (t:TypeId) (x y:KV) (zm:KZ) (nx:Nat) (K:KT):Prop :=
 xm (fun k a=>xm (zAG op k a zm nx K) (BadN 69) y)
  (jv (fun a=>jv (zuL P op t a zm nx K) (BadN 70) y)
   (wg (fun n s=>wg (zAI op n s zm nx K) (BadN 71) y)
    (zhD (zAJ P op t x zm nx K) (wK (zso P op t x zm nx K) (zGF P op t x y zm nx K) y) y) x) x) x
omit [KGl] in
theorem zfr {v:V}{b:Bool}{t e:TypeId}(h1:∀ s,v≠.str s) (h2:v.isNilp=some b) (hu:P.underlying t=some (.pointer e)):(jj P .eql t v .nilp).is (zj (.bool b)):=by
 have:jj P .eql t v .nilp=okE (.bool b):=by
  cases v<;>first
   | exact absurd rfl (h1 _)
   | (cases h2; done)
   | (simp only[V.isNilp,Option.some.injEq] at h2; subst h2; simp [jj,zbA,zap,hu,V.isNilp])
 rw[this]; rfl
omit [KGl] in
theorem zbT {v:V}{b:Bool}{t e:TypeId}(h1:∀ s,v≠.str s) (h2:v.isNilp=some b) (hu:P.underlying t=some (.pointer e)):(jj P .neq t v .nilp).is (zj (.bool !b)):=by
 have:jj P .neq t v .nilp=okE (.bool !b):=by
  cases v<;>first
   | exact absurd rfl (h1 _)
   | (cases h2; done)
   | (simp only[V.isNilp,Option.some.injEq] at h2; subst h2; simp [jj,zbA,zap,hu,V.isNilp])
 rw[this]; rfl
theorem zhp {op:BinOp}{t t':TypeId}{x y:Operand}(ho:o.op=.binOp op t x y t') (h:zuM P op t (kev τ x) (kev τ y) zm nx K):Out P B o τ lo zm nx K:=by
 have hx:=zT τ x
 have hy:=zT τ y
 rcases zF h with ⟨k,a,ha,h1⟩ | ⟨_,h1⟩
 ·rcases zF h1 with ⟨k',b,hb,h2⟩ | ⟨_,h2⟩
  ·exact zuJ ho ha hb h2
  ·exact h2.elim
 rcases xX h1 with ⟨a,ha,h1⟩ | ⟨_,h1⟩
 ·rcases xX h1 with ⟨b,hb,h2⟩ | ⟨_,h2⟩
  ·obtain⟨h3,h4⟩:=ze h2
   rw[ha] at hx; rw[hb] at hy
   have hu:P.underlying t=some .bool:=by
    unfold zdM at h3
    split at h3
    ·assumption
    ·cases h3
   rcases ZM h4 with ⟨rfl,h5⟩ | ⟨rfl,h5⟩
   ·refine Out.pure h5 (jf (e:=zj (.bool (a==b))) ho ?_) (by rw[Xt,Vh]; exact EImp.refl _)
    rw[←hx,←hy]
    show (jj P _ t (.bool a) (.bool b)).is _
    rw[V8]
    simp only[qf,hu]; rfl
   ·refine Out.pure h5 (jf (e:=zj (.bool (!(a==b)))) ho ?_) (by rw[Xt,Vh]; exact EImp.refl _)
    rw[←hx,←hy]
    show (jj P _ t (.bool a) (.bool b)).is _
    rw[V8]
    simp only[qf,hu]; rfl
  ·exact h2.elim
 rcases jb h1 with ⟨n,a,ha,h1⟩ | ⟨_,h1⟩
 ·rcases jb h1 with ⟨m,b,hb,h2⟩ | ⟨_,h2⟩
  ·rw[ha] at hx; rw[hb] at hy
   rcases ZM h2 with ⟨rfl,h5⟩ | ⟨rfl,h5⟩
   ·refine Out.pure h5 (jf (e:=zj (.bool (JO (zV n a).data.toList (zV m b).data.toList))) ho ?_) (by rw[Xt,V9]; exact EImp.refl _)
    rw[←hx,←hy]; rfl
   ·refine Out.pure h5 (jf (e:=zj (.bool !(JO (zV n a).data.toList (zV m b).data.toList))) ho ?_) (by rw[Xt,V9]; exact EImp.refl _)
    rw[←hx,←hy]; rfl
  ·exact h2.elim
 rcases zbY h1 with ⟨hb,h1⟩ | ⟨hny,h1⟩
 ·obtain⟨h3,h4⟩:=ze h1
  obtain⟨b,h5,h6⟩:=xz h4
  rw[hb] at hy
  obtain⟨e,hu⟩:∃ e,P.underlying t=some (.pointer e):=by
   unfold zho at h3
   split at h3
   ·exact⟨_,‹_›⟩
   ·cases h3
  have hn:(kev τ x).v.isNilp=some b∧∀ s,(kev τ x).v≠.str s:=by
   unfold zhn at h5
   split at h5
   ·rename_i hv; cases h5; rw[hv]; exact⟨rfl,fun s hs=>by cases hs⟩
   ·rename_i hv; cases h5; rw[hv]; exact⟨rfl,fun s hs=>by cases hs⟩
   ·rename_i hv; cases h5; rw[hv]; exact⟨rfl,fun s hs=>by cases hs⟩
   ·cases h5
  rcases ZM h6 with ⟨rfl,h7⟩ | ⟨rfl,h7⟩
  ·refine Out.pure h7 (jf (e:=zj (.bool b)) ho ?_) (EImp.refl _)
   rw[←hx,←hy,zhM]
   exact zfr hn.2 hn.1 hu
  ·refine Out.pure h7 (jf (e:=zj (.bool !b)) ho ?_) (EImp.refl _)
   rw[←hx,←hy,zhM]
   exact zbT hn.2 hn.1 hu
 rcases vJ h1 with ⟨hb,h1⟩ | ⟨_,h1⟩
 ·exact zol ho hb h1
 ·obtain⟨h3,h4⟩:=ze h1
  obtain⟨b,h5,h6⟩:=xz h4
  simp only[za,eqS,zuK] at h3
  obtain⟨⟨q1,q2⟩,⟨p1,p2,p3⟩,r1,r2,r3⟩:=h3
  have hv:eqV (kev τ x).v (kev τ y).v=b:=zsm _ _ _ _ h5
  have ax:=Jb p1
  have ay:=Jb r1
  have hc:∀ op',(jj P op' t (kev τ x).v (kev τ y).v)=(match op' with
   | .eql=>okE (.bool b)
   | .neq=>okE (.bool !b)
   | _=>.bad):=by
   intro op'
   have e1:jj P op' t (kev τ x).v (kev τ y).v=qf P op' t (kev τ x).v (kev τ y).v:=by
    unfold jj
    have:zbA (kev τ x).v (kev τ y).v=false:=by
     cases hvx:(kev τ x).v<;>rw[hvx] at ax<;>first | (cases ax; done) | skip
     all_goals (cases hvy:(kev τ y).v<;>rw[hvy] at ay<;>first | (cases ay; done) | rfl)
    rw[this]
   rw[e1]
   unfold qf
   split
   ·rename_i e2 _; rw[e2] at ax; cases ax
   ·rename_i e2 _; rw[e2] at ax; cases ax
   ·rw[ax,ay,q1,zhm _ _ _ _ p2 r2,(j8 p3).1,(j8 r3).1,q2,hv]; rfl
  rcases ZM h6 with ⟨rfl,h7⟩ | ⟨rfl,h7⟩
  ·exact Out.pure h7 (jf (e:=zj (.bool b)) ho (by rw[←hx,←hy,hc]; rfl)) (EImp.refl _)
  ·exact Out.pure h7 (jf (e:=zj (.bool !b)) ho (by rw[←hx,←hy,hc]; rfl)) (EImp.refl _)
def kUn (op:UnOp) (x:KV) (zm:KZ) (nx:Nat) (K:KT):Prop:=@UnOp.rec (fun _=>KV→(KV→Prop)→Prop)
 (fun x K=>xm (fun k a=>fI (k.wrap (0 - a)) fun r=>K (.int k r)) (BadN 72) x) (fun x K=>xm (fun k a=>fI (zf7 k a) fun r=>K (.int k r)) (BadN 73) x)
 (fun x K=>jv (fun b=>fB (!b) fun r=>K (.bool r)) (BadN 74) x) (fun _ _=>BadN 75) op x fun r=>K r zm nx [] []
theorem zAK {op:UnOp}{t:TypeId}{x:Operand}(ho:o.op=.unOp op t x) (h:kUn op (kev τ x) zm nx K):Out P B o τ lo zm nx K:=by
 have hx:=zT τ x
 cases op
 ·rcases zF (show xm (fun k a=>fI (k.wrap (0 - a)) fun r=>K (.int k r) zm nx [] []) (BadN 72) (kev τ x) from h) with ⟨k,a,ha,h1⟩ | ⟨_,h1⟩
  ·rw[jW] at h1
   rw[ha] at hx
   exact Out.pure h1 (zdr (e:=zj _) ho (by rw[←hx]; rfl)) (EImp.refl _)
  ·exact h1.elim
 ·rcases zF (show xm (fun k a=>fI (zf7 k a) fun r=>K (.int k r) zm nx [] []) (BadN 73) (kev τ x) from h) with ⟨k,a,ha,h1⟩ | ⟨_,h1⟩
  ·rw[jW] at h1
   rw[ha] at hx
   exact Out.pure h1 (zdr (e:=zj _) ho (by rw[←hx]; rfl)) (EImp.refl _)
  ·exact h1.elim
 ·rcases xX (show jv (fun b=>fB (!b) fun r=>K (.bool r) zm nx [] []) (BadN 74) (kev τ x) from h) with ⟨b,ha,h1⟩ | ⟨_,h1⟩
  ·rw[Jj] at h1
   rw[ha] at hx
   exact Out.pure h1 (zdr (e:=zj _) ho (by rw[←hx]; rfl)) (EImp.refl _)
  ·exact h1.elim
 ·exact (show BadN 75 from h).elim
end
end
end Go.K
namespace Go.K
open Go.Ab Go.RowKit Go.Y
noncomputable section
variable [KGl]
section
variable {P:Program}{B:Nat}{o:Oper}{τ:Nat→KV}{lo:Nat}{zm:KZ}{nx:Nat}{K:KT}
def zui (k:Nat):KV→(KV→Prop)→Prop:=@Nat.rec (fun _=>KV→(KV→Prop)→Prop) (fun l K=>x9 (fun h _=>K h) (BadN 80) l) (fun _ ih l K=>x9 (fun _ t=>ih t K) (BadN 80) l) k
omit [KGl] in
theorem zg0:∀(k:Nat) (l:KV) (K:KV→Prop),zui k l K→∃ v,K v∧l.v.nth k=some v.v
 | 0,l,K,h=>by
  rcases xA (show x9 (fun h _=>K h) (BadN 80) l from h) with ⟨a,b,rfl,h1⟩ | ⟨_,h1⟩
  ·exact⟨a,h1,rfl⟩
  ·exact h1.elim
 | k + 1,l,K,h=>by
  rcases xA (show x9 (fun _ t=>zui k t K) (BadN 80) l from h) with ⟨a,b,rfl,h1⟩ | ⟨_,h1⟩
  ·exact zg0 k b K h1
  ·exact h1.elim
def zaF (x:KV) (k:Nat) (zm:KZ) (nx:Nat) (K:KT):Prop:=QL (fun l=>zui k l fun v=>K v zm nx [] []) (BadN 81) x
theorem zbL {x:Operand}{k:Nat}(ho:o.op=.extract x k) (h:zaF (kev τ x) k zm nx K):Out P B o τ lo zm nx K:=by
 have hx:=zT τ x
 rcases yj h with ⟨l,hl,h1⟩ | ⟨_,h1⟩
 ·obtain⟨v,h2,h3⟩:=zg0 k l _ h1
  rw[hl] at hx
  exact Out.pure h2 (VI (e:=zj v.v) ho (by rw[←hx]; show (wx (.tup l.v) k).is _; simp only[wx,h3]; rfl)) (EImp.refl _)
 ·exact h1.elim
def zsf (c a b:KV) (zm:KZ) (nx:Nat) (K:KT):Prop:=jv (fun t=>alt t (K a zm nx [] []) (K b zm nx [] [])) (BadN 82) c
theorem zn4 {c a b:Operand}(ho:o.op=.pick c a b) (h:zsf (kev τ c) (kev τ a) (kev τ b) zm nx K):Out P B o τ lo zm nx K:=by
 have hx:=zT τ c
 rcases xX h with ⟨t,ht,h1⟩ | ⟨_,h1⟩
 ·rw[ht] at hx
  cases t with
  | true=>exact Out.pure (v:=kev τ a) h1 (Ws (e:=zj (kev τ a).v) ho (by rw[←hx,←zT,←zT]; show (okE (V.ite true _ _)).is _; rw[V.ite_true]; rfl)) (EImp.refl _)
  | false=>exact Out.pure (v:=kev τ b) h1 (Ws (e:=zj (kev τ b).v) ho (by rw[←hx,←zT,←zT]; show (okE (V.ite false _ _)).is _; rw[V.ite_false]; rfl)) (EImp.refl _)
 ·exact h1.elim
def J6 (l:List KV):KV:=@List.rec KV (fun _=>KV) .nl (fun x _ ih=>.cons x ih) l
omit [KGl] in
theorem WS:∀(l:List KV),(J6 l).v=mkL (l.map KV.v)
 | []=>rfl
 | x::l=>by show V.cons x.v (J6 l).v=V.cons x.v (mkL (l.map KV.v)); rw[WS l]
def zsg (f:Fn):Option FuncId:=match f with
 | .func f=>some f
 | _=>none
def QG (f:Fn) (a:List KV) (caps:List KV) (zm:KZ) (nx:Nat) (K:KT):Prop:=os 83 (fun f=>chk (Nat.blt f 1073741824) 246 (@List.rec KV (fun _=>Prop) (K (.fn f (J6 caps)) zm nx [] []) (fun x r _=>fN (Nat.add f 1073741824) fun f=>K (.fn f (.cons (.tup (J6 (x::r))) (J6 caps))) zm nx [] []) a)) (zsg f)
theorem yf (τ:Nat→KV) (l:List Operand):(l.map (kev τ)).map KV.v=l.map (opv Gl.G (tv' τ)):=by
 rw[List.map_map]; exact List.map_congr_left fun x _=>zT τ x
theorem zaG {f:Fn}{a cap:Array Operand}(ho:o.op=.makeFunc f a cap) (h:QG f (a.toList.map (kev τ)) (cap.toList.map (kev τ)) zm nx K):Out P B o τ lo zm nx K:=by
 obtain⟨g,h1,h20⟩:=xz h
 obtain⟨hlt,h2⟩:=ze h20
 clear h20
 rw[Nat.blt_eq] at hlt
 obtain rfl:f=.func g:=by
  unfold zsg at h1
  split at h1
  ·cases h1; rfl
  ·cases h1
 cases ha:a.toList.map (kev τ) with
 | nil =>
  rw[ha] at h2
  obtain rfl:a=#[]:=by
   have:a.toList=[]:=by simpa using ha
   simpa using this
  exact Out.pure (e:=zj (.fn g (mkL (cap.toList.map (opv Gl.G (tv' τ)))))) (show K (.fn g (J6 (cap.toList.map (kev τ)))) zm nx [] [] from h2) ⟨Zs ho hlt,UpIn.nil⟩ (by rw[v_fn,WS,yf]; exact EImp.refl _)
 | cons x r =>
  have h3:fN (Nat.add g 1073741824) fun f=>K (.fn f (.cons (.tup (J6 (a.toList.map (kev τ)))) (J6 (cap.toList.map (kev τ))))) zm nx [] []:=by
   rw[ha] at h2 ⊢
   exact h2
  rw[xa] at h3
  exact Out.pure h3 ⟨Wg ho hlt,UpIn.nil⟩ (by
   show EImp _ ⟨.fn (g + 1073741824) (.cons (.tup (J6 (a.toList.map (kev τ))).v) (J6 (cap.toList.map (kev τ))).v),[],[],[]⟩
   rw[WS,WS,yf,yf]; exact EImp.refl _)
inductive LnS where
 | sli
 | str
 | arr (k:Nat)
 | bad
def lnS (P:Program) (t:TypeId):LnS:=match P.underlying t with
 | some (.slice _)=>.sli
 | some .string=>.str
 | some (.array k _)=>.arr k
 | _=>.bad
def zg1 (x:KV) (K:Nat→Prop):Prop:=Je (fun _ _ _ _ len _=>K len) (yI (fun _ _ n=>K n) (Jf (fun _ _ _ _ len _=>K len) (wK (K 0) (BadN 84) x) x) x) x
omit [KGl] in
theorem zn5 {x:KV}{K:Nat→Prop}(h:zg1 x K):∃ n,x.v.len=some n∧K n:=by
 rcases vz h with ⟨_,_,_,_,len,_,rfl,h1⟩ | ⟨_,h1⟩
 ·exact⟨_,rfl,h1⟩
 rcases vM h1 with ⟨_,_,n,rfl,h1⟩ | ⟨_,h1⟩
 ·exact⟨_,rfl,h1⟩
 rcases vA h1 with ⟨_,_,_,_,len,_,rfl,h1⟩ | ⟨_,h1⟩
 ·exact⟨_,rfl,h1⟩
 rcases vJ h1 with ⟨rfl,h1⟩ | ⟨_,h1⟩
 ·exact⟨_,rfl,h1⟩
 ·exact h1.elim
def zAq (x:KV) (zm:KZ) (nx:Nat) (K:KT) (s:LnS):Prop:=@LnS.rec (fun _=>Prop) (zg1 x fun n=>fN n fun n=>K (.int .i64 (.ofNat n)) zm nx [] []) (wg (fun n _=>fN n fun n=>K (.int .i64 (.ofNat n)) zm nx [] []) (BadN 85) x) (fun k=>K (.int .i64 (.ofNat k)) zm nx [] []) (BadN 86) s
def zuj (P:Program) (t:TypeId) (x:KV) (zm:KZ) (nx:Nat) (K:KT):Prop:=zAq x zm nx K (lnS P t)
theorem zuk {t:TypeId}{x:Operand}(ho:o.op=.call ⟨.builtin .len,#[x],#[t]⟩) (h:zuj P t (kev τ x) zm nx K):Out P B o τ lo zm nx K:=by
 have hx:=zT τ x
 unfold zuj lnS at h
 split at h
 ·rename_i e hu
  obtain⟨n,h1,h2⟩:=zn5 (show zg1 (kev τ x) _ from h)
  rw[xa] at h2
  exact Out.pure h2 (Wt (e:=zj (.int .i64 n)) ho (by rw[←hx]; unfold ze7; simp only[hu,h1]; rfl)) (EImp.refl _)
 ·rename_i hu
  rcases jb (show wg (fun n _=>fN n fun n=>K (.int .i64 (.ofNat n)) zm nx [] []) (BadN 85) (kev τ x) from h) with ⟨n,s,hs,h1⟩ | ⟨_,h1⟩
  ·rw[xa] at h1
   rw[hs] at hx
   have hsz:(zV n s).size=n:=by show ((List.range n).map _).length=n; simp
   exact Out.pure h1 (Wt (e:=zj (.int .i64 ((zV n s).size:Nat))) ho (by rw[←hx]; unfold ze7; simp only[hu,zdY]; rfl)) (by rw[hsz]; exact EImp.refl _)
  ·exact h1.elim
 ·rename_i k e hu
  exact Out.pure (v:=.int .i64 (.ofNat k)) h (Wt (e:=zj (.int .i64 k)) ho (by unfold ze7; simp only[hu]; rfl)) (EImp.refl _)
 ·exact (show BadN 86 from h).elim
def zbM (P:Program) (t:TypeId):Bool:=match P.underlying t with | some (.slice _)=>true | _=>false
omit [KGl] in
theorem zg2 {t:TypeId}(h:zbM P t=true):∃ e,P.underlying t=some (.slice e):=by
 unfold zbM at h
 split at h
 ·exact⟨_,‹_›⟩
 ·cases h
def zul (P:Program) (t:TypeId) (x:KV) (zm:KZ) (nx:Nat) (K:KT):Prop:=chk (zbM P t) 87
 (Je (fun _ _ _ _ _ cap=>os 88 (fun n=>fN n fun n=>K (.int .i64 (.ofNat n)) zm nx [] []) cap) (Jf (fun _ clip _ _ len _=>chk clip 89 (fN len fun n=>K (.int .i64 (.ofNat n)) zm nx [] [])) (wK (K (.int .i64 0) zm nx [] []) (BadN 90) x) x) x)
theorem zum {t:TypeId}{x:Operand}(ho:o.op=.call ⟨.builtin .cap,#[x],#[t]⟩) (h:zul P t (kev τ x) zm nx K):Out P B o τ lo zm nx K:=by
 have hx:=zT τ x
 obtain⟨h0,h1⟩:=ze h
 obtain⟨e,hu⟩:=zg2 h0
 rcases vz h1 with ⟨_,_,_,_,_,cap,hp,h1⟩ | ⟨_,h1⟩
 ·obtain⟨n,rfl,h2⟩:=xz h1
  rw[xa] at h2
  rw[hp] at hx
  exact Out.pure h2 (Wv (e:=zj (.int .i64 n)) ho (by rw[←hx]; unfold ze8; simp only[hu,zoB,V.cap]; rfl)) (EImp.refl _)
 rcases vA h1 with ⟨_,clip,_,_,len,_,hp,h1⟩ | ⟨_,h1⟩
 ·obtain⟨rfl,h2⟩:=ze h1
  rw[xa] at h2
  rw[hp] at hx
  exact Out.pure h2 (Wv (e:=zj (.int .i64 len)) ho (by rw[←hx]; unfold ze8; simp only[hu,ZQ,V.cap]; rfl)) (EImp.refl _)
 rcases vJ h1 with ⟨hp,h1⟩ | ⟨_,h1⟩
 ·rw[hp] at hx
  exact Out.pure h1 (Wv (e:=zj (.int .i64 (0:Nat))) ho (by rw[←hx]; unfold ze8; simp only[hu,zhN,V.cap]; rfl)) (EImp.refl _)
 ·exact h1.elim
def zun (x y:KV) (zm:KZ) (nx:Nat) (K:KT):Prop:=xm (fun k a=>xm (fun _ b=>fI (bif ltI b a then b else a) fun r=>K (.int k r) zm nx [] []) (BadN 91) y) (BadN 92) x
theorem zuo {ts:Array TypeId}{x y:Operand}(ho:o.op=.call ⟨.builtin .min,#[x,y],ts⟩) (h:zun (kev τ x) (kev τ y) zm nx K):Out P B o τ lo zm nx K:=by
 have hx:=zT τ x
 have hy:=zT τ y
 rcases zF h with ⟨k,a,ha,h1⟩ | ⟨_,h1⟩
 ·rcases zF h1 with ⟨k',b,hb,h2⟩ | ⟨_,h2⟩
  ·rw[jW] at h2
   rw[ha] at hx; rw[hb] at hy
   exact Out.pure h2 (zgb (e:=zj (zt0 k a b)) ho (by rw[←hx,←hy]; rfl)) (EImp.refl _)
  ·exact h2.elim
 ·exact h1.elim
theorem zn6 {P:Program}{B:Nat}{o:Oper}{ρ:Operand→V}{m:Mem}{n:Nat}{ts:Array TypeId}{x y:Operand}{k k':IntKind}{a b:Int}(ho:o.op=.call ⟨.builtin .max,#[x,y],ts⟩) (hx:ρ x=.int k a) (hy:ρ y=.int k' b):OpSem P B o ρ m n (zj (.int k (bif ltI a b then b else a))) :=
 OpSem.pure fun C M ρc _ _ hrel=>by
  obtain⟨rx,ry⟩:=qK (ρ:=ρ) ho hrel
  rw[hx] at rx; rw[hy] at ry
  have rx':ρc x=.int k a:=rx
  have ry':ρc y=.int k' b:=ry
  refine⟨.int k (if b > a then b else a),by simp [execOp,ho,resolve,invoke,builtin,rx',ry',Builtin.max_,Builtin.max2],?_⟩
  show Value.int k _=Value.int k _
  rw[js]
  by_cases h:a < b<;>simp [h]
def zup (x y:KV) (zm:KZ) (nx:Nat) (K:KT):Prop:=xm (fun k a=>xm (fun _ b=>fI (bif ltI a b then b else a) fun r=>K (.int k r) zm nx [] []) (BadN 91) y) (BadN 92) x
theorem zuq {ts:Array TypeId}{x y:Operand}(ho:o.op=.call ⟨.builtin .max,#[x,y],ts⟩) (h:zup (kev τ x) (kev τ y) zm nx K):Out P B o τ lo zm nx K:=by
 have hx:=zT τ x
 have hy:=zT τ y
 rcases zF h with ⟨k,a,ha,h1⟩ | ⟨_,h1⟩
 ·rcases zF h1 with ⟨k',b,hb,h2⟩ | ⟨_,h2⟩
  ·rw[jW] at h2
   rw[ha] at hx; rw[hb] at hy
   exact Out.pure h2 ⟨zn6 ho (by rw[←hx]; rfl) (by rw[←hy]; rfl),UpIn.nil⟩ (EImp.refl _)
  ·exact h2.elim
 ·exact h1.elim
def arN (c:KV) (n:Nat):Bool:=match c with
 | .pk _ m _=>Nat.beq m n
 | .ar m _ _=>Nat.beq m n
 | .fa m _=>Nat.beq m n
 | _=>false
omit [KGl] in
theorem zsh {c:KV}{n:Nat}(h:arN c n=true):∃ f,c.v=.arr n f:=by
 unfold arN at h
 split at h
 ·rw[←zP h]; exact⟨_,rfl⟩
 ·rw[←zP h]; exact⟨_,rfl⟩
 ·rw[←zP h]; exact⟨_,rfl⟩
 ·cases h
def J7 (d:Nat) (x:Option KV) (K:Int→Prop):Prop:=@Option.rec KV (fun _=>Prop) (K (.ofNat d)) (fun v=>xm (fun _ n=>K n) (BadN 93) v) x
omit [KGl] in
theorem wF {d:Nat}{x:Option KV}{K:Int→Prop}(h:J7 d x K):∃ n,V.bnd d (x.map KV.v)=some n∧K n:=by
 cases x with
 | none=>exact⟨_,rfl,h⟩
 | some v =>
  rcases zF (show xm (fun _ n=>K n) (BadN 93) v from h) with ⟨k,n,rfl,h1⟩ | ⟨_,h1⟩
  ·exact⟨n,rfl,h1⟩
  ·exact h1.elim
def kMx (x:Option KV) (K:Option Int→Prop):Prop:=@Option.rec KV (fun _=>Prop) (K none) (fun v=>xm (fun _ n=>K (some n)) (BadN 94) v) x
omit [KGl] in
theorem zAr {x:Option KV}{K:Option Int→Prop}(h:kMx x K):∃ mv,V.mxb (x.map KV.v)=some mv∧K mv:=by
 cases x with
 | none=>exact⟨_,rfl,h⟩
 | some v =>
  rcases zF (show xm (fun _ n=>K (some n)) (BadN 94) v from h) with ⟨k,n,rfl,h1⟩ | ⟨_,h1⟩
  ·exact⟨_,rfl,h1⟩
  ·exact h1.elim
inductive SlS where
 | sli (z:Nat)
 | arr (n z:Nat)
 | str
 | bad
def slS (P:Program) (t:TypeId):SlS:=match P.underlying t with
 | some (.slice el)=>match P.info? el with
  | some i=>.sli i.size
  | none=>.bad
 | some (.array n el)=>match P.info? el with
  | some i=>.arr n i.size
  | none=>.bad
 | some .string=>.str
 | _=>.bad
def fO (c:Option Nat) (K:Option Nat→Prop):Prop:=@Option.rec Nat (fun _=>Prop) (K none) (fun n=>fN n fun n=>K (some n)) c
theorem zAs (c:Option Nat) (K:Option Nat→Prop):fO c K=K c:=by
 cases c with
 | none=>rfl
 | some n=>exact xa n fun n=>K (some n)
def zg3 (id:Nat) (p:List Step) (e:Shape) (off:Nat) (cap:Option Nat) (l h:Int) (mv:Option Int) (zm:KZ) (nx:Nat) (rd:List Nat) (K:KT):Prop :=
 fN (Nat.add off (v8 l)) fun o=>fN (Nat.sub (v8 h) (v8 l)) fun n=>fO (Xg (v8 l) cap mv) fun c=>K (.sl id p e o n c) zm nx [] rd
def zGx (z:Nat) (l:Int) (hi:Option KV) (mv:Option Int) (zm:KZ) (nx:Nat) (K:KT) (id:Nat) (p:List Step) (e:Shape) (off len:Nat) (cap:Option Nat):Prop :=
 J7 len hi fun h=>chk (Nat.beq z e.size) 95 (cnd (slB l h len mv) (zg3 id p e off cap l h mv zm nx [] K))
def zGy (z:Nat) (l:Int) (hi:Option KV) (mv:Option Int) (zm:KZ) (nx:Nat) (K:KT) (id:Nat) (e:Shape) (len:Nat):Prop :=
 oB zm id fun k _ _=>J7 len hi fun h=>chk (nd (qQ k) (Nat.beq z e.size)) 96 (cnd (slB l h len mv) (zg3 id [] e 0 none l h mv zm nx [id] K))
def zGz (z:Nat) (l:Int) (hi:Option KV) (mv:Option Int) (zm:KZ) (nx:Nat) (K:KT) (u clip:Bool) (e:Shape) (off len:Nat) (c:KV):Prop :=
 J7 len hi fun h=>chk (Nat.beq z e.size) 97 (cnd (slB l h len mv) (fN (Nat.add off (v8 l)) fun o=>fN (Nat.sub (v8 h) (v8 l)) fun n=>fB (yz clip len h mv) fun cl=>K (.ro u cl e o n c) zm nx [] []))
def zGA (l:Int) (hi:Option KV) (mv:Option Int) (zm:KZ) (nx:Nat) (K:KT):Prop:=J7 0 hi fun h=>cnd (slB l h 0 mv) (K .nils zm nx [] [])
def kSl (z:Nat) (x:KV) (l:Int) (hi:Option KV) (mv:Option Int) (zm:KZ) (nx:Nat) (K:KT):Prop :=
 Je (zGx z l hi mv zm nx K) (yI (zGy z l hi mv zm nx K) (Jf (zGz z l hi mv zm nx K) (wK (zGA l hi mv zm nx K) (BadN 99) x) x) x) x
def zGB (n z:Nat) (l:Int) (hi:Option KV) (mv:Option Int) (zm:KZ) (nx:Nat) (K:KT) (id:Nat) (p:List Step) (s:Shape):Prop :=
 shA s (fun n' e=>J7 n hi fun h=>chk (nd (Nat.beq n' n) (Nat.beq z e.size)) 100 (cnd (slB l h n mv) (zg3 id p e 0 (some n) l h mv zm nx [] K))) (BadN 101)
def zGC (n z:Nat) (l:Int) (hi:Option KV) (mv:Option Int) (zm:KZ) (nx:Nat) (K:KT) (u:Bool) (s:Shape) (c:KV):Prop :=
 shA s (fun n' e=>J7 n hi fun h=>chk (nd (Nat.beq n' n) (nd (Nat.beq z e.size) (arN c n))) 102 (cnd (slB l h n mv) (fN (v8 l) fun o=>fN (Nat.sub (v8 h) (v8 l)) fun m=>fB (yz true n h mv) fun cl=>K (.ro u cl e o m c) zm nx [] []))) (BadN 103)
def kSa (n z:Nat) (x:KV) (l:Int) (hi:Option KV) (mv:Option Int) (zm:KZ) (nx:Nat) (K:KT):Prop :=
 yH (zGB n z l hi mv zm nx K) (QK (zGC n z l hi mv zm nx K) (BadN 104) x) x
def kSs (x:KV) (l:Int) (hi:Option KV) (mv:Option Int) (zm:KZ) (nx:Nat) (K:KT):Prop :=
 wg (fun n s=>@Option.rec Int (fun _=>Prop) (J7 n hi fun h=>cnd (slB l h n none) (fN (Nat.sub (v8 h) (v8 l)) fun m=>fN (pkx .u8 s (v8 l) m) fun y=>K (.str m y) zm nx [] [])) (fun _=>BadN 105) mv) (BadN 106) x
def opB (mx hi:Option KV):Bool:=mx.isNone||hi.isSome
def zg4 (P:Program) (t:TypeId) (x:KV) (low hi mx:Option KV) (zm:KZ) (nx:Nat) (K:KT):Prop :=
 chk (opB mx hi) 107 (J7 0 low fun l=>kMx mx fun mv=>@SlS.rec (fun _=>Prop) (fun z=>kSl z x l hi mv zm nx K) (fun n z=>kSa n z x l hi mv zm nx K) (kSs x l hi mv zm nx K) (BadN 108) (slS P t))
omit [KGl] in
theorem J8 {n x l h:Nat}(h1:l≤h) (h2:h≤n):(zV n x).extract l h=zV (h - l) (pkx .u8 x l (h - l)):=by
 apply ByteArray.ext
 apply Array.ext'
 show (((zV n x).extract l h).data).toList=(List.range (h - l)).map _
 rw[ByteArray.data_extract,Array.toList_extract]
 show List.extract ((List.range n).map fun i=>UInt8.ofNat (pkr .u8 x i)) l h=_
 rw[List.extract_eq_take_drop]
 apply List.ext_getElem?
 intro i
 rw[List.getElem?_take,List.getElem?_map,List.getElem?_drop,List.getElem?_map]
 by_cases hi:i < h - l
 ·rw[if_pos hi,List.getElem?_range (by omega),List.getElem?_range hi,Option.map_some,Option.map_some,jh hi]
 ·rw[if_neg hi,List.getElem?_eq_none (by simp; omega)]; rfl
theorem wG {x:Option Operand}:(x.map (kev τ)).map KV.v=x.map (opv Gl.G (tv' τ)):=by
 cases x with
 | none=>rfl
 | some y=>exact congrArg some (zT τ y)
theorem zAt {x y:Option Operand}(h:opB (x.map (kev τ)) (y.map (kev τ))=true):((x.map (opv Gl.G (tv' τ))).isNone||(y.map (opv Gl.G (tv' τ))).isSome)=true:=by
 unfold opB at h
 revert h
 cases x<;>cases y<;>intro h<;>first | rfl | exact h
theorem zbN {id:Nat}{p:List Step}{e:Shape}{off:Nat}{cap:Option Nat}{l h:Int}{mv:Option Int}{rd:List Nat}(hk:zg3 id p e off cap l h mv zm nx rd K) :
  K (.sl id p e (off + l.toNat) (h.toNat - l.toNat) (Xg l.toNat cap mv)) zm nx [] rd:=by
 unfold zg3 at hk
 rw[xa,xa,zAs,xH,xH] at hk
 exact hk
theorem zg5 {t:TypeId}{x:Operand}{low hi mx:Option Operand}(ho:o.op=.slice t x low hi mx) (h:zg4 P t (kev τ x) (low.map (kev τ)) (hi.map (kev τ)) (mx.map (kev τ)) zm nx K):Out P B o τ lo zm nx K:=by
 have hx:=zT τ x
 obtain⟨h0,h1⟩:=ze h
 have hob:=zAt h0
 obtain⟨l,h2,h3⟩:=wF h1
 obtain⟨mv,h4,h5⟩:=zAr h3
 rw[wG] at h2 h4
 replace h2:V.bnd 0 (low.map (opv Gl.G (tv' τ)))=some l:=h2
 have fin:∀ {v:KV}{rd:List Nat}{w:V},K v zm nx [] rd→(jQ P t (opv Gl.G (tv' τ) x) (low.map (opv Gl.G (tv' τ))) (hi.map (opv Gl.G (tv' τ))) (mx.map (opv Gl.G (tv' τ))) (am zm)).is ⟨w,[],[],rd⟩→w=v.v→Out P B o τ lo zm nx K:=fun hk hy hw =>
  Out.pure hk (zal ho hy) (by rw[hw]; exact EImp.refl _)
 unfold slS at h5
 split at h5
 ·rename_i el hu
  split at h5
  ·rename_i i hinf
   have h6:kSl i.size (kev τ x) l (hi.map (kev τ)) mv zm nx K:=h5
   rcases vz h6 with ⟨id,p,e,off,len,cap,hp,h7⟩ | ⟨_,h7⟩
   ·obtain⟨h,h8,h9⟩:=wF h7
    rw[wG] at h8
    obtain⟨h10,h11⟩:=ze h9
    obtain⟨h12,h13⟩:=zd.1 h11
    rw[hp] at hx
    refine fin (zbN h13) ?_ rfl
    unfold jQ
    rw[if_pos hob,h2,h4,hu,←hx]
    simp only[ySl,hinf,zoB,zP h10,if_true,h8]
    exact qg h12
   rcases vM h7 with ⟨id,e,len,hp,h7⟩ | ⟨_,h7⟩
   ·obtain⟨k,sh,v,hb,h7⟩:=x7 h7
    obtain⟨h,h8,h9⟩:=wF h7
    rw[wG] at h8
    obtain⟨h10,h11⟩:=ze h9
    obtain⟨h12,h13⟩:=zd.1 h11
    rw[za] at h10
    rw[hp] at hx
    refine fin (w:=.sl id [] e l.toNat (h.toNat - l.toNat) (Xg l.toNat none mv)) (zbN h13) ?_ (by rw[Nat.zero_add]; rfl)
    unfold jQ
    rw[if_pos hob,h2,h4,hu,←hx]
    simp only[ySl,hinf,zhL,zL hb,KBlk.b,xp,h10.1,zP h10.2,and_self,if_true,h8]
    exact qg h12
   rcases vA h7 with ⟨u,clip,e,off,len,c,hp,h7⟩ | ⟨_,h7⟩
   ·obtain⟨h,h8,h9⟩:=wF h7
    rw[wG] at h8
    obtain⟨h10,h11⟩:=ze h9
    obtain⟨h12,h13⟩:=zd.1 h11
    rw[xa,xa,Jj,xH,xH] at h13
    rw[hp] at hx
    refine fin (w:=.ro u (yz clip len h mv) e (h.toNat - l.toNat) fun j=>c.v.step (.idx (off + (l.toNat + j)))) h13 ?_ (by
     rw[ZQ]
     congr 1
     funext j
     rw[show Nat.add off l.toNat + j=off + (l.toNat + j) from Nat.add_assoc _ _ _])
    unfold jQ
    rw[if_pos hob,h2,h4,hu,←hx]
    simp only[ySl,hinf,ZQ,zP h10,if_true,h8]
    exact qg h12
   rcases vJ h7 with ⟨hp,h7⟩ | ⟨_,h7⟩
   ·obtain⟨h,h8,h9⟩:=wF h7
    rw[wG] at h8
    rw[hp] at hx
    obtain⟨h12,h13⟩:=zd.1 (show cnd (slB l h 0 mv) (K .nils zm nx [] []) from h9)
    refine fin h13 ?_ rfl
    unfold jQ
    rw[if_pos hob,h2,h4,hu,←hx]
    simp only[ySl,hinf,zhN,h8]
    exact qg h12
   ·exact h7.elim
  ·exact (show BadN 108 from h5).elim
 ·rename_i n el hu
  split at h5
  ·rename_i i hinf
   have h6:kSa n i.size (kev τ x) l (hi.map (kev τ)) mv zm nx K:=h5
   rcases vk h6 with ⟨id,p,s,hp,h7⟩ | ⟨_,h7⟩
   ·obtain⟨n',e,rfl,hq⟩:=Vd h7
    obtain⟨h,h8,h9⟩:=wF hq
    rw[wG] at h8
    obtain⟨h10,h11⟩:=ze h9
    obtain⟨h12,h13⟩:=zd.1 h11
    rw[za] at h10
    rw[hp] at hx
    refine fin (w:=.sl id p e l.toNat (h.toNat - l.toNat) (Xg l.toNat (some n) mv)) (zbN h13) ?_ (by rw[Nat.zero_add]; rfl)
    unfold jQ
    rw[if_pos hob,h2,h4,hu,←hx]
    simp only[znL,hinf,zaV,zP h10.1,zP h10.2,and_self,if_true,h8]
    exact qg h12
   rcases qq h7 with ⟨u,s,c,hp,h7⟩ | ⟨_,h7⟩
   ·obtain⟨n',e,rfl,hq⟩:=Vd h7
    obtain⟨h,h8,h9⟩:=wF hq
    rw[wG] at h8
    obtain⟨h10,h11⟩:=ze h9
    obtain⟨h12,h13⟩:=zd.1 h11
    rw[xa,xa,Jj,xH,xH] at h13
    simp only[za] at h10
    obtain⟨q1,q2,q3⟩:=h10
    obtain⟨f,hf⟩:=zsh q3
    obtain rfl:=zP q1
    rw[hp] at hx
    refine fin (w:=.ro u (yz true n' h mv) e (h.toNat - l.toNat) fun j=>f (l.toNat + j)) h13 ?_ (by rw[ZQ,hf]; rfl)
    unfold jQ
    rw[if_pos hob,h2,h4,hu,←hx]
    simp only[znL,hinf,Ji,hf,zP q2,and_self,if_true,h8]
    exact qg h12
   ·exact h7.elim
  ·exact (show BadN 108 from h5).elim
 ·rename_i hu
  have h6:kSs (kev τ x) l (hi.map (kev τ)) mv zm nx K:=h5
  rcases jb h6 with ⟨n,s,hp,h7⟩ | ⟨_,h7⟩
  ·cases mv with
   | some _=>exact (show BadN 105 from h7).elim
   | none =>
    have h7:J7 n (hi.map (kev τ)) (fun h=>cnd (slB l h n none) (fN (Nat.sub (v8 h) (v8 l)) fun m=>fN (pkx .u8 s (v8 l) m) fun y=>K (.str m y) zm nx [] [])):=h7
    obtain⟨h,h8,h9⟩:=wF h7
    rw[wG] at h8
    obtain⟨h12,h13⟩:=zd.1 h9
    rw[xa,xa,xH,xH] at h13
    rw[hp] at hx
    have hsz:(zV n s).size=n:=by show ((List.range n).map _).length=n; simp
    have hb:l.toNat≤h.toNat∧h.toNat≤n:=by
     unfold slB at h12
     simp only[Bool.and_eq_true,vH,decide_eq_true_eq,Int.ofNat_eq_natCast] at h12
     omega
    refine fin (w:=.str ((zV n s).extract l.toNat h.toNat)) h13 ?_ (by rw[J8 hb.1 hb.2]; rfl)
    unfold jQ
    rw[if_pos hob,h2,h4,hu,←hx]
    simp only[zdY,hsz,h8]
    exact qg h12
  ·exact h7.elim
 ·exact (show BadN 108 from h5).elim
end
end
end Go.K
namespace Go.K
open Go.Ab Go.RowKit Go.Y
noncomputable section
variable [KGl]
section
variable {P:Program}{B:Nat}{o:Oper}{τ:Nat→KV}{lo:Nat}{zm:KZ}{nx:Nat}{K:KT}
def zAA (P:Program) (t:TypeId) (x:KV) (zm:KZ) (nx:Nat) (K:KT):Prop:=BadN 261
theorem zuz {t:TypeId}{x:Operand}(ho:o.op=.makeInterface t x) (h:zAA P t (kev τ x) zm nx K):Out P B o τ lo zm nx K:=h.elim
def zaK (x:Operand):Bool:=match x with
 | .const _=>true
 | _=>false
def zsj (P:Program) (op:BinOp) (t:TypeId) (cst:Bool) (x y:KV) (zm:KZ) (nx:Nat) (K:KT):Prop:=zuM P op t x y zm nx K
theorem zob {op:BinOp}{t t':TypeId}{x y:Operand}(ho:o.op=.binOp op t x y t') (h:zsj P op t (zaK x||zaK y) (kev τ x) (kev τ y) zm nx K):Out P B o τ lo zm nx K:=zhp ho h
end
end
end Go.K
namespace Go.K
open Go.Ab Go.RowKit Go.Y
noncomputable section
variable [KGl]
section
variable {P:Program}{B:Nat}{o:Oper}{τ:Nat→KV}{lo:Nat}{zm:KZ}{nx:Nat}{K:KT}
def zdJ (r:Option Operand) (zm:KZ) (nx:Nat) (K:KT):Prop:=BadN 260
theorem zfq {t:TypeId}{r:Option Operand}(ho:o.op=.makeMap t r) (h:zdJ r zm nx K):Out P B o τ lo zm nx K:=h.elim
def zsl (P:Program) (t:TypeId) (ok:Bool) (x k:KV) (zm:KZ) (nx:Nat) (K:KT):Prop:=BadN 261
theorem zof {t:TypeId}{x k:Operand}{ok:Bool}(ho:o.op=.lookup t x k ok) (h:zsl P t ok (kev τ x) (kev τ k) zm nx K):Out P B o τ lo zm nx K:=h.elim
def zuB (lo:Nat) (P:Program) (t:TypeId) (a k x:KV) (zm:KZ) (nx:Nat) (K:KT):Prop:=BadN 262
theorem zhf {t:TypeId}{a k x:Operand}(ho:o.op=.mapUpdate t a k x∨o.op=.insert t a k x) (h:zuB lo P t (kev τ a) (kev τ k) (kev τ x) zm nx K):Out P B o τ lo zm nx K:=h.elim
def zhg (P:Program) (t:TypeId) (x:KV) (zm:KZ) (nx:Nat) (K:KT):Prop:=zuj P t x zm nx K
theorem zog {t:TypeId}{x:Operand}(ho:o.op=.call ⟨.builtin .len,#[x],#[t]⟩) (h:zhg P t (kev τ x) zm nx K):Out P B o τ lo zm nx K:=zuk ho h
end
end
end Go.K
namespace Go.K
open Go.Ab Go.RowKit Go.Y
noncomputable section
variable [KGl]
omit [KGl] in
theorem Imp.arr {n:Nat}{f g:Nat→V}(h:∀ i,i < n→Imp (f i) (g i)):Imp (.arr n f) (.arr n g):=by
 intro C m hr
 cases m with
 | cel s q off=>obtain⟨e,h1,h2⟩:=hr; exact⟨e,h1,fun i hi=>h i hi _ _ (h2 i hi)⟩
 | val v=>obtain⟨cs,e,h1,h2,h3⟩:=hr; exact⟨cs,e,h1,h2,fun i hi=>h i hi _ _ (h3 i hi)⟩
 | list l=>exact hr
omit [KGl] in
theorem Imp.arrE {n:Nat}{f g:Nat→V}(h:∀ i,i < n→f i=g i):Imp (.arr n f) (.arr n g):=Imp.arr fun i hi=>by rw[h i hi]; exact Imp.refl _
omit [KGl] in
theorem Imp.roE {u c:Bool}{e:Shape}{n:Nat}{f g:Nat→V}(h:∀ i,i < n→f i=g i):Imp (.ro u c e n f) (.ro u c e n g):=by
 intro C m hr
 obtain⟨a,k,h1,h2,h3,h4⟩:=hr
 refine⟨a,k,h1,h2,h3,h4.imp id ?_⟩
 rintro⟨b,o,h5,h6,h7⟩
 exact⟨b,o,h5,h6,fun i hi=>by rw[←h i hi]; exact h7 i hi⟩
omit [KGl] in
theorem Imp.refE {u:Bool}{s:Shape}{v w:V}(h:Imp v w):Imp (.ref u s v) (.ref u s w):=by
 intro C m hr
 obtain⟨b,o,h1,h2,h3⟩:=hr
 exact⟨b,o,h1,h2,h _ _ h3⟩
section
variable {P:Program}{B:Nat}{o:Oper}{τ:Nat→KV}{lo:Nat}{zm:KZ}{nx:Nat}{K:KT}
def arK (c:KV):Bool:=match c with
 | .pk _ _ _=>true
 | .ar _ _ _=>true
 | .fa _ _=>true
 | _=>false
omit [KGl] in
theorem qp {c:KV}(h:arK c=true):∃ n f,c.v=.arr n f∧∀ i,f i=(z7 i c).v:=by
 unfold arK at h
 split at h
 ·exact⟨_,_,rfl,fun i=>rfl⟩
 ·exact⟨_,_,rfl,fun i=>by rw[xY]; rfl⟩
 ·exact⟨_,_,rfl,fun i=>rfl⟩
 ·cases h
def zAm (x:KV) (zm:KZ) (F:Shape→Nat→Nat→KV→List Nat→Prop):Prop :=
 Je (fun id p e off len _=>oB zm id fun k _ v=>chk (nd (qQ k) (jX p v)) 110 (fV (xV p v) fun c=>chk (arK c) 111 (F e off len c [id])))
  (yI (fun id e len=>oB zm id fun k _ v=>chk (nd (qQ k) (arK v)) 112 (F e 0 len v [id]))
   (Jf (fun _ _ e off len c=>F e off len c []) (BadN 113) x) x) x
theorem zub {x:KV}{F:Shape→Nat→Nat→KV→List Nat→Prop}(h:zAm x zm F):∃ e off len c rd f,F e off len c rd∧Zt (am zm) x.v=some (e,len,f,rd)∧∀ i,f i=(z7 (off + i) c).v:=by
 rcases vz h with ⟨id,p,e,off,len,cap,rfl,h1⟩ | ⟨_,h1⟩
 ·obtain⟨k,sh,v,hb,h2⟩:=x7 h1
  obtain⟨h3,h4⟩:=ze h2
  obtain⟨h3,hpo⟩:=za.1 h3
  rw[xS] at h4
  obtain⟨h5,h6⟩:=ze h4
  obtain⟨n,f,hf,hf'⟩:=qp h5
  refine⟨e,off,len,_,[id],fun i=>f (off + i),h6,?_,fun i=>hf' _⟩
  rw[vl p v hpo] at hf
  show Zt (am zm) (.sl id p e off len cap)=_
  simp only[Zt,zL hb,KBlk.b,xp,h3,if_true,hf]
 rcases vM h1 with ⟨id,e,len,rfl,q1⟩ | ⟨_,h1⟩
 ·obtain⟨k,sh,v,hb,h2⟩:=x7 q1
  obtain⟨h3,h4⟩:=ze h2
  rw[za] at h3
  obtain⟨n,f,hf,hf'⟩:=qp h3.2
  refine⟨e,0,len,_,[id],f,h4,?_,fun i=>by rw[Nat.zero_add]; exact hf' i⟩
  show Zt (am zm) (.row id e len)=_
  simp only[Zt,zL hb,KBlk.b,xp,h3.1,if_true,hf]
 rcases vA h1 with ⟨u,cl,e,off,len,c,rfl,q1⟩ | ⟨_,h1⟩
 ·refine⟨e,off,len,c,[],_,q1,rfl,fun i=>(xY _ _).symm⟩
 ·exact h1.elim
def QC (s:Shape) (x:KV) (zm:KZ) (F:Shape→Nat→Nat→KV→List Nat→Prop):Prop:=wK (F s 0 0 .unk []) (zAm x zm F) x
theorem WO {s:Shape}{x:KV}{F:Shape→Nat→Nat→KV→List Nat→Prop}(h:QC s x zm F):∃ e off len c rd f,F e off len c rd∧yu (am zm) s x.v=some (e,len,f,rd)∧∀ i,i < len→f i=(z7 (off + i) c).v:=by
 rcases vJ h with ⟨rfl,h1⟩ | ⟨hn,h1⟩
 ·exact⟨s,0,0,.unk,[],_,h1,rfl,fun i hi=>by omega⟩
 ·obtain⟨e,off,len,c,rd,f,h2,h3,h4⟩:=zub h1
  refine⟨e,off,len,c,rd,f,h2,?_,fun i _=>h4 i⟩
  unfold yu
  split
  ·rename_i hv; exfalso; unfold Zt at h3; rw[hv] at h3; cases h3
  ·exact h3
def yD (c:KV) (off at':Nat) (n:Nat):KV→(KV→Prop)→Prop:=@Nat.rec (fun _=>KV→(KV→Prop)→Prop) (fun t K=>K t) (fun j ih t K=>ih t fun t=>fV (z7 (Nat.add off j) c) fun x=>zd1 x (enc (Nat.add at' j)) t K) n
theorem ye {c:KV}{off at':Nat}:∀(n:Nat) (t:KV) (K:KV→Prop),yD c off at' n t K→∃ t',K t'∧∀ i z,t'.atv (enc i) z=if at'≤i∧i < at' + n then (z7 (off + (i - at')) c).v else t.atv (enc i) z
 | 0,t,K,h=>⟨t,h,fun i z=>by rw[if_neg (by omega)]⟩
 | n + 1,t,K,h=>by
  obtain⟨t',h1,h2⟩:=ye n t _ (show yD c off at' n t (fun t=>fV (z7 (Nat.add off n) c) fun x=>zd1 x (enc (Nat.add at' n)) t K) from h)
  rw[xS,Jk] at h1
  refine⟨_,h1,fun i z=>?_⟩
  rw[vX,h2]
  by_cases hi:i=at' + n
  ·subst hi
   rw[if_pos (show at' + n=Nat.add at' n from rfl),if_pos (by omega),show at' + n - at'=n by omega]; rfl
  ·rw[if_neg (show ¬ i=Nat.add at' n from hi)]
   by_cases h3:at'≤i∧i < at' + n
   ·rw[if_pos h3,if_pos (by omega)]
   ·rw[if_neg h3,if_neg (by omega)]
def zff (off0:Nat) (f:Nat→KV):Nat→KV:=@Bool.rec (fun _=>Nat→KV) (fun i=>f (Nat.add off0 i)) f (Nat.beq off0 0)
omit [KGl] in
theorem WP (off0:Nat) (f:Nat→KV) (i:Nat):zff off0 f i=f (off0 + i):=by
 unfold zff
 cases h:Nat.beq off0 0 with
 | false=>rfl
 | true=>obtain rfl:=zP h; rw[Nat.zero_add]
def zr8 (len0:Nat) (c:KV) (off k:Nat) (K:KV→Prop) (off0:Nat) (kk:IntKind) (_ x0:Nat):Prop :=
 wi (fun kk' _ y=>chk (xn kk kk') 114 (fN (Nat.add (pkx kk x0 off0 len0) (Nat.shiftLeft (pkx kk y off k) (Nat.mul (wd kk) len0))) fun z=>K (.pk kk (Nat.add len0 k) z)))
  (chk (Nat.beq k 0) 115 (K (.pk kk len0 (pkx kk x0 off0 len0)))) c
def zr9 (len0:Nat) (c:KV) (off k:Nat) (K:KV→Prop) (off0:Nat) (c0:KV) (_:Nat) (d t:KV):Prop :=
 @Bool.rec (fun _=>Prop) (yD c0 off0 0 len0 .te fun t=>yD c off len0 k t fun t=>K (.ar (Nat.add len0 k) d t)) (yD c off len0 k t fun t=>K (.ar (Nat.add len0 k) d t)) (Nat.beq off0 0)
def zsa (z:KV) (c:KV) (off k:Nat) (K:KV→Prop):Prop :=
 wi (fun kk _ y=>fN (pkx kk y off k) fun y=>K (.pk kk k y)) (W3 (fun _ d t=>@Bool.rec (fun _=>Prop) (yD c off 0 k .te fun t=>K (.ar k d t)) (K (.ar k d t)) (Nat.beq off 0)) (J9 (fun _ g=>K (.fa k (zff off g))) (chk (Nat.beq k 0) 116 (K (q9 0 z))) c) c) c
def VX (lo hi j:Nat) (a b:KV):KV:=@Bool.rec (fun _=>KV) b a (nd (Nat.ble lo j) (Nat.blt j hi))
omit [KGl] in
theorem VY (lo hi j:Nat) (a b:KV):VX lo hi j a b=if lo≤j∧j < hi then a else b:=by
 unfold VX
 by_cases h:lo≤j∧j < hi
 ·rw[if_pos h,show nd (Nat.ble lo j) (Nat.blt j hi)=true from za.2 ⟨Nat.ble_eq_true_of_le h.1,vq.2 h.2⟩]
 ·rw[if_neg h]
  cases hb:nd (Nat.ble lo j) (Nat.blt j hi) with
  | false=>rfl
  | true=>obtain⟨h1,h2⟩:=za.1 hb; exact absurd ⟨Nat.le_of_ble_eq_true h1,vq.1 h2⟩ h
def zbI (c:KV) (off len0:Nat) (k:Nat):(Nat→KV)→((Nat→KV)→Prop)→Prop:=@Nat.rec (fun _=>(Nat→KV)→((Nat→KV)→Prop)→Prop) (fun f K=>K f) (fun j ih f K=>ih f fun f=>fV (z7 (Nat.add off j) c) fun x=>K fun i=>ifN i (Nat.add len0 j) x (f i)) k
theorem zaD {c:KV}{off len0:Nat}{f:Nat→KV}:∀ {k:Nat}{K:(Nat→KV)→Prop},zbI c off len0 k f K→∃ g,K g∧∀ i,i < len0 + k→g i=if i < len0 then f i else z7 (off + (i - len0)) c
 | 0,K,h=>⟨f,h,fun i hi=>by rw[if_pos (by omega)]⟩
 | k + 1,K,h=>by
  obtain⟨g,h1,h2⟩:=zaD (show zbI c off len0 k f (fun f=>fV (z7 (Nat.add off k) c) fun x=>K fun i=>ifN i (Nat.add len0 k) x (f i)) from h)
  rw[xS] at h1
  refine⟨_,h1,fun i hi=>?_⟩
  rw[wM]
  by_cases h:i=len0 + k
  ·rw[if_pos (show i=Nat.add len0 k from h),if_neg (by omega),show i - len0=k by omega]; rfl
  ·rw[if_neg (show ¬ i=Nat.add len0 k from h),h2 i (by omega)]
def zsb (len0:Nat) (c:KV) (off k:Nat) (K:KV→Prop) (off0:Nat) (c0:KV) (_:Nat) (f:Nat→KV):Prop :=
 J9 (fun _ g=>K (.fa (Nat.add len0 k) fun i=>VX 0 len0 i (zff off0 f i) (g (Nat.add off (Nat.sub i len0))))) (zbI c off len0 k (zff off0 f) fun f=>K (.fa (Nat.add len0 k) f)) c
def zgQ (z:KV) (c0:KV) (off0 len0:Nat) (c:KV) (off k:Nat) (K:KV→Prop):Prop :=
 @Bool.rec (fun _=>Prop) (wi (zr8 len0 c off k K off0) (W3 (zr9 len0 c off k K off0 c0) (BadN 117) c0) c0) (zsa z c off k K) (Nat.beq len0 0)
def zgR (z:KV) (c0:KV) (off0 len0:Nat) (c:KV) (off k:Nat) (K:KV→Prop):Prop :=
 J9 (zsb len0 c off k K off0 c0) (zgQ z c0 off0 len0 c off k K) c0
omit [KGl] in
theorem zgS {kk:IntKind}{a b len0 j:Nat}(ha:a < 2 ^ (wd kk * len0)):pkr kk (a + b <<< (wd kk * len0)) j=if j < len0 then pkr kk a j else pkr kk b (j - len0):=by
 have h0:a + b <<< (wd kk * len0)=b <<< (wd kk * len0) ||| a:=by
  rw[Nat.add_comm,Nat.shiftLeft_eq,Nat.mul_comm b]
  exact Nat.two_pow_add_eq_or_of_lt ha b
 have hbit:∀ q,(a + b <<< (wd kk * len0)).testBit q=if q < wd kk * len0 then a.testBit q else b.testBit (q - wd kk * len0):=by
  intro q
  rw[h0,Nat.testBit_or,Nat.testBit_shiftLeft]
  by_cases hq:q < wd kk * len0
  ·rw[if_pos hq]; simp [show ¬ wd kk * len0≤q by omega]
  ·rw[if_neg hq,zdV ha (by omega)]; simp [show wd kk * len0≤q by omega]
 apply Nat.eq_of_testBit_eq; intro q
 show (bts (a + b <<< (wd kk * len0)) (wd kk * j) (wd kk)).testBit q=_
 rw[xq,hbit]
 by_cases hq:q < wd kk
 ·by_cases hj:j < len0
  ·have:wd kk * (j + 1)≤wd kk * len0:=Nat.mul_le_mul_left _ hj
   rw[Nat.mul_succ] at this
   rw[if_pos (by omega),if_pos hj]
   show _=(bts a (wd kk * j) (wd kk)).testBit q
   rw[xq]
  ·have:wd kk * len0≤wd kk * j:=Nat.mul_le_mul_left _ (by omega)
   rw[if_neg (by omega),if_neg hj]
   show _=(bts b (wd kk * (j - len0)) (wd kk)).testBit q
   rw[xq,Nat.mul_sub,show wd kk * j + q - wd kk * len0=wd kk * j - wd kk * len0 + q by omega]
 ·have h1:∀ x y,(pkr kk x y).testBit q=false:=fun x y=>by
   show (bts x (wd kk * y) (wd kk)).testBit q=false
   rw[xq]; simp [hq]
  simp only[hq,decide_false,Bool.false_and]
  split<;>rw[h1]
theorem WQ {z c0 c:KV}{off0 len0 off k:Nat}{K:KV→Prop}(h:zgR z c0 off0 len0 c off k K):∃ c' g,K c'∧c'.v=.arr (len0 + k) g∧∀ i,i < len0 + k→g i=if i < len0 then (z7 (off0 + i) c0).v else (z7 (off + (i - len0)) c).v:=by
 rcases qr (show J9 (zsb len0 c off k K off0 c0) (zgQ z c0 off0 len0 c off k K) c0 from h) with ⟨n0,f,rfl,h1⟩ | ⟨_,h⟩
 ·rcases qr (show J9 _ _ c from h1) with ⟨n1,g,rfl,h2⟩ | ⟨_,h2⟩
  ·refine⟨_,_,h2,Xu _ _,fun i hi=>?_⟩
   show (VX 0 len0 i (zff off0 f i) (g (off + (i - len0)))).v=_
   rw[VY,WP]
   by_cases hi':i < len0
   ·rw[if_pos ⟨Nat.zero_le _,hi'⟩,if_pos hi']; rfl
   ·rw[if_neg (fun h=>hi' h.2),if_neg hi']; rfl
  ·obtain⟨g,h3,h4⟩:=zaD h2
   refine⟨_,_,h3,Xu _ _,fun i hi=>?_⟩
   rw[h4 i hi]
   by_cases hi':i < len0
   ·rw[if_pos hi',if_pos hi',WP]; rfl
   ·rw[if_neg hi',if_neg hi']
 unfold zgQ at h
 cases hl:Nat.beq len0 0 with
 | true =>
  obtain rfl:=zP hl
  rw[hl] at h
  rcases xI (show zsa z c off k K from h) with ⟨kk,n,y,rfl,h1⟩ | ⟨_,h1⟩
  ·rw[xa] at h1
   refine⟨_,_,h1,by rw[wj,Nat.zero_add],fun i hi=>?_⟩
   rw[if_neg (by omega),Nat.sub_zero]
   show V.int kk (dec kk (pkr kk _ i))=V.int kk (dec kk (pkr kk y (off + i)))
   rw[jh (by omega)]
  ·rcases jn h1 with ⟨n,d,t,rfl,q1⟩ | ⟨_,h1⟩
   ·cases ho:Nat.beq off 0 with
    | true =>
     obtain rfl:=zP ho
     refine⟨_,_,(by rw[ho] at q1; exact q1),by rw[ZP,Nat.zero_add],fun i hi=>?_⟩
     rw[if_neg (by omega),Nat.zero_add,Nat.sub_zero,xY]; rfl
    | false =>
     rw[ho] at q1
     obtain⟨t',h2,h3⟩:=ye _ _ _ (show yD (.ar n d t) off 0 k .te _ from q1)
     refine⟨_,_,h2,by rw[ZP,Nat.zero_add],fun i hi=>?_⟩
     rw[h3,if_pos (by omega),if_neg (by omega)]
   ·rcases qr h1 with ⟨n,g,rfl,q1⟩ | ⟨_,h1⟩
    ·refine⟨_,_,q1,by rw[Xu,Nat.zero_add],fun i hi=>?_⟩
     rw[if_neg (by omega),Nat.sub_zero,WP]; rfl
    obtain⟨h2,h3⟩:=ze h1
    obtain rfl:=zP h2
    exact⟨_,_,h3,ZD 0 z,fun i hi=>by omega⟩
 | false =>
  rw[hl] at h
  rcases xI (show wi (zr8 len0 c off k K off0) _ c0 from h) with ⟨kk,n0,x0,rfl,h1⟩ | ⟨_,h1⟩
  ·rcases xI h1 with ⟨kk',n,y,rfl,h2⟩ | ⟨_,h2⟩
   ·obtain⟨h3,h4⟩:=ze h2
    obtain rfl:=zJ h3
    rw[xa] at h4
    refine⟨_,_,h4,rfl,fun i hi=>?_⟩
    show V.int kk (dec kk (pkr kk (pkx kk x0 off0 len0 + (pkx kk y off k) <<< (wd kk * len0)) i))=_
    rw[zgS (zhH _ _ _ _)]
    by_cases hi':i < len0
    ·rw[if_pos hi',if_pos hi',jh hi']; rfl
    ·rw[if_neg hi',if_neg hi',jh (by omega)]; rfl
   ·obtain⟨h3,h4⟩:=ze h2
    obtain rfl:=zP h3
    refine⟨_,_,h4,rfl,fun i hi=>?_⟩
    rw[if_pos (by omega)]
    show V.int kk (dec kk (pkr kk _ i))=V.int kk (dec kk (pkr kk x0 (off0 + i)))
    rw[jh (by omega)]
  ·rcases jn h1 with ⟨n0,d,t,rfl,h2⟩ | ⟨_,h2⟩
   ·unfold zr9 at h2
    cases ho:Nat.beq off0 0 with
    | true =>
     obtain rfl:=zP ho
     rw[ho] at h2
     obtain⟨t',h3,h4⟩:=ye _ _ _ (show yD c off len0 k t _ from h2)
     refine⟨_,_,h3,rfl,fun i hi=>?_⟩
     show t'.atv (enc i) d.v=_
     rw[h4]
     by_cases hi':i < len0
     ·rw[if_neg (by omega),if_pos hi',xY,Nat.zero_add]; rfl
     ·rw[if_pos (by omega),if_neg hi']
    | false =>
     rw[ho] at h2
     obtain⟨t1,h3,h4⟩:=ye _ _ _ (show yD (.ar n0 d t) off0 0 len0 .te _ from h2)
     obtain⟨t',h5,h6⟩:=ye _ _ _ h3
     refine⟨_,_,h5,rfl,fun i hi=>?_⟩
     show t'.atv (enc i) d.v=_
     rw[h6]
     by_cases hi':i < len0
     ·rw[if_neg (by omega),if_pos hi',h4,if_pos (by omega),Nat.sub_zero]
     ·rw[if_pos (by omega),if_neg hi']
   ·exact h2.elim
def arZ (c:KV):Nat:=match c with
 | .pk _ n _=>n
 | .ar n _ _=>n
 | .fa n _=>n
 | _=>0
omit [KGl] in
theorem QD {c:KV}{n:Nat}{f:Nat→V}(h:arK c=true) (hv:c.v=.arr n f):arZ c=n:=by
 unfold arK at h
 unfold arZ
 split at h
 ·rw[wj] at hv; cases hv; rfl
 ·rw[ZP] at hv; cases hv; rfl
 ·rw[Xu] at hv; cases hv; rfl
 ·cases h
def zgT (c0:KV) (off cnt:Nat) (c:KV) (offs:Nat) (K:KV→Prop):Prop:=chk (arK c0) 414 (K (.fa (arZ c0) fun j=>VX off (Nat.add off cnt) j (z7 (Nat.add offs (Nat.sub j off)) c) (z7 j c0)))
def zAn (c0:KV) (off cnt:Nat) (c:KV) (offs:Nat) (K:KV→Prop):Prop :=
 wi (fun kk n x=>wi (fun kk' _ y=>chk (xn kk kk') 118 (fN (pkp kk x off cnt (pkx kk y offs cnt)) fun x=>K (.pk kk n x))) (chk (Nat.beq cnt 0) 119 (K c0)) c)
  (W3 (fun n d t=>yD c offs off cnt t fun t=>K (.ar n d t)) (BadN 120) c0) c0
def zuc (c0:KV) (off cnt:Nat) (c:KV) (offs:Nat) (K:KV→Prop):Prop :=
 J9 (fun _ _=>zgT c0 off cnt c offs K) (J9 (fun _ _=>zgT c0 off cnt c offs K) (zAn c0 off cnt c offs K) c0) c
theorem zgU {c0 c:KV}{off cnt offs N:Nat}{f0 f:Nat→V}{K:KV→Prop}(h:zuc c0 off cnt c offs K) (h0:c0.v=.arr N f0) (hf:∀ i,i < cnt→f i=(z7 (offs + i) c).v):∃ c',K c'∧c'.v=.arr N (cpF off cnt f0 f):=by
 have key:∀ j,cpF off cnt f0 f j=if off≤j∧j < off + cnt then f (j - off) else f0 j:=by
  intro j
  unfold cpF
  rw[V.ite_eq]
  by_cases hj:off≤j∧j < off + cnt
  ·rw[if_pos hj]; simp [hj.1,hj.2]
  ·rw[if_neg hj]
   have:(decide (off≤j)&&decide (j < off + cnt))=false:=by simpa using hj
   rw[this]; rfl
 have fa:zgT c0 off cnt c offs K→∃ c',K c'∧c'.v=.arr N (cpF off cnt f0 f):=by
  intro h
  obtain⟨h1,h2⟩:=ze h
  obtain⟨n,g,h3,h4⟩:=qp h1
  have hz:=QD h1 h0
  rw[h0] at h3
  injection h3 with e1 e2
  subst e1; subst e2
  refine⟨_,h2,?_⟩
  rw[Xu,hz]
  congr 1
  funext j
  rw[key,VY]
  by_cases hj:off≤j∧j < off + cnt
  ·rw[if_pos (show off≤j∧j < Nat.add off cnt from hj),if_pos hj,hf _ (by omega)]; rfl
  ·rw[if_neg (show ¬ (off≤j∧j < Nat.add off cnt) from hj),if_neg hj,h4]
 rcases qr (show J9 _ _ c from h) with ⟨_,_,_,h1⟩ | ⟨_,h1⟩
 ·exact fa h1
 rcases qr h1 with ⟨_,_,_,h1⟩ | ⟨_,h⟩
 ·exact fa h1
 clear h1 fa
 rcases xI (show wi _ _ c0 from h) with ⟨kk,n,x,rfl,h1⟩ | ⟨_,h1⟩
 ·rw[wj] at h0
  injection h0 with e1 e2
  subst e1; subst e2
  rcases xI h1 with ⟨kk',m,y,rfl,h2⟩ | ⟨_,h2⟩
  ·obtain⟨h3,h4⟩:=ze h2
   obtain rfl:=zJ h3
   rw[xa] at h4
   refine⟨_,h4,?_⟩
   rw[wj]
   congr 1
   funext j
   rw[key]
   unfold pkg
   rw[zdX (zhH _ _ _ _)]
   by_cases hj:off≤j∧j < off + cnt
   ·rw[if_pos hj,if_pos hj,hf _ (by omega),jh (by omega)]; rfl
   ·rw[if_neg hj,if_neg hj]
  ·obtain⟨h3,h4⟩:=ze h2
   obtain rfl:=zP h3
   refine⟨_,h4,?_⟩
   rw[wj]
   congr 1
   funext j
   rw[key,if_neg (by omega)]
 ·rcases jn h1 with ⟨n,d,t,rfl,h2⟩ | ⟨_,h2⟩
  ·rw[ZP] at h0
   injection h0 with e1 e2
   subst e1; subst e2
   obtain⟨t',h3,h4⟩:=ye _ _ _ h2
   refine⟨_,h3,?_⟩
   rw[ZP]
   congr 1
   funext j
   rw[key,h4]
   by_cases hj:off≤j∧j < off + cnt
   ·rw[if_pos hj,if_pos hj,hf _ (by omega)]
   ·rw[if_neg hj,if_neg hj]
  ·exact h2.elim
def apS (P:Program) (t t':TypeId):Option (TypeId×(Shape×KV)):=if t'=t then match P.underlying t with
  | some (.slice et)=>match wB P et,P.info? et with
   | some (s,z),some i=>if i.bytes≤1048576∧0 < s.size then some (et,(s,z)) else none
   | _,_=>none
  | _=>none
 else none
def zGr (et:TypeId) (s:Shape) (z:KV) (zm:KZ) (nx:Nat) (K:KT) (off k:Nat) (c:KV) (rd:List Nat):Prop :=
 cnd (apB 0 k) (zgR z .unk 0 0 c off k fun c'=>nwB (.row et) (.arr k s) c' zm nx fun zm nx'=>K (.row nx s k) zm nx' [] rd)
def zGs (lo:Nat) (et:TypeId) (s:Shape) (z:KV) (zm:KZ) (nx:Nat) (K:KT) (off k:Nat) (c:KV) (rd:List Nat) (id:Nat) (s':Shape) (len:Nat):Prop :=
 oB zm id fun kd sh v=>@Kind.rec (fun _=>Prop) (fun _=>BadN 121) (fun et'=>chk (nd (Nat.ble lo id) (nd (s'.beq s) (nd (Nat.beq et' et) (nd (Nat.blt id nx) (arK v))))) 122
  (cnd (apB len k) (zgR z v 0 len c off k fun c'=>upB id .dead sh .unk zm fun zm=>fN (Nat.add len k) fun m=>nwB (.row et) (.arr m s) c' zm nx fun zm nx'=>K (.row nx s m) zm nx' [id] rd))) (BadN 123) (fun _ _ _ _=>BadN 123) (BadN 123) kd
def zGt (et:TypeId) (s:Shape) (z:KV) (zm:KZ) (nx:Nat) (K:KT) (off k:Nat) (c:KV) (rd:List Nat) (_ clip:Bool) (s':Shape) (off0 len:Nat) (c0:KV):Prop :=
 chk (nd clip (s'.beq s)) 124 (cnd (apB len k&&Nat.blt 0 k) (zgR z c0 off0 len c off k fun c'=>fN (Nat.add len k) fun m=>nwB (.row et) (.arr m s) c' zm nx fun zm nx'=>K (.row nx s m) zm nx' [] rd))
def zsc (et:TypeId) (s:Shape) (z:KV) (zm:KZ) (nx:Nat) (K:KT) (off k:Nat) (c:KV) (rd:List Nat) (id off0 len:Nat) (c0:KV):Prop :=
 chk (Nat.blt 0 k) 212 (zgR z c0 off0 len c off k fun c'=>fN (Nat.add len k) fun m=>nwB (.row et) (.arr m s) c' zm nx fun zm nx'=>K (.row nx s m) zm nx' [] (id::rd))
def zsd (lo:Nat) (zm:KZ) (nx:Nat) (K:KT) (off k:Nat) (c:KV) (rd:List Nat) (id:Nat) (p:List Step) (s':Shape) (off0 len cap:Nat) (kd:Kind) (sh:Shape) (v c0:KV):Prop :=
 chk (nd (Nat.ble lo id) (Nat.ble (off0 + len + k) (arZ c0))) 213 (fN (Nat.add off0 len) fun q=>zuc c0 q k c off fun c'=>Jm c' p v fun v'=>fN (Nat.add len k) fun m=>upB id kd sh v' zm fun zm=>K (.sl id p s' off0 m (some cap)) zm nx [id] rd)
def zGu (lo:Nat) (et:TypeId) (s:Shape) (z:KV) (zm:KZ) (nx:Nat) (K:KT) (off k:Nat) (c:KV) (rd:List Nat) (id:Nat) (p:List Step) (s':Shape) (off0 len:Nat) (cp:Option Nat):Prop :=
 os 210 (fun cap=>oB zm id fun kd sh v=>fV (xV p v) fun c0=>chk (nd (qQ kd) (nd (s'.beq s) (nd (apB len k) (nd (jX p v) (arK c0))))) 211
  (@Bool.rec (fun _=>Prop) (zsc et s z zm nx K off k c rd id off0 len c0) (zsd lo zm nx K off k c rd id p s' off0 len cap kd sh v c0) (Nat.ble (Nat.add len k) cap))) cp
def kAp (lo:Nat) (et:TypeId) (s:Shape) (z:KV) (x:KV) (zm:KZ) (nx:Nat) (K:KT) (s2:Shape) (off k:Nat) (c:KV) (rd:List Nat):Prop :=
 chk (s2.beq s) 125 (yI (zGs lo et s z zm nx K off k c rd) (wK (zGr et s z zm nx K off k c rd) (Jf (zGt et s z zm nx K off k c rd) (Je (zGu lo et s z zm nx K off k c rd) (BadN 126) x) x) x) x)
def zdC (lo:Nat) (P:Program) (t t':TypeId) (x y:KV) (zm:KZ) (nx:Nat) (K:KT):Prop :=
 os 127 (pr fun et sz=>pr (fun s z=>QC s y zm (kAp lo et s z x zm nx K)) sz) (apS P t t')
omit [KGl] in
theorem zdD {len k:Nat}{f0 f g:Nat→V}{h0:Nat→V}(hg:∀ i,i < len + k→g i=if i < len then h0 i else f (i - len)) (h1:∀ i,i < len→f0 i=h0 i):Imp (.arr (len + k) (wv len f0 f)) (.arr (len + k) g):=by
 refine Imp.arrE fun i hi=>?_
 rw[hg i hi]
 unfold wv
 rw[V.ite_eq]
 by_cases h:i < len
 ·rw[if_pos h,←h1 i h]; simp [h]
 ·rw[if_neg h]; simp [h]
theorem zfg {t t':TypeId}{x y:Operand}(ho:o.op=.call ⟨.builtin .append,#[x,y],#[t,t']⟩) (h:zdC lo P t t' (kev τ x) (kev τ y) zm nx K):Out P B o τ lo zm nx K:=by
 have hx:=zT τ x
 have hy:=zT τ y
 obtain⟨⟨et,s,z⟩,h1,h2⟩:=xz h
 have key:t'=t∧P.underlying t=some (.slice et)∧xK P et=some (s,z.v)∧∃ i,P.info? et=some i∧(i.bytes≤1048576∧0 < s.size):=by
  unfold apS at h1
  split at h1
  ·rename_i ht
   split at h1
   ·rename_i et' hu
    split at h1
    ·rename_i s' z' i hz hi
     split at h1
     ·rename_i hc
      simp only[Option.some.injEq,Prod.mk.injEq] at h1
      obtain⟨rfl,rfl,rfl⟩:=h1
      exact⟨ht,hu,wC hz,i,hi,hc⟩
     ·cases h1
    ·cases h1
   ·cases h1
  ·cases h1
 obtain⟨rfl,hu,hz,i,hi,hc⟩:=key
 obtain⟨s2,off,k,c,rd,f,h3,h4,h5⟩:=WO (show QC s (kev τ y) zm (kAp lo et s z (kev τ x) zm nx K) from h2)
 obtain⟨h6,h7⟩:=ze h3
 rw[hy] at h4
 have hY:∀ r,(Xi et (opv Gl.G (tv' τ) x) s k f rd (am zm) nx).is r→(Zx P t' t' (opv Gl.G (tv' τ) x) (opv Gl.G (tv' τ) y) (am zm) nx).is r:=by
  intro r hr
  unfold Zx
  simp only[if_true,hu,hz,hi,h4,h6]
  rw[if_pos hc]
  exact hr
 rcases vM h7 with ⟨id,s',len,hp,h8⟩ | ⟨_,h8⟩
 ·obtain⟨kd,sh,v,hb,h9⟩:=x7 h8
  cases kd with
  | box=>exact (show BadN 121 from h9).elim
  | dead=>exact (show BadN 123 from h9).elim
  | lp k ps x y=>exact (show BadN 123 from h9).elim
  | mp=>exact (show BadN 123 from h9).elim
  | row et' =>
   obtain⟨h10,h11⟩:=ze h9
   obtain⟨h12,h13⟩:=zd.1 h11
   simp only[za] at h10
   obtain⟨q1,q2,q3,q4,q5⟩:=h10
   obtain⟨n1,f0,hf,hf'⟩:=qp q5
   obtain⟨c',g,h14,h15,h16⟩:=WQ h13
   rw[hp] at hx
   have h17:upB id .dead sh .unk zm fun zm=>nwB (.row et) (.arr (len + k) s) c' zm nx fun zm nx'=>K (.row nx s (len + k)) zm nx' [id] rd:=by
    rw[VU,xa] at h14
    rw[VU]; exact h14
   refine Out.upnew (v:=.row nx s (len + k)) (vq.1 q4) h17 (Nat.le_of_ble_eq_true q1) (jM (e:=⟨.row nx s (len + k),[(id,⟨.dead,sh,.unk⟩)],[⟨.row et,.arr (len + k) s,.arr (len + k) (wv len f0 f)⟩],rd⟩) ho (hY _ ?_)) ?_
   ·rw[←hx]
    show (Xi et (.row id s' len) s k f rd (am zm) nx).is _
    simp only[Xi,zL hb,KBlk.b,hf,Zl]
    rw[if_pos ⟨q2,zP q3,q4⟩]
    exact qg h12
   ·refine⟨Imp.refl _,rfl,rfl,rfl,fun M n i b hb'=>?_⟩
    unfold put xv at hb' ⊢
    simp only[List.length_cons,List.length_nil] at hb' ⊢
    by_cases hin:n≤i∧i < n + (0 + 1)
    ·rw[if_pos hin] at hb' ⊢
     obtain rfl:i=n:=by omega
     simp only[Nat.sub_self,List.getElem?_cons_zero] at hb' ⊢
     cases hb'
     refine⟨_,rfl,.inr ⟨rfl,rfl,?_,fun h=>(by cases h)⟩⟩
     rw[h15]
     exact zdD (h0:=fun i=>(z7 (0 + i) v).v) (fun i hi=>by
      rw[h16 i hi]
      by_cases hl:i < len
      ·rw[if_pos hl,if_pos hl]
      ·rw[if_neg hl,if_neg hl,h5 _ (by omega)]) (fun i hi=>by rw[hf',Nat.zero_add])
    ·rw[if_neg hin] at hb' ⊢
     exact⟨b,hb',BImp.refl b⟩
 rcases vJ h8 with ⟨hp,h8⟩ | ⟨_,h8⟩
 ·obtain⟨h12,h13⟩:=zd.1 h8
  obtain⟨c',g,h14,h15,h16⟩:=WQ h13
  rw[hp] at hx
  refine Out.new (v:=.row nx s k) h14 (jM (e:=⟨.row nx s (0 + k),[],[⟨.row et,.arr (0 + k) s,.arr (0 + k) (wv 0 (fun _=>.unk) f)⟩],rd⟩) ho (hY _ ?_)) ?_
  ·rw[←hx]
   show (Xi et .nils s k f rd (am zm) nx).is _
   simp only[Xi,Zl]
   exact qg h12
  ·rw[Nat.zero_add,zhL]
   refine EImp.new (Imp.refl _) (.inr ⟨rfl,rfl,?_,fun h=>(by cases h)⟩)
   show Imp _ c'.v
   rw[h15]
   have h17:=zdD (len:=0) (k:=k) (f0:=fun _=>.unk) (f:=f) (g:=g) (h0:=fun _=>.unk) (fun i hi=>by
    rw[h16 i hi,if_neg (by omega),if_neg (by omega),h5 _ (by omega)]) (fun i hi=>by omega)
   rw[Nat.zero_add] at h17 ⊢
   exact h17
 rcases vA h8 with ⟨u,clip,s',off0,len,c0,hp,h8⟩ | ⟨_,h8⟩
 ·obtain⟨h9,h10⟩:=ze h8
  obtain⟨h12,h13⟩:=zd.1 h10
  rw[za] at h9
  obtain⟨rfl,q1⟩:=h9
  obtain⟨c',g,h14,h15,h16⟩:=WQ h13
  rw[xa] at h14
  rw[hp] at hx
  refine Out.new (v:=.row nx s (len + k)) h14 (jM (e:=⟨.row nx s (len + k),[],[⟨.row et,.arr (len + k) s,.arr (len + k) (wv len (fun i=>c0.v.step (.idx (off0 + i))) f)⟩],rd⟩) ho (hY _ ?_)) ?_
  ·rw[←hx]
   show (Xi et (.ro u true s' len fun i=>c0.v.step (.idx (off0 + i))) s k f rd (am zm) nx).is _
   simp only[Xi,q1,if_true,Zl]
   exact qg h12
  ·refine EImp.new (Imp.refl _) (.inr ⟨rfl,rfl,?_,fun h=>(by cases h)⟩)
   show Imp _ c'.v
   rw[h15]
   exact zdD (h0:=fun i=>(z7 (off0 + i) c0).v) (fun i hi=>by
    rw[h16 i hi]
    by_cases hl:i < len
    ·rw[if_pos hl,if_pos hl]
    ·rw[if_neg hl,if_neg hl,h5 _ (by omega)]) (fun i hi=>by rw[xY])
 rcases vz h8 with ⟨id,p,s',off0,len,cp,hp,h8⟩ | ⟨_,h8⟩
 ·obtain⟨cap,rfl,h9⟩:=xz h8
  obtain⟨kd,sh,v,hb,h10⟩:=x7 h9
  rw[xS] at h10
  obtain⟨h11,h12⟩:=ze h10
  simp only[za] at h11
  obtain⟨q1,q2,q3,hpo,q5⟩:=h11
  obtain⟨N,f0,hf,hf'⟩:=qp q5
  have hN:arZ (xV p v)=N:=QD q5 hf
  have hf2:=hf
  rw[vl p v hpo] at hf2
  rw[hp] at hx
  cases hc:Nat.ble (Nat.add len k) cap with
  | true =>
   rw[hc] at h12
   obtain⟨h13,h14⟩:=ze (show zsd lo zm nx K off k c rd id p s' off0 len cap kd sh v (xV p v) from h12)
   rw[za,hN] at h13
   rw[xa] at h14
   obtain⟨c',h15,h16⟩:=zgU h14 hf fun i hi=>h5 i hi
   obtain⟨v',h17,h18⟩:=qV _ _ _ _ h15
   rw[xa] at h17
   refine Out.up h17 (Nat.le_of_ble_eq_true h13.1) (jM (e:=⟨.sl id p s' off0 (len + k) (some cap),[(id,⟨kd,sh,v'.v⟩)],[],rd⟩) ho (hY _ ?_)) (EImp.refl _)
   rw[←hx]
   show (Xi et (.sl id p s' off0 len (some cap)) s k f rd (am zm) nx).is _
   simp only[Xi,zL hb,KBlk.b,hf2]
   rw[if_pos ⟨by rw[xp]; exact q1,q2⟩,if_pos (show Nat.ble (len + k) cap=true from hc),w8,Wc,h18,h16]
   exact qg h13.2
  | false =>
   rw[hc] at h12
   obtain⟨h13,h14⟩:=ze (show zsc et s z zm nx K off k c rd id off0 len (xV p v) from h12)
   obtain⟨c',g,h14,h15,h16⟩:=WQ h14
   rw[xa] at h14
   refine Out.new (v:=.row nx s (len + k)) h14 (jM (e:=⟨.row nx s (len + k),[],[⟨.row et,.arr (len + k) s,.arr (len + k) (wv len (fun i=>f0 (off0 + i)) f)⟩],id::rd⟩) ho (hY _ ?_)) ?_
   ·rw[←hx]
    show (Xi et (.sl id p s' off0 len (some cap)) s k f rd (am zm) nx).is _
    simp only[Xi,zL hb,KBlk.b,hf2]
    rw[if_pos ⟨by rw[xp]; exact q1,q2⟩,if_neg (show ¬ Nat.ble (len + k) cap=true by rw[show Nat.ble (len + k) cap=false from hc]; simp),Zl]
    exact qg (by rw[Bool.and_eq_true]; exact⟨q3,h13⟩)
   ·refine EImp.new (Imp.refl _) (.inr ⟨rfl,rfl,?_,fun h=>(by cases h)⟩)
    show Imp _ c'.v
    rw[h15]
    exact zdD (h0:=fun i=>(z7 (off0 + i) (xV p v)).v) (fun i hi=>by
     rw[h16 i hi]
     by_cases hl:i < len
     ·rw[if_pos hl,if_pos hl]
     ·rw[if_neg hl,if_neg hl,h5 _ (by omega)]) (fun i hi=>hf' _)
 ·exact h8.elim
def cpS (P:Program) (t:TypeId):Option Nat:=match P.underlying t with
 | some (.slice et)=>match P.info? et with
  | some i=>some i.size
  | none=>none
 | _=>none
def zGv (lo z:Nat) (zm:KZ) (nx:Nat) (K:KT) (y:KV) (id:Nat) (p:List Step) (e:Shape) (off len:Nat) (_:Option Nat):Prop :=
 oB zm id fun kd sh v=>fV (xV p v) fun c0=>QC e y zm fun e' offs k c rd=>chk (nd (Nat.ble lo id) (nd (qQ kd) (nd (e'.beq e) (nd (Nat.beq z e.size) (nd (jX p v) (arK c0)))))) 128
  (fN (min k len) fun cnt=>zuc c0 off cnt c offs fun c'=>Jm c' p v fun v'=>upB id kd sh v' zm fun zm=>K (.int .i64 (.ofNat cnt)) zm nx [id] rd)
def zgV (lo:Nat) (P:Program) (t:TypeId) (x y:KV) (zm:KZ) (nx:Nat) (K:KT):Prop:=os 129 (fun z=>Je (zGv lo z zm nx K y) (BadN 130) x) (cpS P t)
theorem znY {t t':TypeId}{x y:Operand}(ho:o.op=.call ⟨.builtin .copy,#[x,y],#[t,t']⟩) (h:zgV lo P t (kev τ x) (kev τ y) zm nx K):Out P B o τ lo zm nx K:=by
 have hx:=zT τ x
 have hy:=zT τ y
 obtain⟨z,h1,h2⟩:=xz h
 obtain⟨et,i,hu,hi,rfl⟩:∃ et i,P.underlying t=some (.slice et)∧P.info? et=some i∧z=i.size:=by
  unfold cpS at h1
  split at h1
  ·split at h1
   ·cases h1; exact⟨_,_,‹_›,‹_›,rfl⟩
   ·cases h1
  ·cases h1
 rcases vz h2 with ⟨id,p,e,off,len,cap,hp,h3⟩ | ⟨_,h3⟩
 ·obtain⟨kd,sh,v,hb,h4⟩:=x7 h3
  rw[xS] at h4
  obtain⟨e',offs,k,c,rd,f,h5,h6,h7⟩:=WO h4
  obtain⟨h8,h9⟩:=ze h5
  simp only[za] at h8
  obtain⟨q1,q2,q3,q4,hpo,q5⟩:=h8
  rw[xa] at h9
  obtain⟨N,f0,hf,_⟩:=qp q5
  obtain⟨c',h10,h11⟩:=zgU h9 hf fun i hi=>h7 i (by omega)
  obtain⟨v',h12,h13⟩:=qV _ _ _ _ h10
  rw[hp] at hx
  rw[hy] at h6
  rw[vl p v hpo] at hf
  refine Out.up h12 (Nat.le_of_ble_eq_true q1) (zdt (e:=⟨.int .i64 (min k len:Nat),[(id,⟨kd,sh,v'.v⟩)],[],rd⟩) ho ?_) (EImp.refl _)
  unfold zdu
  rw[hu,←hx]
  simp only[hi,zoB,zL hb,KBlk.b,hf,h6]
  rw[if_pos ⟨by rw[xp]; exact q2,q3,zP q4⟩,w8,Wc,h13,h11]
  rfl
 ·exact h3.elim
end
end
end Go.K
