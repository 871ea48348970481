/- Single operations: addresses, parts, numbers, tests. No condition. -/
import Derived.Test.YtkllahedaiddgaaGreatDoorB1
set_option linter.unusedSimpArgs false
set_option linter.unusedVariables false
namespace Go.Ab
open Go.RowKit
variable [Gl]
variable {P:Program}{B:Nat}{o:Oper}{ρ:Operand→V}{m:Mem}{n:Nat}
omit [Gl] in
theorem add_lit (b off k:Nat):(⟨b,off,none⟩:Addr).add k=⟨b,off + k,none⟩:=by unfold Addr.add; split<;>simp_all
theorem qC {x:Operand}(ho:o.op=.nilCheck x) (hx:(∃ id p s,ρ x=.ptr id p s)∨(∃ u s c,ρ x=.ref u s c)∨(∃ f c,ρ x=.fn f c∧f < 2147483648)):OpSem P B o ρ m n (zk (ρ x)) :=
 OpSem.pure fun C M ρc _ _ hrel=>by
  have h0:=hrel x (by simp [ho,Op.operands])
  refine⟨ρc x,?_,h0⟩
  rcases hx with ⟨id,p,s,hx⟩ | ⟨u,s,c,hx⟩ | ⟨f,c,hx,hlt⟩<;>rw[hx] at h0
  ·obtain⟨_,b,off,_,_,h3⟩:=h0
   have h3':ρc x=.pointer (some ⟨b,off,none⟩):=h3
   simp [execOp,ho,h3']
  ·obtain⟨b,off,h3,_⟩:=h0
   have h3':ρc x=.pointer (some ⟨b,off,none⟩):=h3
   simp [execOp,ho,h3']
  ·obtain⟨cs,h3,_⟩:=h0
   have h3':ρc x=.func (.func (Vu f)) cs.fs cs.cs:=(show ρc x=cs.vw C.w from h3).trans (cs.vw_fn hlt _)
   simp [execOp,ho,h3']
omit [Gl] in
theorem XI {st:TypeId}{fs:Array Field}{fd:Field}{f b off:Nat}{i:TypeInfo}{s s':Shape}(hu:P.underlying st=some (.struct fs)) (hf:fs[f]?=some fd) (hi:P.info? fd.type=some i) (hz:i.size≠0)
  (hs:s.fld f=some (fd.offset,s')) (w:World):(Instr.fieldAt st (.pointer (some ⟨b,off,none⟩)) f).run P w=.ok (.pointer (some ⟨b,off + fd.offset,none⟩)) w:=by
 simp [Instr.fieldAt,run_underlying hu,hf,Instr.sureAddr,fieldPlace,zN hi,hz,add_lit]
theorem JM {st:TypeId}{x:Operand}{f id:Nat}{p:List Step}{s s':Shape}{fs:Array Field}{fd:Field}{i:TypeInfo}(ho:o.op=.fieldAddr st x f) (hx:ρ x=.ptr id p s)
  (hu:P.underlying st=some (.struct fs)) (hf:fs[f]?=some fd) (hi:P.info? fd.type=some i) (hz:i.size≠0) (hs:s.fld f=some (fd.offset,s')):OpSem P B o ρ m n (zk (.ptr id (p++[.fld f]) s')) :=
 OpSem.pure fun C M ρc _ _ hrel=>by
  have h0:=hrel x (by simp [ho,Op.operands])
  rw[hx] at h0
  obtain⟨hal,b,off,h1,h2,h3⟩:=h0
  have h3':ρc x=.pointer (some ⟨b,off,none⟩):=h3
  refine⟨.pointer (some ⟨b,off + fd.offset,none⟩),by simp [execOp,ho,h3',XI hu hf hi hz hs],hal,b,off + fd.offset,h1,Shape.path_snoc p h2 hs,rfl⟩
theorem Zo {st:TypeId}{x:Operand}{f:Nat}{u:Bool}{c:V}{s s':Shape}{fs:Array Field}{fd:Field}{i:TypeInfo}(ho:o.op=.fieldAddr st x f) (hx:ρ x=.ref u s c)
  (hu:P.underlying st=some (.struct fs)) (hf:fs[f]?=some fd) (hi:P.info? fd.type=some i) (hz:i.size≠0) (hs:s.fld f=some (fd.offset,s')):OpSem P B o ρ m n (zk (.ref u s' (c.fld f))) :=
 OpSem.pure fun C M ρc _ _ hrel=>by
  have h0:=hrel x (by simp [ho,Op.operands])
  rw[hx] at h0
  obtain⟨b,off,h1,h2,h3⟩:=h0
  have h3':ρc x=.pointer (some ⟨b,off,none⟩):=h1
  refine⟨.pointer (some ⟨b,off + fd.offset,none⟩),by simp [execOp,ho,h3',XI hu hf hi hz hs],b,off + fd.offset,rfl,h2,R.step (x:=.fld f) h3 hs⟩
omit [Gl] in
theorem j2 {t elem:TypeId}{len b off:Nat}{k:IntKind}{j:Int}{i:TypeInfo}(hu:P.underlying t=some (.array len elem)) (hi:P.info? elem=some i) (h:0≤j∧j < len) (w:World) :
  (Instr.indexAt t (.pointer (some ⟨b,off,none⟩)) (.int k j)).run P w=.ok (.pointer (some ⟨b,off + j.toNat * i.size,none⟩)) w:=by
 simp [Instr.indexAt,asIntOf,run_underlying hu,Instr.sureAddr,h,zN hi,add_lit]
omit [Gl] in
theorem vy {t elem:TypeId}{len cap b off:Nat}{k:IntKind}{j:Int}{i:TypeInfo}(hu:P.underlying t=some (.slice elem)) (hi:P.info? elem=some i) (h:0≤j∧j < len) (w:World) :
  (Instr.indexAt t (.slice (some ⟨b,off,none⟩) len cap) (.int k j)).run P w=.ok (.pointer (some ⟨b,off + j.toNat * i.size,none⟩)) w:=by
 simp [Instr.indexAt,asIntOf,run_underlying hu,h,zN hi,add_lit]
omit [Gl] in
theorem jI {j:Int}{n:Nat}(h:0≤j∧j < n):j.toNat < n:=by omega
theorem ye {t elem:TypeId}{x ix:Operand}{id len:Nat}{p:List Step}{e:Shape}{i:TypeInfo}{k:IntKind}{j:Int}(ho:o.op=.indexAddr t x ix) (hx:ρ x=.ptr id p (.arr len e)) (hix:ρ ix=.int k j)
  (hu:P.underlying t=some (.array len elem)) (hi:P.info? elem=some i) (hz:i.size=e.size) (h:0≤j∧j < len):OpSem P B o ρ m n (zk (.ptr id (p++[.idx j.toNat]) e)) :=
 OpSem.pure fun C M ρc _ _ hrel=>by
  have h0:=hrel x (by simp [ho,Op.operands])
  have h9:=hrel ix (by simp [ho,Op.operands])
  rw[hx] at h0; rw[hix] at h9
  have h9':ρc ix=.int k j:=h9
  obtain⟨hal,b,off,h1,h2,h3⟩:=h0
  have h3':ρc x=.pointer (some ⟨b,off,none⟩):=h3
  refine⟨_,by simp [execOp,ho,h3',h9',j2 hu hi h]; rfl,hal,b,off + j.toNat * e.size,h1,Shape.path_snoc p h2 (by simp [Shape.step,jI h]),by rw[hz]; rfl⟩
theorem Zp {t elem:TypeId}{x ix:Operand}{len:Nat}{u:Bool}{c:V}{e:Shape}{i:TypeInfo}{k:IntKind}{j:Int}(ho:o.op=.indexAddr t x ix) (hx:ρ x=.ref u (.arr len e) c) (hix:ρ ix=.int k j)
  (hu:P.underlying t=some (.array len elem)) (hi:P.info? elem=some i) (hz:i.size=e.size) (h:0≤j∧j < len):OpSem P B o ρ m n (zk (.ref u e (c.step (.idx j.toNat)))) :=
 OpSem.pure fun C M ρc _ _ hrel=>by
  have h0:=hrel x (by simp [ho,Op.operands])
  have h9:=hrel ix (by simp [ho,Op.operands])
  rw[hx] at h0; rw[hix] at h9
  have h9':ρc ix=.int k j:=h9
  obtain⟨b,off,h1,h2,h3⟩:=h0
  have h3':ρc x=.pointer (some ⟨b,off,none⟩):=h1
  refine⟨_,by simp [execOp,ho,h3',h9',j2 hu hi h]; rfl,b,off + j.toNat * e.size,by rw[hz]; rfl,h2,R.step (x:=.idx j.toNat) h3 (by simp [Shape.step,jI h])⟩
theorem Zq {t elem:TypeId}{x ix:Operand}{id len:Nat}{e:Shape}{i:TypeInfo}{k:IntKind}{j:Int}{blk:Blk}(ho:o.op=.indexAddr t x ix) (hx:ρ x=.row id e len) (hix:ρ ix=.int k j)
  (hm:m id=some blk) (hal:blk.alive=true)
  (hu:P.underlying t=some (.slice elem)) (hi:P.info? elem=some i) (hz:i.size=e.size) (h:0≤j∧j < len):OpSem P B o ρ m n ⟨.ptr id [.idx j.toNat] e,[],[],[id]⟩ :=
 OpSem.pure fun C M ρc hs hr hrel=>by
  have h0:=hrel x (by simp [ho,Op.operands])
  have h9:=hrel ix (by simp [ho,Op.operands])
  rw[hx] at h0; rw[hix] at h9
  have h9':ρc ix=.int k j:=h9
  obtain⟨hal',⟨a,c,h1⟩,h2,h3⟩:=h0
  have h3':ρc x=.slice a len c:=by rw[←h1]; exact h3
  have hM:M id=some blk:=by rw[hr id (by simp),hm]
  have hb:=hs.mem id blk hM
  have:∃ g,a=some ⟨g,0,none⟩:=by
   unfold BR at hb; unfold Blk.alive at hal
   cases hkd:blk.k<;>simp only[hkd] at hb hal
   ·obtain⟨g,cur,e',h4,_⟩:=hb
    rw[h1] at h4; cases h4
   ·obtain⟨n1,s1,cells,h4,h5,h6,_⟩:=hb
    rcases h6.2 with ⟨h7,h8⟩ | ⟨g,cap,cur,hv,_⟩
    ·rw[h1] at h7; cases h7; omega
    ·rw[h1] at hv; cases hv; exact⟨g,rfl⟩
   ·simp at hal
   ·simp at hal
   ·simp at hal
  obtain⟨g,rfl⟩:=this
  refine⟨_,by simp [execOp,ho,h3',h9',vy hu hi h]; rfl,hal',g,0 + j.toNat * e.size,by rw[h1]; rfl,by rw[h2]; simp [Shape.path,Shape.step,jI h],by rw[hz]; simp; rfl⟩
theorem Xa {t elem:TypeId}{x ix:Operand}{id off len:Nat}{p:List Step}{cap:Option Nat}{e:Shape}{i:TypeInfo}{k:IntKind}{j:Int}(ho:o.op=.indexAddr t x ix) (hx:ρ x=.sl id p e off len cap) (hix:ρ ix=.int k j)
  (hu:P.underlying t=some (.slice elem)) (hi:P.info? elem=some i) (hz:i.size=e.size) (h:0≤j∧j < len):OpSem P B o ρ m n (zk (.ptr id (p++[.idx (off + j.toNat)]) e)) :=
 OpSem.pure fun C M ρc _ _ hrel=>by
  have h0:=hrel x (by simp [ho,Op.operands])
  have h9:=hrel ix (by simp [ho,Op.operands])
  rw[hx] at h0; rw[hix] at h9
  have h9':ρc ix=.int k j:=h9
  obtain⟨hal,ad,c,o1,n1,h1,h2,h3,h5,h7,h4⟩:=h0
  have hlt:=jI h
  rcases h4 with h4 | ⟨b,h4,h6⟩
  ·omega
  subst h6
  have h1':ρc x=.slice (some ⟨b,o1 + off * e.size,none⟩) len c:=h1
  refine⟨_,by simp [execOp,ho,h1',h9',vy hu hi h]; rfl,hal,b,o1 + (off + j.toNat) * e.size,h4,Shape.path_snoc p h5 (by simp [Shape.step]; omega),?_⟩
  rw[hz,Nat.add_mul,Nat.add_assoc]; rfl
theorem Xb {t elem:TypeId}{x ix:Operand}{len:Nat}{u clip:Bool}{f:Nat→V}{e:Shape}{i:TypeInfo}{k:IntKind}{j:Int}(ho:o.op=.indexAddr t x ix) (hx:ρ x=.ro u clip e len f) (hix:ρ ix=.int k j)
  (hu:P.underlying t=some (.slice elem)) (hi:P.info? elem=some i) (hz:i.size=e.size) (h:0≤j∧j < len):OpSem P B o ρ m n (zk (.ref u e (f j.toNat))) :=
 OpSem.pure fun C M ρc _ _ hrel=>by
  have h0:=hrel x (by simp [ho,Op.operands])
  have h9:=hrel ix (by simp [ho,Op.operands])
  rw[hx] at h0; rw[hix] at h9
  have h9':ρc ix=.int k j:=h9
  obtain⟨a,c,h1,h2,h3,h4⟩:=h0
  have h1':ρc x=.slice a len c:=h1
  have hlt:=jI h
  rcases h4 with h4 | ⟨b,o1,rfl,h5,h6⟩
  ·omega
  ·exact⟨_,by simp [execOp,ho,h1',h9',vy hu hi h]; rfl,b,o1 + j.toNat * e.size,by rw[hz]; rfl,h5,h6 _ hlt⟩
def V.bnd (d:Int) (x:Option V):Option Int :=
 match x with
 | none=>some d
 | some (.int _ n)=>some n
 | some _=>none
omit [Gl] in
theorem zdf {C:Ctx}{M:Nat→Option Blk}{ρc:Operand→Value}{x:Option Operand}{d l:Int}(h:V.bnd d (x.map ρ)=some l) (hr:∀ y,x=some y→R C (ρ y) (.val (ρc y))):(x.map ρc=none∧l=d)∨∃ k,x.map ρc=some (.int k l):=by
 cases x with
 | none=>simp only[Option.map_none,V.bnd,Option.some.injEq] at h; exact .inl ⟨rfl,h.symm⟩
 | some y =>
  have h1:=hr y rfl
  simp only[Option.map_some] at h ⊢
  cases hy:ρ y<;>rw[hy] at h<;>simp only[V.bnd,Option.some.injEq,reduceCtorEq] at h
  rename_i k n
  subst h
  rw[hy] at h1
  have h2:ρc y=.int k n:=h1
  exact .inr ⟨k,by rw[h2]⟩
def V.nth:V→Nat→Option V
 | .cons h _,0=>some h
 | .cons _ t,k + 1=>t.nth k
 | _,_=>none
omit [Gl] in
theorem R.nth {C:Ctx}:∀(k:Nat) (l:V) {vs:List Value}{v:V},R C l (.list vs)→l.nth k=some v→∃ x,vs[k]?=some x∧R C v (.val x)
 | 0,.cons h t,vs,v,hr,hn=>by
  obtain⟨x,xs,rfl,h1,_⟩:=hr
  simp only[V.nth,Option.some.injEq] at hn
  subst hn
  exact⟨x,rfl,h1⟩
 | k + 1,.cons h t,vs,v,hr,hn=>by
  obtain⟨x,xs,rfl,_,h2⟩:=hr
  exact R.nth k t h2 hn
 | k,.nl,_,_,_,hn | k,.int ..,_,_,_,hn | k,.bool _,_,_,_,hn | k,.str _,_,_,_,hn | k,.arr ..,_,_,_,hn | k,.ptr ..,_,_,_,hn | k,.row ..,_,_,_,hn
 | k,.sl ..,_,_,_,hn | k,.ref ..,_,_,_,hn | k,.nilp,_,_,_,hn | k,.nils,_,_,_,hn | k,.nilf,_,_,_,hn | k,.ro ..,_,_,_,hn | k,.fn ..,_,_,_,hn | k,.tup _,_,_,_,hn
 | k,.unk,_,_,_,hn=>by cases k<;>simp [V.nth] at hn
theorem YV {x:Operand}{k:Nat}{l v:V}(ho:o.op=.extract x k) (hx:ρ x=.tup l) (hl:l.nth k=some v):OpSem P B o ρ m n (zk v) :=
 OpSem.pure fun C M ρc _ _ hrel=>by
  have h0:=hrel x (by simp [ho,Op.operands])
  rw[hx] at h0
  obtain⟨cs,h1,h2⟩:=h0
  obtain⟨y,h3,h4⟩:=R.nth k l h2 hl
  rw[Array.getElem?_toList] at h3
  exact⟨y,by simp [execOp,ho,h1,Instr.extract,h3],h4⟩
noncomputable def bin (op:BinOp) (k:IntKind) (a b:Int):V :=
 match op with
 | .add=>.int k (zff k a b)
 | .sub=>.int k (VD k a b)
 | .mul=>.int k (zfg k a b)
 | .quo=>.int k (zfi k a b)
 | .rem=>.int k (a.tmod b)
 | .and=>.int k (zk7 k a b)
 | .or=>.int k (orI k a b)
 | .xor=>.int k (zgw k a b)
 | .andNot=>.int k (k.wrap (BitVec.ofInt k.bits a &&& ~~~ BitVec.ofInt k.bits b).toNat)
 | .eql=>.bool (eqI a b)
 | .neq=>.bool (!eqI a b)
 | .lss=>.bool (ltI a b)
 | .leq=>.bool (leI a b)
 | .gtr=>.bool (ltI b a)
 | .geq=>.bool (leI b a)
 | _=>.unk
def Qq (op:BinOp) (b:Int):Prop :=
 match op with
 | .quo | .rem=>b≠0
 | .shl | .shr=>False
 | _=>True
omit [Gl] in
theorem zk3 (op:BinOp) (t:TypeId) (k:IntKind) (a b:Int) (h:Qq op b) (C:Ctx) (w:World):∃ val,(binOp op t (.int k a) (.int k b)).run P w=.ok val w∧R C (bin op k a b) (.val val):=by
 cases op<;>simp [Qq] at h<;>refine⟨_,by simp [binOp,Op.intArith,Op.intDiv,Op.intBits,Op.intCmp,h]; rfl,?_⟩<;>first
  | rfl
  | (simp only[bin,zdi,zdk,zdj,zdm,zdl,zgv,Wm,Xd,vA,xR]; rfl)
  | (simp [bin,Xd,vA,xR,zdi,zdk,zdj,zdm,zdl,zgv,Wm]; rfl)
omit [Gl] in
theorem jk (op:BinOp) (t:TypeId) (x y:Operand) (k k':IntKind) (a b:Int) (w:World):(eqGuard op t x y (.int k a) (.int k' b)).run P w=.ok () w:=by
 cases op<;>simp [eqGuard]
theorem Wh {op:BinOp}{t t':TypeId}{x y:Operand}{k:IntKind}{a b:Int}(ho:o.op=.binOp op t x y t') (hx:ρ x=.int k a) (hy:ρ y=.int k b) (h:Qq op b):OpSem P B o ρ m n (zk (bin op k a b)) :=
 OpSem.pure fun C M ρc _ _ hrel=>by
  have h0:=hrel x (by simp [ho,Op.operands])
  have h1:=hrel y (by simp [ho,Op.operands])
  rw[hx] at h0; rw[hy] at h1
  have h0':ρc x=.int k a:=h0
  have h1':ρc y=.int k b:=h1
  obtain⟨val,h2,h3⟩:=zk3 (P:=P) op t k a b h C C.w
  exact⟨val,by simp [execOp,ho,h0',h1',jk,h2],h3⟩
noncomputable def shift (op:BinOp) (k:IntKind) (a b:Int):V :=
 match op with
 | .shl=>.int k (zfh k a (min b.toNat k.bits))
 | .shr=>.int k (fdv a (2 ^ (min b.toNat k.bits)))
 | _=>.unk
theorem Qr {op:BinOp}{t t':TypeId}{x y:Operand}{k k':IntKind}{a b:Int}(ho:o.op=.binOp op t x y t') (hop:op=.shl∨op=.shr) (hx:ρ x=.int k a) (hy:ρ y=.int k' b) (h:0≤b):OpSem P B o ρ m n (zk (shift op k a b)) :=
 OpSem.pure fun C M ρc _ _ hrel=>by
  have h0:=hrel x (by simp [ho,Op.operands])
  have h1:=hrel y (by simp [ho,Op.operands])
  rw[hx] at h0; rw[hy] at h1
  have h0':ρc x=.int k a:=h0
  have h1':ρc y=.int k' b:=h1
  have hb:¬ b < 0:=by omega
  rcases hop with rfl | rfl
  ·exact⟨.int k (k.wrap (a * 2 ^ (min b.toNat k.bits))),by simp [execOp,ho,h0',h1',jk,binOp,Op.shift,hb],by show Value.int _ _=Value.int _ _; rw[zk9]⟩
  ·exact⟨.int k (a.fdiv (2 ^ (min b.toNat k.bits))),by simp [execOp,ho,h0',h1',jk,binOp,Op.shift,hb],by show Value.int _ _=Value.int _ _; rw[zqh,←Qy]; rfl⟩
theorem zgp {src dst:TypeId}{x:Operand}{k k':IntKind}{a:Int}(ho:o.op=.convert src dst x) (hx:ρ x=.int k a) (hu:P.underlying dst=some (.int k')) (hs:(P.underlying src).isSome):OpSem P B o ρ m n (zk (.int k' (VF k' a))) :=
 OpSem.pure fun C M ρc _ _ hrel=>by
  have h0:=hrel x (by simp [ho,Op.operands])
  rw[hx] at h0
  have h0':ρc x=.int k a:=h0
  obtain⟨d,hd⟩:=Option.isSome_iff_exists.1 hs
  exact⟨.int k' (k'.wrap a),by simp [execOp,ho,h0',convert,run_underlying hu,run_underlying hd,Conv.intToInt],by show Value.int _ _=Value.int _ _; rw[zla]⟩
theorem zk4 {t:TypeId}{x:Operand}{b:Bool}(ho:o.op=.unOp .not t x) (hx:ρ x=.bool b):OpSem P B o ρ m n (zk (.bool !b)) :=
 OpSem.pure fun C M ρc _ _ hrel=>by
  have h0:=hrel x (by simp [ho,Op.operands])
  rw[hx] at h0
  have h0':ρc x=.bool b:=h0
  exact⟨.bool !b,by simp [execOp,ho,h0',Op.unary],rfl⟩
noncomputable def unary (op:UnOp) (k:IntKind) (a:Int):V :=
 match op with
 | .neg=>.int k (k.wrap (0 - a))
 | .xor=>.int k (zgx k a)
 | _=>.unk
theorem Qs {op:UnOp}{t:TypeId}{x:Operand}{k:IntKind}{a:Int}(ho:o.op=.unOp op t x) (hop:op=.neg∨op=.xor) (hx:ρ x=.int k a):OpSem P B o ρ m n (zk (unary op k a)) :=
 OpSem.pure fun C M ρc _ _ hrel=>by
  have h0:=hrel x (by simp [ho,Op.operands])
  rw[hx] at h0
  have h0':ρc x=.int k a:=h0
  rcases hop with rfl | rfl
  ·exact⟨_,by simp [execOp,ho,h0',Op.unary,Op.intArith]; rfl,by simp [unary]; rfl⟩
  ·exact⟨.int k (k.wrap (BitVec.ofInt k.bits (if k.signed then -1 else k.max) ^^^ BitVec.ofInt k.bits a).toNat),by simp [execOp,ho,h0',Op.unary,Op.intBits],by show Value.int _ _=Value.int _ _; rw[zk8]⟩
def V.len:V→Option Nat
 | .row _ _ n=>some n
 | .sl _ _ _ _ len _=>some len
 | .ro _ _ _ len _=>some len
 | .nils=>some 0
 | _=>none
omit [Gl] in
theorem R.len {C:Ctx}{v:V}{x:Value}{k:Nat}(h:R C v (.val x)) (hl:v.len=some k):∃ a c,x=.slice a k c:=by
 cases v<;>simp [V.len] at hl
 ·obtain⟨_,⟨a,c,h1⟩,_,h3⟩:=h
  subst hl
  exact⟨a,c,by rw[←h1]; exact h3⟩
 ·obtain⟨_,ad,c,o1,n1,h3,_⟩:=h
  subst hl
  exact⟨ad,c,h3⟩
 ·subst hl; exact⟨none,0,h⟩
 ·obtain⟨a,c,h1,_⟩:=h
  subst hl
  exact⟨a,c,h1⟩
theorem zk5 {t e:TypeId}{x:Operand}{k:Nat}(ho:o.op=.call { callee:=.builtin .len,args:=#[x],argTypes:=#[t] }) (hx:(ρ x).len=some k) (hu:P.underlying t=some (.slice e)):OpSem P B o ρ m n (zk (.int .i64 k)) :=
 OpSem.pure fun C M ρc _ _ hrel=>by
  have h0:=hrel x (by simp [ho,Op.operands,Call.operands])
  obtain⟨a,c,h1⟩:=R.len h0 hx
  exact⟨.int .i64 k,by simp [execOp,ho,resolve,invoke,builtin,h1,Builtin.len_,run_underlying hu,goInt],rfl⟩
theorem YW {t:TypeId}{x:Operand}{s:ByteArray}(ho:o.op=.call { callee:=.builtin .len,args:=#[x],argTypes:=#[t] }) (hx:ρ x=.str s) (hu:P.underlying t=some .string):OpSem P B o ρ m n (zk (.int .i64 s.size)) :=
 OpSem.pure fun C M ρc _ _ hrel=>by
  have h0:=hrel x (by simp [ho,Op.operands,Call.operands])
  rw[hx] at h0
  have h1:ρc x=.string s:=h0
  exact⟨.int .i64 s.size,by simp [execOp,ho,resolve,invoke,builtin,h1,Builtin.len_,run_underlying hu,goInt],rfl⟩
theorem YX {t e:TypeId}{x:Operand}{k:Nat}(ho:o.op=.call { callee:=.builtin .len,args:=#[x],argTypes:=#[t] }) (hu:P.underlying t=some (.array k e)):OpSem P B o ρ m n (zk (.int .i64 k)) :=
 OpSem.pure fun C M ρc _ _ _=>⟨.int .i64 k,by simp [execOp,ho,resolve,invoke,builtin,Builtin.len_,run_underlying hu,goInt],rfl⟩
def mkL:List V→V
 | []=>.nl
 | v::l=>.cons v (mkL l)
omit [Gl] in
theorem R.mkL {C:Ctx}{ρc:Operand→Value}:∀(l:List Operand),(∀ x∈l,R C (ρ x) (.val (ρc x)))→R C (Ab.mkL (l.map ρ)) (.list (l.map ρc))
 | [],_=>rfl
 | x::l,h=>⟨ρc x,l.map ρc,rfl,h x (by simp),R.mkL l fun y hy=>h y (by simp [hy])⟩
theorem Zr {f:FuncId}{cap:Array Operand}(ho:o.op=.makeFunc (.func f) #[] cap) (hf:f < 1073741824):OpSem P B o ρ m n (zk (.fn f (mkL (cap.toList.map ρ)))) :=
 OpSem.pure fun C M ρc _ _ hrel=>by
  have:=R.mkL (ρ:=ρ) (C:=C) (ρc:=ρc) cap.toList fun x hx=>hrel x (by simp [ho,Op.operands]; simpa using hx)
  exact⟨.func (.func f) #[] (cap.map ρc),by simp [execOp,ho,Instr.makeFunc],FC.of hf (cap.map ρc),by rw[FC.vw_lt (Nat.lt_trans hf (by decide))]; exact (FC.of_v hf _).symm,by rw[FC.of_l hf]; simpa using this,.lt (Nat.lt_trans hf (by decide))⟩
omit [Gl] in
theorem R.app_list {C:Ctx}{ρc:Operand→Value}:∀(l r:List Operand),(∀ x∈l++r,R C (ρ x) (.val (ρc x)))→R C (Ab.mkL (l.map ρ)) (.list (l.map ρc))∧R C (Ab.mkL (r.map ρ)) (.list (r.map ρc)):=fun l r h =>
 ⟨R.mkL l fun x hx=>h x (by simp [hx]),R.mkL r fun x hx=>h x (by simp [hx])⟩
omit [Gl] in
theorem R.fn0 {C:Ctx}{f:FuncId}{caps:V}{x:Value}(hf:f < 1073741824) (h:R C (.fn f caps) (.val x)):∃ cs:Array Value,x=.func (.func f) #[] cs∧R C caps (.list cs.toList):=by
 obtain⟨cs,h1,h2,_⟩:=h
 obtain⟨q1,q2,q3⟩:=cs.plain hf
 rw[q2] at h2
 have h1':x=.func (.func (Vu f)) cs.fs cs.cs:=(show x=cs.vw C.w from h1).trans (cs.vw_fn (Nat.lt_of_lt_of_le hf (by decide)) _)
 rw[q1,q3] at h1'
 exact⟨_,h1',h2⟩
omit [Gl] in
theorem R.fn1 {C:Ctx}{f:FuncId}{first rest:V}{x:Value}(hf:¬ f < 1073741824) (hf2:f < 2147483648) (h:R C (.fn f (.cons (.tup first) rest)) (.val x)):∃ fs cs:Array Value,x=.func (.func (Vu f)) fs cs∧R C first (.list fs.toList)∧R C rest (.list cs.toList):=by
 obtain⟨cs,h1,h2,_⟩:=h
 have hl:cs.l=.tuple cs.fs::cs.cs.toList:=by unfold FC.l; rw[if_neg hf,if_pos hf2]
 rw[hl] at h2
 obtain⟨y,ys,h3,⟨fs,h4,h5⟩,h6⟩:=h2
 cases h3
 cases h4
 exact⟨_,_,(show x=cs.vw C.w from h1).trans (cs.vw_fn hf2 _),h5,h6⟩
theorem Wi {f:FuncId}{a cap:Array Operand}(ho:o.op=.makeFunc (.func f) a cap) (hf:f < 1073741824):OpSem P B o ρ m n (zk (.fn (f + 1073741824) (.cons (.tup (mkL (a.toList.map ρ))) (mkL (cap.toList.map ρ))))) :=
 OpSem.pure fun C M ρc _ _ hrel=>by
  obtain⟨h1,h2⟩:=R.app_list (ρ:=ρ) (C:=C) (ρc:=ρc) a.toList cap.toList fun x hx=>hrel x (by simp [ho,Op.operands]; simpa using hx)
  have hf2:f + 1073741824 < 2147483648:=Nat.add_lt_add_right hf 1073741824
  let c:FC (f + 1073741824):=⟨a.map ρc,cap.map ρc,fun h=>absurd h (Nat.not_lt.2 (Nat.le_add_left _ _)),fun h=>absurd h (Nat.not_lt.2 (Nat.le_of_lt hf2))⟩
  have hl:c.l=.tuple (a.map ρc)::(cap.map ρc).toList:=by
   unfold FC.l
   rw[if_neg (Nat.not_lt.2 (Nat.le_add_left _ _)),if_pos hf2]
  refine⟨.func (.func f) (a.map ρc) (cap.map ρc),by simp [execOp,ho,Instr.makeFunc],c,?_,?_,.lt (Nat.lt_trans hf2 (by decide))⟩
  ·have:Vu (f + 1073741824)=f:=by unfold Vu; rw[Nat.add_mod_right]; exact Nat.mod_eq_of_lt hf
   show _=c.vw C.w
   rw[c.vw_fn hf2,this]
  ·rw[hl]
   exact⟨_,_,rfl,⟨a.map ρc,rfl,by simpa using h1⟩,by simpa using h2⟩
end Go.Ab
