/- What the row says of the program. No condition. -/
import Derived.Test.YtkllahedaiddgaaGreatDoorK21
import Derived.Deep.Slices
import Derived.OpenShut
import Derived.Test.YtkllahedaiddgaaGreatDoorUG5
import Derived.Test.YtkllahedaiddgaaGreatDoorChecked
import Derived.Test.YtkllahedaiddgaaGreatDoorRows
import Derived.Stop.Joined
import Derived.WalkKit
import Derived.JoinedOf
import Derived.SevenTiedAt
set_option linter.unusedSimpArgs false
set_option linter.unusedVariables false
namespace Go.K
open Go.Ab Go.RowKit Go.Y
noncomputable section
inductive Ty where
 | int (k:IntKind)
 | bool
 | nl
 | cons (a b:Ty)
 | ar (n:Nat) (e:Ty)
 | sl (e:Ty)
def Ty.sh:Ty→Shape
 | .int _=>.sc
 | .bool=>.sc
 | .nl=>.nl
 | .cons a b=>.cons a.sh b.sh
 | .ar n e=>.arr n e.sh
 | .sl _=>.sc
def Ty.ok (P:Program):Ty→(TypeId→Bool)×(List Field→Nat→Bool)
 | .int k=>(fun t=>match P.underlying t with
  | some (.int k')=>decide (k'=k)
  | _=>false,fun _ _=>false)
 | .bool=>(fun t=>match P.underlying t with
  | some .bool=>true
  | _=>false,fun _ _=>false)
 | .nl=>(fun t=>false,fun fs _=>fs.isEmpty)
 | .cons a b=>(fun t=>match P.underlying t with
  | some (.struct fs)=>(match fs.toList with
   | f::r=>decide (f.offset=0)&&(a.ok P).1 f.type&&decide (P.cellsOf f.type=a.sh.size)&&(b.ok P).2 r a.sh.size
   | []=>false)&&decide (P.cellsOf t=a.sh.size + b.sh.size)
  | _=>false,fun fs o=>match fs with
   | f::r=>decide (f.offset=o)&&(a.ok P).1 f.type&&decide (P.cellsOf f.type=a.sh.size)&&(b.ok P).2 r (o + a.sh.size)
   | []=>false)
 | .ar n e=>(fun t=>match P.underlying t with
  | some (.array m t')=>decide (m=n)&&(e.ok P).1 t'&&decide (P.cellsOf t'=e.sh.size)&&decide (P.cellsOf t=n * e.sh.size)
  | _=>false,fun _ _=>false)
 | .sl e=>(fun t=>match P.underlying t with
  | some (.slice t')=>(e.ok P).1 t'&&decide (P.cellsOf t'=e.sh.size)&&decide (0 < e.sh.size)
  | _=>false,fun _ _=>false)
def Ty.is:Ty→KV→Prop
 | .int k,v=>∃ z,v=.int k z∧(Lit.int k z).wf=true
 | .bool,v=>∃ b,v=.bool b
 | .nl,v=>v=.nl
 | .cons a b,v=>∃ x y,v=.cons x y∧a.is x∧b.is y
 | .ar n e,v=>∃ f,v=.fa n f∧∀ i,i < n→e.is (f i)
 | .sl e,v=>∃ len f,v=.ro true false e.sh 0 len (.fa len f)∧∀ i,i < len→e.is (f i)
section
variable {H:Type}{enc:TypeId×Value→H}{P:Program}{W:World}{base:Nat}{sp:Nat→Bool}{held:Bool}
def zeB (W:World) (C:Ctx):Prop:=C.w=W∧∀ b,b < W.heap.size→C.ok true b
def OpT (W:World) (T:Ty) (cs:List Value) (o:Nat):Prop :=
 ∃ v,T.is v∧∀ C g off,zeB W C→(∀ i,i < T.sh.size→g (off + o + i)=cs[o + i]?)→RR v.v C (.cel T.sh g (off + o))
theorem zq9 {C:Ctx}(h:zeB W C):zeB W C.pur:=h
theorem zeC {k:IntKind}{t:TypeId}(h:((Ty.int k).ok P).1 t=true):P.underlying t=some (.int k):=by
 simp only[Ty.ok] at h
 split at h
 ·rename_i k' e; simp at h; rw[e,h]
 ·cases h
theorem zb2 {t:TypeId}(h:(Ty.bool.ok P).1 t=true):P.underlying t=some .bool:=by
 simp only[Ty.ok] at h
 split at h
 ·assumption
 ·cases h
theorem ziL {n:Nat}{e:Ty}{t:TypeId}(h:((Ty.ar n e).ok P).1 t=true):∃ t',P.underlying t=some (.array n t')∧(e.ok P).1 t'=true∧P.cellsOf t'=e.sh.size∧P.cellsOf t=n * e.sh.size:=by
 simp only[Ty.ok] at h
 split at h
 ·rename_i m t' e1
  simp only[Bool.and_eq_true,decide_eq_true_eq] at h
  obtain⟨⟨⟨rfl,h2⟩,h3⟩,h4⟩:=h
  exact⟨t',e1,h2,h3,h4⟩
 ·cases h
theorem ziM {e:Ty}{t:TypeId}(h:((Ty.sl e).ok P).1 t=true):∃ t',P.underlying t=some (.slice t')∧(e.ok P).1 t'=true∧P.cellsOf t'=e.sh.size∧0 < e.sh.size:=by
 simp only[Ty.ok] at h
 split at h
 ·rename_i t' e1
  simp only[Bool.and_eq_true,decide_eq_true_eq] at h
  exact⟨t',e1,h.1.1,h.1.2,h.2⟩
 ·cases h
theorem ziN {a b:Ty}{t:TypeId}(h:((Ty.cons a b).ok P).1 t=true):∃ fs f r,P.underlying t=some (.struct fs)∧fs.toList=f::r∧f.offset=0∧(a.ok P).1 f.type=true∧P.cellsOf f.type=a.sh.size∧(b.ok P).2 r a.sh.size=true∧P.cellsOf t=a.sh.size + b.sh.size:=by
 simp only[Ty.ok] at h
 split at h
 ·rename_i fs e1
  simp only[Bool.and_eq_true,decide_eq_true_eq] at h
  obtain⟨h1,h2⟩:=h
  split at h1
  ·rename_i f r e2
   simp only[Bool.and_eq_true,decide_eq_true_eq] at h1
   obtain⟨⟨⟨q1,q2⟩,q3⟩,q4⟩:=h1
   exact⟨fs,f,r,e1,e2,q1,q2,q3,q4,h2⟩
  ·cases h1
 ·cases h
theorem ziO {a b:Ty}{fs:List Field}{o:Nat}(h:((Ty.cons a b).ok P).2 fs o=true):∃ f r,fs=f::r∧f.offset=o∧(a.ok P).1 f.type=true∧P.cellsOf f.type=a.sh.size∧(b.ok P).2 r (o + a.sh.size)=true:=by
 simp only[Ty.ok] at h
 split at h
 ·rename_i f r
  simp only[Bool.and_eq_true,decide_eq_true_eq] at h
  obtain⟨⟨⟨q1,q2⟩,q3⟩,q4⟩:=h
  exact⟨f,r,rfl,q1,q2,q3,q4⟩
 ·cases h
theorem ziP {cs:List Value}{o n i:Nat}(hi:i < n):((cs.drop o).take n)[i]?=cs[o + i]?:=by
 rw[List.getElem?_take,if_pos hi,List.getElem?_drop]
theorem ziQ {T:Ty}{cs:List Value}{o:Nat}(h:OpT W T ((cs.drop o).take T.sh.size) 0):OpT W T cs o:=by
 obtain⟨v,h1,h2⟩:=h
 refine⟨v,h1,fun C g off hc hg=>?_⟩
 have:=h2 C g (off + o) hc (fun i hi=>by
  rw[Nat.add_zero,hg i hi,Nat.zero_add,ziP hi])
 rwa [Nat.add_zero] at this
theorem chD {n:Nat}{Q:Nat→KV→Prop}(h:∀ i,i < n→∃ v,Q i v):∃ f:Nat→KV,∀ i,i < n→Q i (f i) :=
 ⟨fun i=>if hi:i < n then Classical.choose (h i hi) else .unk,fun i hi=>by simp only[dif_pos hi]; exact Classical.choose_spec (h i hi)⟩
theorem opT (T:Ty) :
  (∀ t cs fuel x,(T.ok P).1 t=true→DataW.trod enc P W base sp held fuel t cs=some x→OpT W T cs 0) ∧
  (∀ fs o cs fuel (ys:List (DataW H×List MemPlace)),(T.ok P).2 fs o=true→ys.length=fs.length→(∀(i:Nat) (f:Field),fs[i]?=some f→DataW.trod enc P W base sp held fuel f.type ((cs.drop f.offset).take (P.cellsOf f.type))=ys[i]?)→OpT W T cs o):=by
 induction T with
 | int k =>
  refine⟨fun t cs fuel x h1 h2=>?_,fun fs o cs fuel ys h1=>by cases h1⟩
  obtain⟨n,rfl,_,hw⟩:=DataW.trod_int (zeC h1) h2
  refine⟨.int k n,⟨n,rfl,hw⟩,fun C g off hc hg=>?_⟩
  exact⟨rfl,by have:=hg 0 Nat.zero_lt_one; simpa using this⟩
 | bool =>
  refine⟨fun t cs fuel x h1 h2=>?_,fun fs o cs fuel ys h1=>by cases h1⟩
  obtain⟨n,rfl,_⟩:=DataW.trod_bool (zb2 h1) h2
  refine⟨.bool n,⟨n,rfl⟩,fun C g off hc hg=>?_⟩
  exact⟨rfl,by have:=hg 0 Nat.zero_lt_one; simpa using this⟩
 | nl =>
  refine⟨fun t cs fuel x h1=>(by cases h1),fun fs o cs fuel ys h1 h2 h3=>?_⟩
  exact⟨.nl,rfl,fun C g off hc hg=>rfl⟩
 | cons a b iha ihb =>
  have fl:∀(f:Field) (r:List Field) (o:Nat) cs fuel (ys:List (DataW H×List MemPlace)),f.offset=o→(a.ok P).1 f.type=true→P.cellsOf f.type=a.sh.size→(b.ok P).2 r (o + a.sh.size)=true→ys.length=(f::r).length→(∀(i:Nat) (f':Field),(f::r)[i]?=some f'→DataW.trod enc P W base sp held fuel f'.type ((cs.drop f'.offset).take (P.cellsOf f'.type))=ys[i]?)→OpT W (.cons a b) cs o:=by
   intro f r o cs fuel ys q1 q2 q3 q4 hl hy
   match ys,hl with
   | y::ys,hl =>
    have e0:=hy 0 f rfl
    rw[q1,q3] at e0
    obtain⟨v,v1,v2⟩:=ziQ (iha.1 _ _ _ _ q2 e0)
    obtain⟨u,u1,u2⟩:=ihb.2 r (o + a.sh.size) cs fuel ys q4 (by simpa using hl) (fun i f' hf=>by simpa using hy (i + 1) f' (by simpa using hf))
    refine⟨.cons v u,⟨v,u,rfl,v1,u1⟩,fun C g off hc hg=>?_⟩
    refine⟨a.sh,b.sh,rfl,v2 C g off hc fun i hi=>hg i (by show i < a.sh.size + b.sh.size; omega),?_⟩
    have:=u2 C g off hc fun i hi=>by
     have:=hg (a.sh.size + i) (by show _ < a.sh.size + b.sh.size; omega)
     rw[←Nat.add_assoc,←Nat.add_assoc] at this
     rw[←Nat.add_assoc]; exact this
    rw[←Nat.add_assoc] at this
    exact this
  refine⟨fun t cs fuel x h1 h2=>?_,fun fs o cs fuel ys h1 h2 h3=>?_⟩
  ·obtain⟨fs,f,r,e1,e2,q1,q2,q3,q4,q5⟩:=ziN h1
   obtain⟨xs,n,rfl,_,hl,hn,hf⟩:=DataW.trod_struct e1 h2
   exact fl f r 0 cs n xs q1 q2 q3 (by rw[Nat.zero_add]; exact q4) (by rw[←e2,hn]; simp) (fun i f' hf'=>hf i f' (by rw[←e2] at hf'; simpa using hf'))
  ·obtain⟨f,r,rfl,q1,q2,q3,q4⟩:=ziO h1
   exact fl f r o cs fuel ys q1 q2 q3 q4 h2 h3
 | ar n e ihe =>
  refine⟨fun t cs fuel x h1 h2=>?_,fun fs o cs fuel ys h1=>by cases h1⟩
  obtain⟨t',e1,q1,q2,q3⟩:=ziL h1
  obtain⟨xs,m,rfl,_,hl,hn,hf⟩:=DataW.trod_array e1 h2
  have key:∀ i,i < n→OpT W e cs (i * e.sh.size):=fun i hi=>by
   have h3:=hf i hi
   rw[q2] at h3
   rw[List.getElem?_eq_getElem (by omega)] at h3
   exact ziQ (ihe.1 _ _ _ _ q1 h3)
  refine⟨.fa n fun i=>if hi:i < n then Classical.choose (key i hi) else .unk,⟨_,rfl,fun i hi=>by
   simp only[dif_pos hi]; exact (Classical.choose_spec (key i hi)).1⟩,fun C g off hc hg=>?_⟩
  refine⟨e.sh,rfl,fun i hi=>?_⟩
  simp only[dif_pos hi]
  have:=(Classical.choose_spec (key i hi)).2 C g off hc fun j hj=>by
   have h4:i * e.sh.size + j < n * e.sh.size:=by
    calc i * e.sh.size + j < i * e.sh.size + e.sh.size:=by omega
     _=(i + 1) * e.sh.size:=by rw[Nat.add_mul,Nat.one_mul]
     _≤n * e.sh.size:=Nat.mul_le_mul_right _ hi
   have:=hg (i * e.sh.size + j) h4
   simp only[Nat.add_zero,Nat.zero_add] at this
   rw[←Nat.add_assoc] at this; exact this
  rw[Nat.add_zero]; exact this
 | sl e ihe =>
  refine⟨fun t cs fuel x h1 h2=>?_,fun fs o cs fuel ys h1=>by cases h1⟩
  obtain⟨t',e1,q1,q2,q3⟩:=ziM h1
  rcases Go.Deep.open_slice e1 h2 with ⟨rfl,_⟩ | ⟨a,len,cap,m,n,D,Pl,rfl,_,hl,_,hm,_,hi⟩
  ·refine⟨.ro true false e.sh 0 0 (.fa 0 fun _=>.unk),⟨0,_,rfl,fun i hi=>absurd hi (Nat.not_lt_zero i)⟩,fun C g off hc hg=>?_⟩
   exact⟨none,0,⟨rfl,by have:=hg 0 Nat.zero_lt_one; simpa using this⟩,Nat.le_refl 0,(fun h=>nomatch h),.inl rfl⟩
  ·have hm':len≤m:=by rw[hm]; split<;>omega
   have key:∀ i,i < len→∃ v:KV,∃ cs',W.cells? base (a.add (i * e.sh.size)) e.sh.size=some cs'∧e.is v∧∀ C g off,zeB W C→(∀ i,i < e.sh.size→g (off + 0 + i)=cs'[0 + i]?)→RR v.v C (.cel e.sh g (off + 0)):=fun i hi'=>by
    obtain⟨cs',c1,c2⟩:=hi i (by omega)
    rw[q2] at c1
    obtain⟨v,v1,v2⟩:=ihe.1 _ _ _ _ q1 c2
    exact⟨v,cs',c1,v1,v2⟩
   obtain⟨f,hf⟩:=chD key
   refine⟨.ro true false e.sh 0 len (.fa len f),⟨len,f,rfl,fun i hi'=>by obtain⟨_,_,h3,_⟩:=hf i hi'; exact h3⟩,fun C g off hc hg=>?_⟩
   refine⟨some a,cap,⟨rfl,by have:=hg 0 Nat.zero_lt_one; simpa using this⟩,hl,(fun h=>nomatch h),?_⟩
   rcases Nat.eq_zero_or_pos len with hz | hpos
   ·exact .inl hz
   ·obtain⟨cs0,c0,_,_⟩:=hf 0 hpos
    obtain⟨_,hcl,hat⟩:=World.cells?_some c0
    have hc0:=hat 0 q3
    obtain⟨b,o,spot⟩:=a
    have hget:∃ x,W.cell? ⟨b,o,spot⟩=some x:=⟨cs0[0]'(by omega),by
     rw[List.getElem?_eq_getElem (by omega)] at hc0
     simpa [Addr.add] using hc0⟩
    obtain⟨x0,hx0⟩:=hget
    have hsp:spot=none:=by simpa using World.cell?_spot hx0
    subst hsp
    refine .inr ⟨b,o,rfl,hc.2 b (World.block_lt_of_cell? _ _ hx0),fun i hi'=>?_⟩
    obtain⟨cs',c1,_,c2⟩:=hf i hi'
    have hv:=c2 C.pur (cg W b) (o + i * e.sh.size) (zq9 hc) fun j hj=>by
     obtain⟨_,hcl2,hat2⟩:=World.cells?_some c1
     have h5:=hat2 j hj
     rw[Addr.add_lit,Addr.add_lit] at h5
     rw[Nat.add_zero,Nat.zero_add]
     exact h5
    rw[Nat.add_zero] at hv
    show RR (f (0 + i)).v C.pur (.cel e.sh (cg C.w b) (o + i * e.sh.size))
    rw[hc.1,Nat.zero_add]
    exact hv
end
end
end Go.K
set_option maxRecDepth 100000
namespace Go.K
open Go.Ab Go.RowKit Go.Y Go.Proofs
noncomputable section
attribute [local instance 10000] gO
def zqK:Ty:=.int .u8
theorem zv4 {v:KV}(h:zqK.is v):∃ a,v=kU8 a∧a < 256:=by
 obtain⟨z,rfl,hw⟩:=h
 have:=bounds_u8 hw
 obtain⟨n,rfl⟩:∃ n:Nat,z=.ofNat n:=⟨z.toNat,by show z=((z.toNat:Nat):Int); omega⟩
 refine⟨n,rfl,?_⟩
 have h2:((n:Nat):Int)≤255:=this.2
 omega
theorem chA {α:Type} [Inhabited α] {n:Nat}{Q:Nat→α→Prop}(h:∀ i,i < n→∃ v,Q i v):∃ f:Nat→α,∀ i,i < n→Q i (f i):=by
 classical
 exact⟨fun i=>if hi:i < n then Classical.choose (h i hi) else default,fun i hi=>by simp only[dif_pos hi]; exact Classical.choose_spec (h i hi)⟩
theorem zlj {u c:Bool}{e:Shape}{n:Nat}{f g:Nat→V}(h:∀ i,i < n→Imp (f i) (g i)):Imp (.ro u c e n f) (.ro u c e n g):=by
 intro C m hr
 obtain⟨a,k,h1,h2,h3,h4⟩:=hr
 exact⟨a,k,h1,h2,h3,h4.imp (fun h=>h) fun⟨b,o,q1,q2,q3⟩=>⟨b,o,q1,q2,fun i hi=>h i hi _ _ (q3 i hi)⟩⟩
theorem ziD {s:Shape}{n:Nat}{f g:Nat→KV}(h:∀ i,i < n→Imp (f i).v (g i).v):Imp (KV.ro true false s 0 n (.fa n f)).v (roK s n g).v:=zlj fun i hi=>by
 show Imp (f (0 + i)).v (g (0 + i)).v
 rw[Nat.zero_add]; exact h i hi
instance:Inhabited Rc:=⟨⟨0,0,0,[]⟩⟩
instance:Inhabited En:=⟨⟨0,[]⟩⟩
instance:Inhabited Nd:=⟨⟨0,0,fun _=>default,fun _=>default⟩⟩
instance:Inhabited Un:=⟨⟨default,0,false,fun _=>false⟩⟩
theorem zqL {v:KV}(h:(Ty.sl zqK).is v):∃(n:Nat) (f:Nat→Nat),(∀ i,f i < 256)∧Imp v.v (roK .sc n fun i=>kU8 (f i)).v:=by
 obtain⟨n,f,rfl,hf⟩:=h
 obtain⟨g,hg⟩:=chA (Q:=fun i a=>f i=kU8 a∧a < 256) fun i hi=>zv4 (hf i hi)
 refine⟨n,fun i=>if i < n then g i else 0,fun i=>?_,ziD fun i hi=>?_⟩
 ·show (if i < n then g i else 0) < 256
  split
  ·rename_i h; exact (hg i h).2
  ·omega
 ·rw[(hg i hi).1]
  show Imp (kU8 (g i)).v (kU8 (if i < n then g i else 0)).v
  rw[if_pos hi]; exact Imp.refl _
section
variable {H:Type}{enc:TypeId×Value→H}{P:Program}{W:World}{base:Nat}{sp:Nat→Bool}{held:Bool}
def OpV (W:World) (T:Ty) (x:Value):Prop:=∃ v,T.is v∧∀ C,zeB W C→RR v.v C (.val x)
end
end
end Go.K
namespace Go.K
open Go.Proofs Go.RowKit
open Go.Proofs.YtkllahedaiddgaaGreatDoor
theorem zgL:(Rows.commitsApplyRow.wf (OpenSpec.ofChange Rows.commitsApplySpec))=true:=by kernel_rfl
theorem zgM:(laidOutB Tryz.prog)=true:=by kernel_rfl
theorem zgN:(mapsRowed Tryz.prog)=true:=by kernel_rfl
theorem zgO:(Rows.commitsApplyRow.inPlace==Tryz.prog.inPlace 12)=true:=by kernel_rfl
theorem zgP:(Rows.commitsApplyRow.unfollowed==Tryz.prog.unfollowed 12)=true:=by kernel_rfl
theorem zgQ:(Rows.commitsApplyRow.recurses==Tryz.prog.recurses 12)=true:=by kernel_rfl
theorem zgR:(Rows.commitsApplyRow.named==Tryz.prog.varsNamed 12)=true:=by kernel_rfl
theorem zgS:(Rows.commitsApplyRow.plainKeys==Tryz.prog.plainKeys)=true:=by kernel_rfl
theorem zgT:(Tryz.prog.stopsHeard)=true:=by kernel_rfl
theorem zgU:(Tryz.prog.mayEnter)=true:=by kernel_rfl
theorem zeu:(Rows.commitsApplyRow.lifted==Tryz.prog.liftsFinal)=true:=by kernel_rfl
theorem zw9:Rows.commitsApplyRow.wfByText (OpenSpec.ofChange Rows.commitsApplySpec)=true:=by kernel_rfl
theorem zxa:Tryz.prog.mainIs=some (true,("62ae0aa706a0c78825d22dda79fdf38a29da37409efa4e4c30e845216701d58d" : String).toList):=by kernel_rfl
theorem ztg:Tryz.prog.funcNamed Rows.commitsApplyRow.func=some 12:=by kernel_rfl
theorem zxb:true=Tryz.prog.looks []:=by kernel_rfl
theorem zxc:false=Rows.commitsApplyRow.goesBy Tryz.prog:=by kernel_rfl
theorem zkp:joinedFacts Tryz.prog 12 Tryz.f12 Rows.commitsApplySpec Rows.commitsApplyRow=true:=by
 unfold joinedFacts
 rw[zgL,zgM,zgN,zgO,zgP,zgQ,zgR,zgS,zgT,zgU,zeu]
 kernel_rfl
end Go.K
