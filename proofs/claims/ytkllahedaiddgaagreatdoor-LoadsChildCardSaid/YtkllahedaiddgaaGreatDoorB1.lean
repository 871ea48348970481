/- Single operations: what each does to trees, and that the model does the same. No condition. -/
import Derived.Test.YtkllahedaiddgaaGreatDoorBI
import Derived.WalkKit
import Derived.WalkSpells
import Derived.WalkLawsBesides
import Derived.ProofKit
import Derived.OrdersIn
import Derived.Deep.LoopGhost
set_option linter.unusedSimpArgs false
set_option linter.unusedVariables false
namespace Go.Ab
open Go.RowKit
inductive Step where
 | fld (k:Nat)
 | idx (i:Nat)
 | sub (off n:Nat)
inductive Shape where
 | sc
 | nl
 | cons (a b:Shape)
 | arr (n:Nat) (s:Shape)
 deriving Inhabited
inductive V where
 | int (k:IntKind) (n:Int)
 | bool (b:Bool)
 | str (s:ByteArray)
 | nl
 | cons (h t:V)
 | arr (n:Nat) (f:Nat→V)
 | ptr (id:Nat) (p:List Step) (s:Shape)
 | row (id:Nat) (e:Shape) (n:Nat)
 | sl (id:Nat) (p:List Step) (e:Shape) (off len:Nat) (cap:Option Nat)
 | ref (w:Bool) (s:Shape) (c:V)
 | nilp
 | nils
 | nilf
 | ro (w:Bool) (clip:Bool) (s:Shape) (len:Nat) (f:Nat→V)
 | fn (f:FuncId) (cap:V)
 | tup (l:V)
 | unk
 | yld (id:Nat)
 deriving Inhabited
def Shape.size:Shape→Nat
 | .sc=>1
 | .nl=>0
 | .cons a b=>a.size + b.size
 | .arr n s=>n * s.size
def Shape.fld:Nat→Shape→Option (Nat×Shape)
 | 0,.cons a _=>some (0,a)
 | k + 1,.cons a b=>(b.fld k).map fun x=>(a.size + x.1,x.2)
 | _,_=>none
def Shape.step (s:Shape):Step→Option (Nat×Shape)
 | .fld k=>s.fld k
 | .idx i=>match s with
  | .arr n e=>if i < n then some (i * e.size,e) else none
  | _=>none
 | .sub off n=>match s with
  | .arr m e=>if off + n≤m then some (off * e.size,.arr n e) else none
  | _=>none
def Shape.path:List Step→Shape→Option (Nat×Shape)
 | [],s=>some (0,s)
 | x::p,s=>match s.step x with
  | some (d,t)=>(Shape.path p t).map fun y=>(d + y.1,y.2)
  | none=>none
def V.fld:Nat→V→V
 | 0,.cons a _=>a
 | k + 1,.cons _ b=>b.fld k
 | _,_=>.unk
def V.step (v:V):Step→V
 | .fld k=>v.fld k
 | .idx i=>match v with
  | .arr _ f=>f i
  | _=>.unk
 | .sub off n=>match v with
  | .arr _ f=>.arr n fun i=>f (off + i)
  | _=>.unk
def V.path:List Step→V→V
 | [],v=>v
 | x::p,v=>V.path p (v.step x)
def V.ite (c:Bool):V→V→V
 | .int k a,.int k' b=>if k=k' then .int k (bif c then a else b) else bif c then .int k a else .int k' b
 | .bool a,.bool b=>.bool (bif c then a else b)
 | .nl,.nl=>.nl
 | .cons h t,.cons h' t'=>.cons (V.ite c h h') (V.ite c t t')
 | .arr n f,.arr m g=>if n=m then .arr n (fun i=>V.ite c (f i) (g i)) else bif c then .arr n f else .arr m g
 | a,b=>bif c then a else b
theorem V.ite_true (a:V):∀ b,V.ite true a b=a:=by
 induction a with
 | int k n=>intro b; cases b<;>simp [V.ite]
 | bool x=>intro b; cases b<;>simp [V.ite]
 | nl=>intro b; cases b<;>simp [V.ite]
 | cons h t ih1 ih2=>intro b; cases b<;>simp [V.ite,ih1,ih2]
 | arr n f ih=>intro b; cases b<;>simp [V.ite,ih]
 | _=>intro b; cases b<;>simp [V.ite]
theorem V.ite_false (a:V):∀ b,V.ite false a b=b:=by
 induction a with
 | int k n=>intro b; cases b<;>simp [V.ite]; all_goals (intro h; exact h.symm)
 | bool x=>intro b; cases b<;>simp [V.ite]
 | nl=>intro b; cases b<;>simp [V.ite]
 | cons h t ih1 ih2=>intro b; cases b<;>simp [V.ite,ih1,ih2]
 | arr n f ih=>intro b; cases b<;>simp [V.ite,ih]; all_goals (intro h; exact h.symm)
 | _=>intro b; cases b<;>simp [V.ite]
theorem V.ite_eq (c:Bool) (a b:V):V.ite c a b=bif c then a else b:=by
 cases c
 ·exact V.ite_false a b
 ·exact V.ite_true a b
def V.setFld:Nat→(V→V)→V→V
 | 0,u,.cons a b=>.cons (u a) b
 | k + 1,u,.cons a b=>.cons a (b.setFld k u)
 | _,_,v=>v
def V.set:List Step→V→V→V
 | [],x,_=>x
 | .fld k::p,x,v=>v.setFld k (V.set p x)
 | .idx i::p,x,v=>match v with
  | .arr n f=>.arr n fun j=>V.ite (j==i) (V.set p x (f j)) (f j)
  | v=>v
 | .sub off n::p,x,v=>match v with
  | .arr m f=>.arr m fun j=>V.ite (decide (off≤j)&&decide (j < off + n)) ((V.set p x (.arr n fun i=>f (off + i))).step (.idx (j - off))) (f j)
  | v=>v
inductive M where
 | cel (s:Shape) (g:Nat→Option Value) (off:Nat)
 | val (v:Value)
 | list (l:List Value)
def M.leaf:M→Value→Prop
 | .cel s g off,x=>s=.sc∧g off=some x
 | .val v,x=>v=x
 | .list _,_=>False
structure Ctx where
 ok:Bool→Nat→Prop
 al:Nat→Prop
 sv:Nat→Value
 shp:Nat→Shape
 w:World
def Ctx.pur (C:Ctx):Ctx:={ C with al:=fun _=>False }
def xl:Value→Option Nat
 | .pointer (some a)=>some a.block
 | .slice (some a) _ _=>some a.block
 | _=>none
def cg (w:World) (b:Nat):Nat→Option Value:=fun o=>w.cell? ⟨b,o,none⟩
def Vu (f:FuncId):FuncId:=f % 1073741824
structure FC (f:FuncId) where
 fs:Array Value
 cs:Array Value
 ok:f < 1073741824→fs=#[]
 one:2147483648 < f→cs.size=1
def gV (f:FuncId):Nat:=(f - 8589934592) % 1048576
def gY (f:FuncId):Nat:=(f - 8589934592) / 1048576
def gOk (C:Ctx) (f:FuncId):Prop:=8589934592≤f→f < 17179869184→C.ok true (gV f)∧∃ a,C.w.cell? ⟨gV f,0,none⟩=some (.iface (gY f) (.pointer (some a)))
def FC.l {f:FuncId}(c:FC f):List Value:=if f < 1073741824 then c.cs.toList else if f < 2147483648 then .tuple c.fs::c.cs.toList else c.cs.toList
def FC.v {f:FuncId}(c:FC f):Value:=if f < 2147483648 then .func (.func (Vu f)) c.fs c.cs else match c.cs[0]? with
 | some x=>if f=2147483648 then .nilIface else .iface (f - 2147483649) x
 | none=>.nilIface
theorem FC.v_fn {f:FuncId}(h:f < 2147483648) (c:FC f):c.v=.func (.func (Vu f)) c.fs c.cs:=by unfold FC.v; rw[if_pos h]
theorem FC.plain {f:FuncId}(h:f < 1073741824) (c:FC f):c.fs=#[]∧c.l=c.cs.toList∧Vu f=f :=
 ⟨c.ok h,by unfold FC.l; rw[if_pos h],Nat.mod_eq_of_lt h⟩
def FC.of {f:FuncId}(hf:f < 1073741824) (cs:Array Value):FC f:=⟨#[],cs,fun _=>rfl,fun h=>absurd h (Nat.not_lt.2 (Nat.le_of_lt (Nat.lt_of_lt_of_le hf (by decide))))⟩
theorem FC.of_l {f:FuncId}(h:f < 1073741824) (cs:Array Value):(FC.of (f:=f) h cs).l=cs.toList:=by unfold FC.l; rw[if_pos h]; rfl
theorem FC.of_v {f:FuncId}(h:f < 1073741824) (cs:Array Value):(FC.of (f:=f) h cs).v=.func (.func f) #[] cs:=by
 rw[FC.v_fn (Nat.lt_of_lt_of_le h (by decide)),show Vu f=f from Nat.mod_eq_of_lt h]; rfl
theorem FC.oneCell {f:FuncId}(c:FC f):c.v.oneCell'=true:=by
 unfold FC.v
 split
 ·rfl
 ·split
  ·split<;>rfl
  ·rfl
def FC.vw {f:FuncId}(c:FC f) (w:World):Value:=if f < 8589934592 then c.v else if f < 17179869184 then (match w.cell? ⟨gV f,0,none⟩ with
 | some (.iface t x)=>.iface t x
 | _=>.nilIface) else .pointer (some ⟨(f - 17179869184) / 1048576,(f - 17179869184) % 1048576,none⟩)
theorem FC.vw_lt {f:FuncId}(h:f < 8589934592) (c:FC f) (w:World):c.vw w=c.v:=by unfold FC.vw; rw[if_pos h]
theorem FC.vw_fn {f:FuncId}(h:f < 2147483648) (c:FC f) (w:World):c.vw w=.func (.func (Vu f)) c.fs c.cs:=by
 rw[FC.vw_lt (Nat.lt_trans h (by decide)),FC.v_fn h]
theorem FC.oneCellW {f:FuncId}(c:FC f) (w:World):(c.vw w).oneCell'=true:=by
 unfold FC.vw
 split
 ·exact c.oneCell
 ·split
  ·split<;>rfl
  ·rfl
theorem FC.vw_same {f:FuncId}{C:Ctx}(c:FC f) (h:gOk C f) {w':World}(hk:∀ b,C.ok true b→w'.heap[b]?=C.w.heap[b]?):c.vw w'=c.vw C.w:=by
 unfold FC.vw
 split
 ·rfl
 ·rename_i hf
  split
  ·rename_i hf2
   rw[World.cell?_of_block (a:=⟨gV f,0,none⟩) (hk _ (h (Nat.le_of_not_lt hf) hf2).1)]
  ·rfl
theorem gOk.keep {f:FuncId}{C C':Ctx}(h:gOk C f) (ho:∀ b,C.ok true b→C'.ok true b) (hk:∀ b,C.ok true b→C'.w.heap[b]?=C.w.heap[b]?):gOk C' f:=fun hf hf2=>by
 obtain⟨h1,a,h2⟩:=h hf hf2
 exact⟨ho _ h1,a,by rw[World.cell?_of_block (a:=⟨gV f,0,none⟩) (hk _ h1)]; exact h2⟩
theorem gOk.lt {f:FuncId}{C:Ctx}(h:f < 8589934592):gOk C f:=fun h'=>absurd h (Nat.not_lt.2 h')
def zu0 (v:Value):Prop:=(∃ l,v=.func (.yield l) #[] #[])∨∃ b,v=.map (some b)
theorem zgr {v:Value}(h:zu0 v):v.oneCell'=true:=by
 rcases h with ⟨l,rfl⟩ | ⟨b,rfl⟩<;>rfl
def RR:V→Ctx→M→Prop
 | .int k n,_,m=>m.leaf (.int k n)
 | .bool b,C,m=>m.leaf (.bool b)
 | .str s,C,m=>m.leaf (.string s)
 | .nilp,C,m=>m.leaf (.pointer none)
 | .nils,C,m=>m.leaf (.slice none 0 0)
 | .nilf,C,m=>m.leaf .nilFunc
 | .nl,C,.cel s _ _=>s=.nl
 | .nl,C,.val v=>v=.agg #[]
 | .nl,C,.list l=>l=[]
 | .cons h t,C,.cel s g off=>∃ a b,s=.cons a b∧RR h C (.cel a g off)∧RR t C (.cel b g (off + a.size))
 | .cons h t,C,.val v=>∃ cs a b,v=.agg cs∧cs.size=a.size + b.size∧RR h C (.cel a (fun i=>cs[i]?) 0)∧RR t C (.cel b (fun i=>cs[i]?) a.size)
 | .cons h t,C,.list l=>∃ x xs,l=x::xs∧RR h C (.val x)∧RR t C (.list xs)
 | .arr n f,C,.cel s g off=>∃ e,s=.arr n e∧∀ i,i < n→RR (f i) C (.cel e g (off + i * e.size))
 | .arr n f,C,.val v=>∃ cs e,v=.agg cs∧cs.size=n * e.size∧∀ i,i < n→RR (f i) C (.cel e (fun i=>cs[i]?) (i * e.size))
 | .arr _ _,C,.list _=>False
 | .ptr id p s,C,m=>C.al id∧∃ b off,xl (C.sv id)=some b∧Shape.path p (C.shp id)=some (off,s)∧m.leaf (.pointer (some ⟨b,off,none⟩))
 | .row id e n,C,m=>C.al id∧(∃ a c,C.sv id=.slice a n c)∧C.shp id=.arr n e∧m.leaf (C.sv id)
 | .sl id p e off len cap,C,m=>C.al id∧∃ ad c o n,m.leaf (.slice ad len c)∧len≤c∧(∀ k,cap=some k→c=k)∧Shape.path p (C.shp id)=some (o,.arr n e)∧off + len≤n ∧
   (c=0∨∃ b,xl (C.sv id)=some b∧ad=some ⟨b,o + off * e.size,none⟩)
 | .ref u s c,C,m=>∃ b o,m.leaf (.pointer (some ⟨b,o,none⟩))∧C.ok u b∧RR c C.pur (.cel s (cg C.w b) o)
 | .ro u clip e len f,C,m=>∃ a c,m.leaf (.slice a len c)∧len≤c∧(clip=true→c=len) ∧
   (len=0∨∃ b o,a=some ⟨b,o,none⟩∧C.ok u b∧∀ i,i < len→RR (f i) C.pur (.cel e (cg C.w b) (o + i * e.size)))
 | .fn f cap,C,m=>∃ cs:FC f,m.leaf (cs.vw C.w)∧RR cap C (.list cs.l)∧gOk C f
 | .tup l,C,.val v=>∃ cs,v=.tuple cs∧RR l C (.list cs.toList)
 | .tup _,C,_=>False
 | .unk,C,.cel s g off=>s=.sc∧∃ x,g off=some x∧x.oneCell'=true
 | .unk,C,.val _=>True
 | .unk,C,.list _=>False
 | .yld id,C,m=>C.al id∧zu0 (C.sv id)∧m.leaf (C.sv id)
abbrev R (C:Ctx) (v:V) (m:M):Prop:=RR v C m
structure Keep (C C':Ctx):Prop where
 al:∀ id,C.al id→C'.al id
 sv:∀ id,C.al id→C'.sv id=C.sv id
 shp:∀ id,C.al id→C'.shp id=C.shp id
 ok:∀ u b,C.ok u b→C'.ok u b
 heap:∀ u b,C.ok u b→C'.w.heap[b]?=C.w.heap[b]?
theorem Keep.refl (C:Ctx):Keep C C:=⟨fun _ h=>h,fun _ _=>rfl,fun _ _=>rfl,fun _ _ h=>h,fun _ _ _=>rfl⟩
theorem Keep.trans {A B C:Ctx}(h:Keep A B) (k:Keep B C):Keep A C :=
 ⟨fun i x=>k.al i (h.al i x),fun i x=>(k.sv i (h.al i x)).trans (h.sv i x),fun i x=>(k.shp i (h.al i x)).trans (h.shp i x),fun u b x=>k.ok u b (h.ok u b x),fun u b x=>(k.heap u b (h.ok u b x)).trans (h.heap u b x)⟩
theorem Keep.of_pur (C:Ctx):Keep C.pur C:=⟨fun _ h=>h.elim,fun _ h=>h.elim,fun _ h=>h.elim,fun _ _ h=>h,fun _ _ _=>rfl⟩
theorem zdh {w w':World}{b:Nat}(h:w'.heap[b]?=w.heap[b]?):cg w' b=cg w b:=by
 funext o; exact World.cell?_of_block (a:=⟨b,o,none⟩) h
theorem Keep.pur {C C':Ctx}(h:Keep C C'):Keep C.pur C'.pur:=⟨fun _ h=>h.elim,fun _ h=>h.elim,fun _ h=>h.elim,h.ok,h.heap⟩
theorem R.keep' (v:V):∀ {C C':Ctx}(_:Keep C C') m,R C v m→R C' v m:=by
 induction v with
 | int k n=>intro C C' hk m h; exact h
 | bool b=>intro C C' hk m h; exact h
 | str s=>intro C C' hk m h; exact h
 | nilp=>intro C C' hk m h; exact h
 | nils=>intro C C' hk m h; exact h
 | nilf=>intro C C' hk m h; exact h
 | nl=>intro C C' hk m h; cases m<;>exact h
 | cons x t ih1 ih2 =>
  intro C C' hk m h
  cases m with
  | cel s g off=>obtain⟨a,b,h1,h2,h3⟩:=h; exact⟨a,b,h1,ih1 hk _ h2,ih2 hk _ h3⟩
  | val v=>obtain⟨cs,a,b,h1,h2,h3,h4⟩:=h; exact⟨cs,a,b,h1,h2,ih1 hk _ h3,ih2 hk _ h4⟩
  | list l=>obtain⟨y,ys,h1,h2,h3⟩:=h; exact⟨y,ys,h1,ih1 hk _ h2,ih2 hk _ h3⟩
 | arr n f ih =>
  intro C C' hk m h
  cases m with
  | cel s g off=>obtain⟨e,h1,h2⟩:=h; exact⟨e,h1,fun i hi=>ih i hk _ (h2 i hi)⟩
  | val v=>obtain⟨cs,e,h1,h2,h3⟩:=h; exact⟨cs,e,h1,h2,fun i hi=>ih i hk _ (h3 i hi)⟩
  | list l=>exact h
 | ptr id p s =>
  intro C C' hk m h
  obtain⟨h0,b,off,h1,h2,h3⟩:=h
  exact⟨hk.al _ h0,b,off,by rw[hk.sv _ h0]; exact h1,by rw[hk.shp _ h0]; exact h2,h3⟩
 | row id e n =>
  intro C C' hk m h
  obtain⟨h0,h1,h2,h3⟩:=h
  exact⟨hk.al _ h0,by rw[hk.sv _ h0]; exact h1,by rw[hk.shp _ h0]; exact h2,by rw[hk.sv _ h0]; exact h3⟩
 | sl id p e off len cap =>
  intro C C' hk m h
  obtain⟨h0,ad,c,o,n,h1,h2,h3,h4,h5,h6⟩:=h
  refine⟨hk.al _ h0,ad,c,o,n,h1,h2,h3,by rw[hk.shp _ h0]; exact h4,h5,h6.imp (fun h=>h) ?_⟩
  rintro⟨b,h7,h8⟩
  exact⟨b,by rw[hk.sv _ h0]; exact h7,h8⟩
 | ref u s c ih =>
  intro C C' hk m h
  obtain⟨b,o,h1,h2,h3⟩:=h
  exact⟨b,o,h1,hk.ok _ _ h2,by rw[zdh (hk.heap u b h2)]; exact ih hk.pur _ h3⟩
 | ro u clip e len f ih =>
  intro C C' hk m h
  obtain⟨a,c,h1,h2,h3,h4⟩:=h
  refine⟨a,c,h1,h2,h3,h4.imp id ?_⟩
  rintro⟨b,o,h5,h6,h7⟩
  exact⟨b,o,h5,hk.ok _ _ h6,fun i hi=>by rw[zdh (hk.heap u b h6)]; exact ih i hk.pur _ (h7 i hi)⟩
 | fn f cap ih =>
  intro C C' hk m h
  obtain⟨cs,h1,h2,h3⟩:=h
  exact⟨cs,by rw[cs.vw_same h3 (fun b=>hk.heap true b)]; exact h1,ih hk _ h2,h3.keep (fun b=>hk.ok true b) (fun b=>hk.heap true b)⟩
 | tup l ih =>
  intro C C' hk m h
  cases m with
  | val v=>obtain⟨cs,h1,h2⟩:=h; exact⟨cs,h1,ih hk _ h2⟩
  | cel=>exact h
  | list=>exact h
 | unk=>intro C C' hk m h; cases m<;>exact h
 | yld id =>
  intro C C' hk m h
  obtain⟨h0,h1,h2⟩:=h
  exact⟨hk.al _ h0,by rw[hk.sv _ h0]; exact h1,by rw[hk.sv _ h0]; exact h2⟩
theorem R.keep {C C':Ctx}(hk:Keep C C') (v:V):∀ m,R C v m→R C' v m:=fun m h=>R.keep' v hk m h
theorem R.shift {C:Ctx}(v:V):∀ {s:Shape}{g g':Nat→Option Value}{o o':Nat},R C v (.cel s g o)→(∀ k,k < s.size→g' (o' + k)=g (o + k))→R C v (.cel s g' o'):=by
 have leaf:∀ {x:Value}{s:Shape}{g g':Nat→Option Value}{o o':Nat},(M.cel s g o).leaf x→(∀ k,k < s.size→g' (o' + k)=g (o + k))→(M.cel s g' o').leaf x:=by
  intro x s g g' o o' h hg
  obtain⟨rfl,h⟩:=h
  exact⟨rfl,by have:=hg 0 (by simp [Shape.size]); simpa [h] using this⟩
 induction v with
 | int k n=>intro s g g' o o' h hg; exact leaf h hg
 | bool b=>intro s g g' o o' h hg; exact leaf h hg
 | str x=>intro s g g' o o' h hg; exact leaf h hg
 | nilp=>intro s g g' o o' h hg; exact leaf h hg
 | nils=>intro s g g' o o' h hg; exact leaf h hg
 | nilf=>intro s g g' o o' h hg; exact leaf h hg
 | nl=>intro s g g' o o' h hg; exact h
 | cons x t ih1 ih2 =>
  intro s g g' o o' h hg
  obtain⟨a,b,rfl,h2,h3⟩:=h
  simp only[Shape.size] at hg
  refine⟨a,b,rfl,ih1 h2 fun k hk=>hg k (by omega),ih2 h3 fun k hk=>?_⟩
  have:=hg (a.size + k) (by omega)
  simpa [Nat.add_assoc] using this
 | arr n f ih =>
  intro s g g' o o' h hg
  obtain⟨e,rfl,h2⟩:=h
  simp only[Shape.size] at hg
  refine⟨e,rfl,fun i hi=>ih i (h2 i hi) fun k hk=>?_⟩
  have hlt:i * e.size + k < n * e.size:=by
   have h1:(i + 1) * e.size≤n * e.size:=Nat.mul_le_mul_right _ hi
   rw[Nat.add_mul] at h1; omega
  have:=hg (i * e.size + k) hlt
  simpa [Nat.add_assoc] using this
 | ptr id p s0=>intro s g g' o o' h hg; obtain⟨h0,b,off,h1,h2,h3⟩:=h; exact⟨h0,b,off,h1,h2,leaf h3 hg⟩
 | row id e n=>intro s g g' o o' h hg; obtain⟨h0,h1,h2,h3⟩:=h; exact⟨h0,h1,h2,leaf h3 hg⟩
 | sl id p e off len cap=>intro s g g' o o' h hg; obtain⟨h0,ad,c,o1,n,h1,h4⟩:=h; exact⟨h0,ad,c,o1,n,leaf h1 hg,h4⟩
 | ref u s1 c ih=>intro s g g' o o' h hg; obtain⟨b,o1,h1,h2⟩:=h; exact⟨b,o1,leaf h1 hg,h2⟩
 | ro u clip e len f ih=>intro s g g' o o' h hg; obtain⟨a,c,h1,h2⟩:=h; exact⟨a,c,leaf h1 hg,h2⟩
 | fn f cap ih=>intro s g g' o o' h hg; obtain⟨cs,h1,h2⟩:=h; exact⟨cs,leaf h1 hg,h2⟩
 | tup l ih=>intro s g g' o o' h hg; exact h
 | unk =>
  intro s g g' o o' h hg
  obtain⟨rfl,x,h1,h2⟩:=h
  exact⟨rfl,x,by have:=hg 0 (by simp [Shape.size]); simpa [h1] using this,h2⟩
 | yld id=>intro s g g' o o' h hg; obtain⟨h0,h1,h2⟩:=h; exact⟨h0,h1,leaf h2 hg⟩
theorem R.cells {C:Ctx}(v:V):∀ {s:Shape}{g:Nat→Option Value}{o:Nat},R C v (.cel s g o)→∀ k,k < s.size→∃ x,g (o + k)=some x∧x.oneCell'=true:=by
 have leaf:∀ {x:Value}{s:Shape}{g:Nat→Option Value}{o:Nat},(M.cel s g o).leaf x→x.oneCell'=true→∀ k,k < s.size→∃ x,g (o + k)=some x∧x.oneCell'=true:=by
  intro x s g o h hx k hk
  obtain⟨rfl,h⟩:=h
  simp only[Shape.size] at hk
  obtain rfl:k=0:=by omega
  exact⟨x,h,hx⟩
 induction v with
 | int k n=>intro s g o h; exact leaf h rfl
 | bool b=>intro s g o h; exact leaf h rfl
 | str x=>intro s g o h; exact leaf h rfl
 | nilp=>intro s g o h; exact leaf h rfl
 | nils=>intro s g o h; exact leaf h rfl
 | nilf=>intro s g o h; exact leaf h rfl
 | nl=>intro s g o h k hk; subst h; simp [Shape.size] at hk
 | cons x t ih1 ih2 =>
  intro s g o h k hk
  obtain⟨a,b,rfl,h2,h3⟩:=h
  simp only[Shape.size] at hk
  by_cases hka:k < a.size
  ·exact ih1 h2 k hka
  ·obtain⟨x,h4,h5⟩:=ih2 h3 (k - a.size) (by omega)
   exact⟨x,by rw[show o + k=o + a.size + (k - a.size) by omega]; exact h4,h5⟩
 | arr n f ih =>
  intro s g o h k hk
  obtain⟨e,rfl,h2⟩:=h
  simp only[Shape.size] at hk
  have he:0 < e.size:=by
   rcases Nat.eq_zero_or_pos e.size with h0 | h0
   ·rw[h0] at hk; simp at hk
   ·exact h0
  have hi:k / e.size < n:=(Nat.div_lt_iff_lt_mul he).2 hk
  obtain⟨x,h4,h5⟩:=ih (k / e.size) (h2 _ hi) (k % e.size) (Nat.mod_lt _ he)
  refine⟨x,?_,h5⟩
  have:=Nat.div_add_mod k e.size
  rw[Nat.mul_comm] at this
  rw[show o + k=o + k / e.size * e.size + k % e.size by omega]
  exact h4
 | ptr id p s0=>intro s g o h; obtain⟨h0,b,off,h1,h2,h3⟩:=h; exact leaf h3 rfl
 | row id e n=>intro s g o h; obtain⟨h0,⟨a,c,h1⟩,h2,h3⟩:=h; exact leaf h3 (by rw[h1]; rfl)
 | sl id p e off len cap=>intro s g o h; obtain⟨h0,ad,c,o1,n,h1,h4⟩:=h; exact leaf h1 rfl
 | ref u s1 c ih=>intro s g o h; obtain⟨b,o1,h1,h2⟩:=h; exact leaf h1 rfl
 | ro u clip e len f ih=>intro s g o h; obtain⟨a,c,h1,h2⟩:=h; exact leaf h1 rfl
 | fn f cap ih=>intro s g o h; obtain⟨cs,h1,h2⟩:=h; exact leaf h1 (cs.oneCellW _)
 | tup l ih=>intro s g o h; exact h.elim
 | unk =>
  intro s g o h k hk
  obtain⟨rfl,x,h1,h2⟩:=h
  simp only[Shape.size] at hk
  obtain rfl:k=0:=by omega
  exact⟨x,h1,h2⟩
 | yld id=>intro s g o h; obtain⟨h0,h1,h2⟩:=h; exact leaf h2 (zgr h1)
theorem Shape.fld_le:∀(k:Nat) (s:Shape) {d:Nat}{t:Shape},s.fld k=some (d,t)→d + t.size≤s.size
 | 0,.cons a b,d,t,h=>by simp [Shape.fld] at h; obtain⟨rfl,rfl⟩:=h; simp [Shape.size]
 | k + 1,.cons a b,d,t,h=>by
  simp only[Shape.fld,Option.map_eq_some_iff] at h
  obtain⟨⟨d',t'⟩,h1,h2⟩:=h
  simp only[Prod.mk.injEq] at h2
  obtain⟨rfl,rfl⟩:=h2
  have:=Shape.fld_le k b h1
  simp only[Shape.size]; omega
 | 0,.sc,_,_,h=>by simp [Shape.fld] at h
 | 0,.nl,_,_,h=>by simp [Shape.fld] at h
 | 0,.arr _ _,_,_,h=>by simp [Shape.fld] at h
 | _ + 1,.sc,_,_,h=>by simp [Shape.fld] at h
 | _ + 1,.nl,_,_,h=>by simp [Shape.fld] at h
 | _ + 1,.arr _ _,_,_,h=>by simp [Shape.fld] at h
theorem Shape.step_le {s:Shape}{x:Step}{d:Nat}{t:Shape}(h:s.step x=some (d,t)):d + t.size≤s.size:=by
 cases x with
 | fld k=>exact Shape.fld_le k s h
 | idx i =>
  cases s<;>simp [Shape.step] at h
  rename_i n e
  obtain⟨hi,rfl,rfl⟩:=h
  have h1:(i + 1) * e.size≤n * e.size:=Nat.mul_le_mul_right _ hi
  rw[Nat.add_mul] at h1
  simp only[Shape.size]; omega
 | sub off k =>
  cases s<;>simp [Shape.step] at h
  rename_i n e
  obtain⟨hi,rfl,rfl⟩:=h
  have h1:(off + k) * e.size≤n * e.size:=Nat.mul_le_mul_right _ hi
  rw[Nat.add_mul] at h1
  simp only[Shape.size]; omega
theorem Shape.path_le:∀(p:List Step) (s:Shape) {d:Nat}{t:Shape},Shape.path p s=some (d,t)→d + t.size≤s.size
 | [],s,d,t,h=>by simp [Shape.path] at h; obtain⟨rfl,rfl⟩:=h; simp
 | x::p,s,d,t,h=>by
  simp only[Shape.path] at h
  split at h
  ·rename_i d1 t1 h1
   simp only[Option.map_eq_some_iff] at h
   obtain⟨⟨d2,t2⟩,h2,h3⟩:=h
   simp only[Prod.mk.injEq] at h3
   obtain⟨rfl,rfl⟩:=h3
   have a1:=Shape.step_le h1
   have a2:=Shape.path_le p t1 h2
   omega
  ·cases h
theorem R.fld {C:Ctx}:∀(k:Nat) (v:V) {s:Shape}{g:Nat→Option Value}{o d:Nat}{t:Shape},R C v (.cel s g o)→s.fld k=some (d,t)→R C (v.fld k) (.cel t g (o + d))∨(R C v (.cel s g o)∧¬ ∃ a b,v=.cons a b)
 | k,v,s,g,o,d,t,h,hs=>by
  cases v with
  | cons x y =>
   obtain⟨a,b,rfl,h2,h3⟩:=h
   cases k with
   | zero=>simp [Shape.fld] at hs; obtain⟨rfl,rfl⟩:=hs; exact .inl h2
   | succ k =>
    simp only[Shape.fld,Option.map_eq_some_iff] at hs
    obtain⟨⟨d',t'⟩,h4,h5⟩:=hs
    simp only[Prod.mk.injEq] at h5
    obtain⟨rfl,rfl⟩:=h5
    rcases R.fld k y h3 h4 with h6 | ⟨_,h6⟩
    ·exact .inl (by rw[←Nat.add_assoc]; exact h6)
    ·exfalso
     cases b with
     | cons a' b' =>
      cases y<;>(try exact h6 ⟨_,_,rfl⟩)<;>simp [RR,M.leaf] at h3
     | sc=>cases k<;>simp [Shape.fld] at h4
     | nl=>cases k<;>simp [Shape.fld] at h4
     | arr n e=>cases k<;>simp [Shape.fld] at h4
  | _=>exact .inr ⟨h,by rintro⟨a,b,h'⟩; cases h'⟩
theorem R.cons_of {C:Ctx}{v:V}{a b:Shape}{g:Nat→Option Value}{o:Nat}(h:R C v (.cel (.cons a b) g o)):∃ x y,v=.cons x y:=by
 cases v<;>first
  | exact⟨_,_,rfl⟩
  | (simp [RR,M.leaf] at h)
theorem R.arr_of {C:Ctx}{v:V}{n:Nat}{e:Shape}{g:Nat→Option Value}{o:Nat}(h:R C v (.cel (.arr n e) g o)):∃ f,v=.arr n f:=by
 cases v<;>first
  | (obtain⟨e',h,_⟩:=h; simp only[Shape.arr.injEq] at h; obtain⟨rfl,_⟩:=h; exact⟨_,rfl⟩)
  | (simp [RR,M.leaf] at h)
theorem Shape.fld_cons {k:Nat}{s:Shape}{x:Nat×Shape}(h:s.fld k=some x):∃ a b,s=.cons a b:=by
 cases s<;>cases k<;>first
  | exact⟨_,_,rfl⟩
  | simp [Shape.fld] at h
theorem R.step {C:Ctx}{v:V}{s:Shape}{g:Nat→Option Value}{o d:Nat}{t:Shape}{x:Step}(h:R C v (.cel s g o)) (hs:s.step x=some (d,t)):R C (v.step x) (.cel t g (o + d)):=by
 cases x with
 | fld k =>
  rcases R.fld k v h hs with h1 | ⟨_,h1⟩
  ·exact h1
  ·obtain⟨a,b,rfl⟩:=Shape.fld_cons hs
   exact absurd (R.cons_of h) h1
 | idx i =>
  cases s<;>simp [Shape.step] at hs
  rename_i n e
  obtain⟨hi,rfl,rfl⟩:=hs
  obtain⟨f,rfl⟩:=R.arr_of h
  obtain⟨e',he,h2⟩:=h
  simp only[Shape.arr.injEq,true_and] at he
  subst he
  exact h2 i hi
 | sub off k =>
  cases s<;>simp [Shape.step] at hs
  rename_i n e
  obtain⟨hi,rfl,rfl⟩:=hs
  obtain⟨f,rfl⟩:=R.arr_of h
  obtain⟨e',he,h2⟩:=h
  simp only[Shape.arr.injEq,true_and] at he
  subst he
  refine⟨e,rfl,fun i hi2=>?_⟩
  have:=h2 (off + i) (by omega)
  rw[Nat.add_mul,←Nat.add_assoc] at this
  exact this
theorem R.path {C:Ctx}:∀(p:List Step) {v:V}{s:Shape}{g:Nat→Option Value}{o d:Nat}{t:Shape},R C v (.cel s g o)→Shape.path p s=some (d,t)→R C (v.path p) (.cel t g (o + d))
 | [],v,s,g,o,d,t,h,hs=>by simp [Shape.path] at hs; obtain⟨rfl,rfl⟩:=hs; exact h
 | x::p,v,s,g,o,d,t,h,hs=>by
  simp only[Shape.path] at hs
  split at hs
  ·rename_i d1 t1 h1
   simp only[Option.map_eq_some_iff] at hs
   obtain⟨⟨d2,t2⟩,h2,h3⟩:=hs
   simp only[Prod.mk.injEq] at h3
   obtain⟨rfl,rfl⟩:=h3
   have:=R.path p (R.step h h1) h2
   rw[←Nat.add_assoc]; exact this
  ·cases hs
theorem R.setFld {C:Ctx}(u:V→V):∀(k:Nat) (v:V) {s:Shape}{g g':Nat→Option Value}{o d:Nat}{t:Shape},R C v (.cel s g o)→s.fld k=some (d,t) →
  (∀ j,¬ (o + d≤j∧j < o + d + t.size)→g' j=g j)→(∀ y,R C y (.cel t g (o + d))→R C (u y) (.cel t g' (o + d)))→R C (v.setFld k u) (.cel s g' o)
 | k,v,s,g,g',o,d,t,h,hs,hg,hu=>by
  obtain⟨a,b,rfl⟩:=Shape.fld_cons hs
  obtain⟨x,y,rfl⟩:=R.cons_of h
  obtain⟨a',b',he,h2,h3⟩:=h
  simp only[Shape.cons.injEq] at he
  obtain⟨rfl,rfl⟩:=he
  cases k with
  | zero =>
   simp [Shape.fld] at hs; obtain⟨rfl,rfl⟩:=hs
   exact⟨a,b,rfl,hu _ h2,R.shift y h3 fun k hk=>hg _ (by omega)⟩
  | succ k =>
   simp only[Shape.fld,Option.map_eq_some_iff] at hs
   obtain⟨⟨d',t'⟩,h4,h5⟩:=hs
   simp only[Prod.mk.injEq] at h5
   obtain⟨rfl,rfl⟩:=h5
   refine⟨a,b,rfl,R.shift x h2 fun k hk=>hg _ (by omega),R.setFld u k y h3 h4 (fun j hj=>hg j (by omega)) ?_⟩
   intro z hz
   rw[Nat.add_assoc] at hz ⊢
   exact hu z hz
theorem R.set {C:Ctx}{x:V}:∀(p:List Step) {v:V}{s:Shape}{g g':Nat→Option Value}{o d:Nat}{t:Shape},R C v (.cel s g o)→Shape.path p s=some (d,t) →
  (∀ j,¬ (o + d≤j∧j < o + d + t.size)→g' j=g j)→R C x (.cel t g' (o + d))→R C (V.set p x v) (.cel s g' o)
 | [],v,s,g,g',o,d,t,h,hs,hg,hx=>by simp [Shape.path] at hs; obtain⟨rfl,rfl⟩:=hs; exact hx
 | y::p,v,s,g,g',o,d,t,h,hs,hg,hx=>by
  simp only[Shape.path] at hs
  split at hs
  ·rename_i d1 t1 h1
   simp only[Option.map_eq_some_iff] at hs
   obtain⟨⟨d2,t2⟩,h2,h3⟩:=hs
   simp only[Prod.mk.injEq] at h3
   obtain⟨rfl,rfl⟩:=h3
   have hle:=Shape.path_le p t1 h2
   rw[←Nat.add_assoc] at hx
   cases y with
   | fld k =>
    refine R.setFld (V.set p x) k v h h1 (fun j hj=>hg j (by omega)) ?_
    intro z hz
    exact R.set p hz h2 (fun j hj=>hg j (by omega)) hx
   | idx i =>
    cases s<;>simp [Shape.step] at h1
    rename_i n e
    obtain⟨hi,rfl,rfl⟩:=h1
    obtain⟨f,rfl⟩:=R.arr_of h
    obtain⟨e',he,h4⟩:=h
    simp only[Shape.arr.injEq,true_and] at he
    subst he
    refine⟨e,rfl,fun j hj=>?_⟩
    show R C (V.ite (j==i) (V.set p x (f j)) (f j)) _
    rw[V.ite_eq]
    by_cases hji:j=i
    ·subst hji
     simp only[beq_self_eq_true,cond_true]
     exact R.set p (h4 j hj) h2 (fun k hk=>hg k (by omega)) hx
    ·have:(j==i)=false:=by simpa using hji
     rw[this,cond_false]
     refine R.shift _ (h4 j hj) fun k hk=>hg _ ?_
     intro hc
     rcases Nat.lt_or_gt_of_ne hji with hlt | hlt
     ·have a1:(j + 1) * e.size≤i * e.size:=Nat.mul_le_mul_right _ hlt
      rw[Nat.add_mul] at a1; omega
     ·have a1:(i + 1) * e.size≤j * e.size:=Nat.mul_le_mul_right _ hlt
      rw[Nat.add_mul] at a1; omega
   | sub off k =>
    have hst:=h1
    cases s<;>simp [Shape.step] at h1
    rename_i n e
    obtain⟨hi,rfl,rfl⟩:=h1
    obtain⟨f,rfl⟩:=R.arr_of h
    have hsub:=R.step h hst
    obtain⟨e',he,h4⟩:=h
    simp only[Shape.arr.injEq,true_and] at he
    subst he
    have hz:(Shape.arr k e).size=k * e.size:=rfl
    rw[hz] at hle
    have hnew:R C (V.set p x (.arr k fun i=>f (off + i))) (.cel (.arr k e) g' (o + off * e.size)):=R.set p hsub h2 (fun j hj=>hg j (by omega)) hx
    refine⟨e,rfl,fun j hj=>?_⟩
    show R C (V.ite (decide (off≤j)&&decide (j < off + k)) ((V.set p x (.arr k fun i=>f (off + i))).step (.idx (j - off))) (f j)) _
    rw[V.ite_eq]
    by_cases hji:off≤j∧j < off + k
    ·rw[show (decide (off≤j)&&decide (j < off + k))=true by simp [hji],cond_true]
     have h5:=R.step (x:=.idx (j - off)) (d:=(j - off) * e.size) (t:=e) hnew (by simp [Shape.step]; omega)
     have h6:j * e.size=off * e.size + (j - off) * e.size:=by rw[←Nat.add_mul]; congr 1; omega
     rw[h6,←Nat.add_assoc]
     exact h5
    ·rw[show (decide (off≤j)&&decide (j < off + k))=false by simpa using hji,cond_false]
     refine R.shift _ (h4 j hj) fun q hq=>hg _ ?_
     intro hc
     rcases Nat.lt_or_ge j off with hlt | hlt
     ·have a1:(j + 1) * e.size≤off * e.size:=Nat.mul_le_mul_right _ hlt
      rw[Nat.add_mul] at a1; omega
     ·have a1:(off + k) * e.size≤j * e.size:=Nat.mul_le_mul_right _ (by omega)
      rw[Nat.add_mul] at a1; omega
  ·exact absurd hs (by simp)
def V.isAgg:V→Bool
 | .nl | .cons _ _ | .arr _ _=>true
 | _=>false
def V.isLeaf:V→Bool
 | .nl | .cons _ _ | .arr _ _ | .tup _ | .unk=>false
 | _=>true
theorem R.agg_at {C:Ctx}{v:V}{x:Value}(h:R C v (.val x)) (ha:v.isAgg=true):∃ s cs,x=.agg cs∧cs.size=s.size∧s≠.sc∧R C v (.cel s (fun i=>cs[i]?) 0):=by
 cases v<;>simp [V.isAgg] at ha
 ·exact⟨.nl,#[],h,rfl,by simp,rfl⟩
 ·obtain⟨cs,a,b,h1,h2,h3,h4⟩:=h
  exact⟨.cons a b,cs,h1,h2,by simp,a,b,rfl,h3,by simpa using h4⟩
 ·obtain⟨cs,e,h1,h2,h3⟩:=h
  exact⟨.arr _ e,cs,h1,h2,by simp,e,rfl,fun i hi=>by simpa using h3 i hi⟩
theorem R.leaf_at {C:Ctx}{v:V}{x:Value}(h:R C v (.val x)) (ha:v.isLeaf=true) {g:Nat→Option Value}{o:Nat}(hg:g o=some x):R C v (.cel .sc g o):=by
 have leaf:∀ {y:Value},(M.val x).leaf y→(M.cel .sc g o).leaf y:=fun h=>⟨rfl,by rw[hg]; exact congrArg some h⟩
 cases v<;>simp [V.isLeaf] at ha<;>simp only[RR] at h ⊢
 ·exact leaf h
 ·exact leaf h
 ·exact leaf h
 ·obtain⟨h0,b,off,h1,h2,h3⟩:=h; exact⟨h0,b,off,h1,h2,leaf h3⟩
 ·obtain⟨h0,h1,h2,h3⟩:=h; exact⟨h0,h1,h2,leaf h3⟩
 ·obtain⟨h0,ad,c,o1,n,h1,h4⟩:=h; exact⟨h0,ad,c,o1,n,leaf h1,h4⟩
 ·obtain⟨b,o1,h1,h2⟩:=h; exact⟨b,o1,leaf h1,h2⟩
 ·exact leaf h
 ·exact leaf h
 ·exact leaf h
 ·obtain⟨a,c,h1,h2⟩:=h; exact⟨a,c,leaf h1,h2⟩
 ·obtain⟨cs,h1,h2⟩:=h; exact⟨cs,leaf h1,h2⟩
 ·obtain⟨h0,h1,h2⟩:=h; exact⟨h0,h1,leaf h2⟩
theorem R.leaf_one {C:Ctx}{v:V}{x:Value}(h:R C v (.val x)) (ha:v.isLeaf=true):x.oneCell'=true:=by
 obtain⟨y,h1,h2⟩:=R.cells v (R.leaf_at h ha (g:=fun _=>some x) (o:=0) rfl) 0 (by simp [Shape.size])
 simp only[Option.some.injEq] at h1
 subst h1; exact h2
theorem R.sc_val {C:Ctx}{v:V}{g:Nat→Option Value}{o:Nat}{x:Value}(h:R C v (.cel .sc g o)) (hg:g o=some x):R C v (.val x):=by
 have leaf:∀ {y:Value},(M.cel .sc g o).leaf y→(M.val x).leaf y:=fun h=>by have:=h.2; rw[hg] at this; exact Option.some.inj this
 cases v<;>simp only[RR] at h ⊢
 ·exact leaf h
 ·exact leaf h
 ·exact leaf h
 ·simp at h
 ·simp at h
 ·simp at h
 ·obtain⟨h0,b,off,h1,h2,h3⟩:=h; exact⟨h0,b,off,h1,h2,leaf h3⟩
 ·obtain⟨h0,h1,h2,h3⟩:=h; exact⟨h0,h1,h2,leaf h3⟩
 ·obtain⟨h0,ad,c,o1,n,h1,h4⟩:=h; exact⟨h0,ad,c,o1,n,leaf h1,h4⟩
 ·obtain⟨b,o1,h1,h2⟩:=h; exact⟨b,o1,leaf h1,h2⟩
 ·exact leaf h
 ·exact leaf h
 ·exact leaf h
 ·obtain⟨a,c,h1,h2⟩:=h; exact⟨a,c,leaf h1,h2⟩
 ·obtain⟨cs,h1,h2⟩:=h; exact⟨cs,leaf h1,h2⟩
 ·obtain⟨h0,h1,h2⟩:=h; exact⟨h0,h1,leaf h2⟩
theorem R.agg_val {C:Ctx}{v:V}{s:Shape}{cs:Array Value}(h:R C v (.cel s (fun i=>cs[i]?) 0)) (hs:s≠.sc) (hz:cs.size=s.size):R C v (.val (.agg cs)):=by
 cases s with
 | sc=>exact absurd rfl hs
 | nl =>
  cases v<;>first
   | (simp [RR,M.leaf] at h; done)
   | (simp only[Shape.size] at hz; rw[Array.eq_empty_of_size_eq_zero hz]; rfl)
 | cons a b =>
  obtain⟨x,y,rfl⟩:=R.cons_of h
  obtain⟨a',b',h1,h2,h3⟩:=h
  simp only[Shape.cons.injEq] at h1
  obtain⟨rfl,rfl⟩:=h1
  exact⟨cs,a,b,rfl,hz,h2,by simpa using h3⟩
 | arr n e =>
  obtain⟨f,rfl⟩:=R.arr_of h
  obtain⟨e',h1,h2⟩:=h
  simp only[Shape.arr.injEq,true_and] at h1
  subst h1
  exact⟨cs,e,rfl,hz,fun i hi=>by simpa using h2 i hi⟩
class Gl where
 G:Nat→V
 cl:Bool:=false
variable [Gl]
inductive Kind where
 | box (t:TypeId)
 | row (e:TypeId)
 | dead
 | lp (mask:Nat) (ps:Array Tmp) (a b:Code)
 | mp
structure Blk where
 k:Kind
 sh:Shape
 v:V
def Blk.alive (b:Blk):Bool:=match b.k with | .dead | .lp .. | .mp=>false | _=>true
def Blk.live (b:Blk):Bool:=match b.k with | .dead=>false | _=>true
omit [Gl] in
theorem Blk.lv {b:Blk}(h:b.alive=true):b.live=true:=by
 unfold Blk.alive at h; unfold Blk.live
 cases hk:b.k<;>rw[hk] at h<;>simp_all
abbrev Mem:=Nat→Option Blk
def dOk (n:Nat) (d:Option Tmp):Bool:=match d with | some d=>decide (d < n) | none=>true
def cOk (N:Nat):Code→Bool
 | .region _ ops _=>ops.toList.all fun o=>dOk N o.dst
 | .seq a b=>cOk N a&&cOk N b
 | .cond _ x y=>cOk N x&&cOk N y
 | .block _ c=>cOk N c
 | .loop c=>cOk N c
 | .scope c=>cOk N c
 | .rangeFunc _ ps a b=>(ps.toList.all fun p=>decide (p < N))&&(cOk N a&&cOk N b)
 | _=>true
def zqg (mask t:Nat):Bool:=Nat.beq (Nat.mod (Nat.shiftRight mask t) 2) 1
def stR (st:V) (r:Loop):Prop:=match st with
 | .nl=>r.state=.ready∧r.pending=none
 | .nilp=>r.state=.busy∧r.pending=none
 | .bool true=>r.state=.done∧r.pending=some .ret
 | .int .i64 (.ofNat i)=>r.state=.done∧r.pending=some (.exit i)
 | _=>False
def okR (ps:Array Tmp) (a b:Code) (n:Nat):Prop:=(ps.toList.all fun p=>decide (p < n))=true∧cOk n a=true∧cOk n b=true
noncomputable def ndR (ps:Array Tmp) (a b:Code):Nat:=leastOf (okR ps a b)
omit [Gl] in
theorem zgs {ps:Array Tmp}{a b:Code}{n:Nat}(h:okR ps a b n):ndR ps a b≤n∧okR ps a b (ndR ps a b):=⟨(leastOf_spec ⟨n,h⟩).2 n h,(leastOf_spec ⟨n,h⟩).1⟩
def zu1 (B:Nat) (C:Ctx) (id:Nat) (mask:Nat) (ps:Array Tmp) (a b:Code) (v:V):Prop :=
 ∃ l r st n τ,C.sv id=.func (.yield l) #[] #[]∧B≤l∧C.w.heap[l]?=some (.loop r)∧(r.params=ps∧r.assign=a∧r.body=b)∧v=.cons st (.arr n τ)∧okR ps a b r.tmps.size∧(∀ t,R C (τ t) (.val (r.tmps.getD t undef)))∧stR st r ∧
  (∀ t,zqg mask t=false→τ t=.unk)
def zA2 (B:Nat) (C:Ctx) (id:Nat) (v:V):Prop:=v=.nilf∧∃ D,C.sv id=.pointer (some ⟨D,0,none⟩)∧B≤D∧C.w.heap[D]?=some (.deferred (some []))
def LoopR (B:Nat) (C:Ctx) (id:Nat) (mask:Nat) (ps:Array Tmp) (a b:Code) (v:V):Prop:=zu1 B C id mask ps a b v∨zA2 B C id v
def xe:Value→Option Nat
 | .func (.yield l) _ _=>some l
 | .map (some b)=>some b
 | v=>xl v
omit [Gl] in
theorem vz {v:Value}{b:Nat}(h:xl v=some b):xe v=some b:=by
 cases v<;>simp [xl] at h
 ·simpa [xe,xl] using h
 ·simpa [xe,xl] using h
def zu2:List MapEntry→List Value
 | []=>[]
 | e::es=>e.key::e.val::zu2 es
def BR (B:Nat) (C:Ctx) (id:Nat) (blk:Blk):Prop :=
 match blk.k with
 | .box t=>∃ g cur e,C.sv id=.pointer (some ⟨g,0,none⟩)∧B≤g∧C.w.heap[g]?=some (.cells cur e (0,0))∧C.shp id=blk.sh∧cur.size=blk.sh.size∧R C blk.v (.cel blk.sh (fun i=>cur[i]?) 0)∧e=t
 | .row e=>∃ n s cells,C.shp id=blk.sh∧blk.sh=.arr n s∧C.w.ownsRow B e s.size (C.sv id) n cells∧R C blk.v (.cel blk.sh (fun i=>cells[i]?) 0)
 | .dead=>True
 | .lp m ps a b=>LoopR B C id m ps a b blk.v
 | .mp=>∃ g es clk,C.sv id=.map (some g)∧B≤g∧C.w.heap[g]?=some (.map es clk)∧R C blk.v (.list (zu2 es.toList))
structure SR (B:Nat) (C:Ctx) (m:Mem):Prop where
 base:B≤C.w.heap.size
 okLt:∀ u b,C.ok u b→b < C.w.heap.size
 al:∀ id blk,m id=some blk→C.al id
 mem:∀ id blk,m id=some blk→BR B C id blk
 sep:∀ id id' blk blk' b,m id=some blk→blk.live=true→m id'=some blk'→blk'.live=true→xe (C.sv id)=some b→xe (C.sv id')=some b→id=id'
 own:∀ id blk b,m id=some blk→blk.live=true→xe (C.sv id)=some b→∀ u,¬ C.ok u b
 gl:∀ g,R C (Gl.G g) (.val (.pointer (some ⟨g,0,none⟩)))
structure Kp (B:Nat) (C C':Ctx):Prop extends Keep C C' where
 below:Below B C.w C'.w
 okn:∀ u b,C'.ok u b→(C.ok u b∨(u=true∧C.ok false b))∨B≤b
omit [Gl] in
theorem Kp.refl (B:Nat) (C:Ctx):Kp B C C:=⟨Keep.refl C,Below.refl B C.w,fun _ _ h=>.inl (.inl h)⟩
omit [Gl] in
theorem Kp.trans {B:Nat}{a b c:Ctx}(h:Kp B a b) (k:Kp B b c):Kp B a c:=⟨h.toKeep.trans k.toKeep,h.below.trans k.below,fun u b x=>by
  rcases k.okn u b x with (h1 | ⟨rfl,h1⟩) | h1
  ·exact h.okn u b h1
  ·rcases h.okn false b h1 with (h2 | ⟨h2,_⟩) | h2
   ·exact .inl (.inr ⟨rfl,h2⟩)
   ·cases h2
   ·exact .inr h2
  ·exact .inr h1⟩
omit [Gl] in
theorem JO {w w':World}{B:Nat}{e:TypeId}{z:Nat}{v:Value}{n:Nat}{xs:List Value}(h:w.ownsRow B e z v n xs) (hb:∀ g,xl v=some g→w'.heap[g]?=w.heap[g]?):w'.ownsRow B e z v n xs:=by
 refine⟨h.1,?_⟩
 rcases h.2 with h2 | ⟨g,cap,cur,hv,hg,hh,r⟩
 ·exact .inl h2
 ·exact .inr ⟨g,cap,cur,hv,hg,by rw[hb g (by rw[hv]; rfl)]; exact hh,r⟩
omit [Gl] in
theorem BR.keep {B:Nat}{C C':Ctx}{id:Nat}{blk:Blk}(h:BR B C id blk) (hal:C.al id) (hk:Keep C C')
  (hb:∀ g,xe (C.sv id)=some g→C'.w.heap[g]?=C.w.heap[g]?):BR B C' id blk:=by
 unfold BR at h ⊢
 cases hkd:blk.k<;>simp only[hkd] at h ⊢
 ·obtain⟨g,cur,e,h1,h2,h3,h4,h5,h6,hT⟩:=h
  exact⟨g,cur,e,by rw[hk.sv _ hal]; exact h1,h2,by rw[hb g (by rw[h1]; rfl)]; exact h3,by rw[hk.shp _ hal]; exact h4,h5,R.keep hk _ _ h6,hT⟩
 ·obtain⟨n,s,cells,h1,h2,h3,h4⟩:=h
  exact⟨n,s,cells,by rw[hk.shp _ hal]; exact h1,h2,by rw[hk.sv _ hal]; exact JO h3 fun g hg=>hb g (vz hg),R.keep hk _ _ h4⟩
 ·rcases h with ⟨l,r,st,n,τ,h1,h2,h3,h4,h7,h8,h9,h10⟩ | ⟨h0,D,h1,h2,h3⟩
  ·exact .inl ⟨l,r,st,n,τ,by rw[hk.sv _ hal]; exact h1,h2,by rw[hb l (by rw[h1]; rfl)]; exact h3,h4,h7,h8,fun t=>R.keep hk _ _ (h9 t),h10⟩
  ·exact .inr ⟨h0,D,by rw[hk.sv _ hal]; exact h1,h2,by rw[hb D (by rw[h1]; rfl)]; exact h3⟩
 ·obtain⟨g,es,clk,h1,h2,h3,h4⟩:=h
  exact⟨g,es,clk,by rw[hk.sv _ hal]; exact h1,h2,by rw[hb g (by rw[h1]; rfl)]; exact h3,R.keep hk _ _ h4⟩
theorem SR.next {B:Nat}{C C':Ctx}{m m':Mem}(h:SR B C m) (hk:Kp B C C') (ch:Nat→Prop)
  (hsame:∀ id,¬ ch id→m' id=m id)
  (hframe:∀ id blk b,¬ ch id→m id=some blk→blk.live=true→xe (C.sv id)=some b→C'.w.heap[b]?=C.w.heap[b]?)
  (hnew:∀ id blk,ch id→m' id=some blk→C'.al id∧BR B C' id blk)
  (hokLt:∀ u b,C'.ok u b→b < C'.w.heap.size)
  (hsep:∀ id id' blk blk' b,m' id=some blk→blk.live=true→m' id'=some blk'→blk'.live=true→ch id→xe (C'.sv id)=some b→xe (C'.sv id')=some b→id=id')
  (hown:∀ id blk b,m' id=some blk→blk.live=true→xe (C'.sv id)=some b→∀ u,¬ C'.ok u b):SR B C' m':=by
 refine⟨Nat.le_trans h.base hk.below.size,hokLt,?_,?_,?_,hown,fun g=>R.keep hk.toKeep _ _ (h.gl g)⟩
 ·intro id blk hm
  by_cases hc:ch id
  ·exact (hnew id blk hc hm).1
  ·exact hk.al _ (h.al id blk (by rw[←hsame id hc]; exact hm))
 ·intro id blk hm
  by_cases hc:ch id
  ·exact (hnew id blk hc hm).2
  ·have hm':m id=some blk:=by rw[←hsame id hc]; exact hm
   by_cases ha:blk.live=true
   ·exact (h.mem id blk hm').keep (h.al id blk hm') hk.toKeep fun g hg=>hframe id blk g hc hm' ha hg
   ·unfold BR; unfold Blk.live at ha
    cases hkd:blk.k<;>simp [hkd] at ha ⊢
 ·intro id id' blk blk' b h1 h2 h3 h4 h5 h6
  by_cases hc:ch id
  ·exact hsep id id' blk blk' b h1 h2 h3 h4 hc h5 h6
  ·by_cases hc':ch id'
   ·exact (hsep id' id blk' blk b h3 h4 h1 h2 hc' h6 h5).symm
   ·rw[hsame id hc] at h1
    rw[hsame id' hc'] at h3
    rw[hk.sv _ (h.al _ _ h1)] at h5
    rw[hk.sv _ (h.al _ _ h3)] at h6
    exact h.sep id id' blk blk' b h1 h2 h3 h4 h5 h6
def upd {α:Type}(f:Nat→α) (n:Nat) (x:α):Nat→α:=fun i=>if i=n then x else f i
omit [Gl] in
@[simp] theorem zp {α:Type}(f:Nat→α) (n:Nat) (x:α):upd f n x n=x:=by simp [upd]
omit [Gl] in
theorem zf {α:Type}(f:Nat→α) {n i:Nat}(x:α) (h:i≠n):upd f n x i=f i:=by simp [upd,h]
theorem SR.lt {B:Nat}{C:Ctx}{m:Mem}(h:SR B C m) {id:Nat}{blk:Blk}{b:Nat}(hm:m id=some blk) (ha:blk.live=true) (hb:xe (C.sv id)=some b):B≤b∧b < C.w.heap.size:=by
 have:=h.mem id blk hm
 unfold BR at this; unfold Blk.live at ha
 cases hkd:blk.k<;>simp only[hkd] at this ha
 ·obtain⟨g,cur,e,h1,h2,h3,_⟩:=this
  rw[h1] at hb; simp only[xe,xl,Option.some.injEq] at hb; subst hb
  exact⟨h2,(Array.getElem?_eq_some_iff.1 h3).1⟩
 ·obtain⟨n,s,cells,_,_,h3,_⟩:=this
  rcases h3.2 with ⟨h4,_⟩ | ⟨g,cap,cur,hv,hg,hh,_⟩
  ·rw[h4] at hb; simp [xe,xl] at hb
  ·rw[hv] at hb; simp only[xe,xl,Option.some.injEq] at hb; subst hb
   exact⟨hg,(Array.getElem?_eq_some_iff.1 hh).1⟩
 ·simp at ha
 ·rcases this with ⟨l,r,st,n,τ,h1,h2,h3,_⟩ | ⟨_,D,h1,h2,h3⟩
  ·rw[h1] at hb; simp only[xe,Option.some.injEq] at hb; subst hb
   exact⟨h2,(Array.getElem?_eq_some_iff.1 h3).1⟩
  ·rw[h1] at hb; simp only[xe,xl,Option.some.injEq] at hb; subst hb
   exact⟨h2,(Array.getElem?_eq_some_iff.1 h3).1⟩
 ·obtain⟨g,es,clk,h1,h2,h3,_⟩:=this
  rw[h1] at hb; simp only[xe,Option.some.injEq] at hb; subst hb
  exact⟨h2,(Array.getElem?_eq_some_iff.1 h3).1⟩
theorem SR.drew {B:Nat}{C:Ctx}{m:Mem}(h:SR B C m):SR B { C with w:=C.w.drew } m∧Kp B C { C with w:=C.w.drew }:=by
 have hk:Kp B C { C with w:=C.w.drew }:=⟨⟨fun _ h=>h,fun _ _=>rfl,fun _ _=>rfl,fun _ _ h=>h,fun _ _ _=>rfl⟩,(Below.refl B C.w).drew,fun _ _ h=>.inl (.inl h)⟩
 exact⟨h.next hk (fun _=>False) (fun _ _=>rfl) (fun _ _ _ _ _ _ _=>rfl) (fun _ _ h=>h.elim) h.okLt (fun _ _ _ _ _ _ _ _ _ h=>h.elim) h.own,hk⟩
theorem SR.grown {B:Nat}{C:Ctx}{m:Mem}(h:SR B C m) {w':World}(hb:Below C.w.heap.size C.w w') (ok':Bool→Nat→Prop)
  (h1:∀ u b,C.ok u b→ok' u b) (h2:∀ u b,ok' u b→(C.ok u b∨(u=true∧C.ok false b))∨(C.w.heap.size≤b∧b < w'.heap.size)):SR B { C with w:=w',ok:=ok' } m∧Kp B C { C with w:=w',ok:=ok' }:=by
 have hk:Kp B C { C with w:=w',ok:=ok' }:=⟨⟨fun _ h=>h,fun _ _=>rfl,fun _ _=>rfl,h1,fun u b hb'=>hb.block b (h.okLt u b hb')⟩,hb.mono h.base,fun u b hb'=>(h2 u b hb').imp id fun h3=>Nat.le_trans h.base h3.1⟩
 refine⟨h.next hk (fun _=>False) (fun _ _=>rfl) (fun id blk b _ hm ha hbb=>hb.block b (h.lt hm ha hbb).2) (fun _ _ h=>h.elim) ?_ (fun _ _ _ _ _ _ _ _ _ h=>h.elim) ?_,hk⟩
 ·intro u b hb'
  rcases h2 u b hb' with (h3 | ⟨_,h3⟩) | h3
  ·exact Nat.lt_of_lt_of_le (h.okLt u b h3) hb.size
  ·exact Nat.lt_of_lt_of_le (h.okLt false b h3) hb.size
  ·exact h3.2
 ·intro id blk b hm ha hbb u hok
  rcases h2 u b hok with (h3 | ⟨_,h3⟩) | h3
  ·exact h.own id blk b hm ha hbb u h3
  ·exact h.own id blk b hm ha hbb false h3
  ·have:=(h.lt hm ha hbb).2; omega
theorem SR.alloc {B:Nat}{C:Ctx}{m:Mem}(h:SR B C m) {n:Nat}(hn:¬ C.al n) (cur:Array Value) (e:TypeId) (blk:Blk) (sv:Value) (hsv:xe sv=some C.w.heap.size)
  (hbr:∀ C':Ctx,Keep C C'→C'.sv n=sv→C'.shp n=blk.sh→C'.w=C.w.alloc (.cells cur e)→BR B C' n blk) :
  let C':Ctx:={ C with al:=fun i=>C.al i∨i=n,sv:=upd C.sv n sv,shp:=upd C.shp n blk.sh,w:=C.w.alloc (.cells cur e) }
  SR B C' (upd m n (some blk))∧Kp B C C':=by
 intro C'
 have hne:∀ id,C.al id→id≠n:=fun id hid e=>hn (e▸hid)
 have hk:Kp B C C':=⟨⟨fun _ h=>.inl h,fun id hid=>zf _ _ (hne id hid),fun id hid=>zf _ _ (hne id hid),fun _ _ h=>h,fun u b hb'=>Below.heap_alloc C.w _ b (h.okLt u b hb')⟩,
  (Below.refl B C.w).alloc h.base _,fun _ _ h=>.inl (.inl h)⟩
 refine⟨h.next hk (fun id=>id=n) (fun id hid=>zf _ _ hid) (fun id blk b _ hm ha hbb=>Below.heap_alloc C.w _ b (h.lt hm ha hbb).2) ?_ ?_ ?_ ?_,hk⟩
 ·intro id blk' hid hm
  subst hid
  simp only[zp,Option.some.injEq] at hm
  subst hm
  exact⟨.inr rfl,hbr C' hk.toKeep (by simp [C']) (by simp [C']) rfl⟩
 ·intro u b hb'
  have:=h.okLt u b hb'
  show b < (C.w.alloc _).heap.size
  simp; omega
 ·intro id id' blk1 blk2 b h1 h2 h3 h4 hid h5 h6
  subst hid
  simp only[C',zp] at h5
  rw[hsv] at h5
  simp only[Option.some.injEq] at h5
  subst h5
  by_cases hid':id'=id
  ·exact hid'.symm
  ·exfalso
   rw[zf _ _ hid'] at h3
   simp only[C',zf _ _ hid'] at h6
   have:=(h.lt h3 h4 h6).2
   omega
 ·intro id blk1 b h1 h2 h3 u hok
  by_cases hid:id=n
  ·subst hid
   simp only[C',zp] at h3
   rw[hsv] at h3
   simp only[Option.some.injEq] at h3
   subst h3
   have:=h.okLt _ _ hok
   omega
  ·rw[zf _ _ hid] at h1
   simp only[C',zf _ _ hid] at h3
   exact h.own id blk1 b h1 h2 h3 u hok
theorem SR.write {B:Nat}{C:Ctx}{m:Mem}(h:SR B C m) {id:Nat}{blk blk':Blk}{b:Nat}(hm:m id=some blk) (ha:blk.live=true) (hb:xe (C.sv id)=some b) (cs:Array Value)
  (hbr:∀ C':Ctx,Keep C C'→C'.sv id=C.sv id→C'.shp id=C.shp id→C'.w=C.w.setRow b cs→BR B C' id blk') :
  let C':Ctx:={ C with w:=C.w.setRow b cs }
  SR B C' (upd m id (some blk'))∧Kp B C C':=by
 intro C'
 have hlt:=h.lt hm ha hb
 have hk:Kp B C C':=⟨⟨fun _ h=>h,fun _ _=>rfl,fun _ _=>rfl,fun _ _ h=>h,fun u b' hb'=>setRow_other C.w b b' cs (fun e=>h.own id blk b hm ha hb u (e▸hb'))⟩,
  ⟨rfl,rfl,rfl,by simp [C'],fun k hk=>setRow_other C.w b k cs (by omega)⟩,fun _ _ h=>.inl (.inl h)⟩
 refine⟨h.next hk (fun i=>i=id) (fun i hi=>zf _ _ hi) ?_ ?_ ?_ ?_ ?_,hk⟩
 ·intro i blk1 b1 hi hm1 ha1 hb1
  exact setRow_other C.w b b1 cs (fun e=>hi (h.sep i id blk1 blk b hm1 ha1 hm ha (e▸hb1) hb))
 ·intro i blk1 hi hm1
  subst hi
  simp only[zp,Option.some.injEq] at hm1
  subst hm1
  exact⟨h.al i blk hm,hbr C' hk.toKeep rfl rfl rfl⟩
 ·intro u b' hb'
  have:=h.okLt u b' hb'
  show b' < (C.w.setRow b cs).heap.size
  simpa using this
 ·intro i i' blk1 blk2 b1 h1 h2 h3 h4 hi h5 h6
  subst hi
  by_cases hi':i'=i
  ·exact hi'.symm
  ·rw[zf _ _ hi'] at h3
   exact h.sep i i' blk blk2 b1 hm ha h3 h4 h5 h6
 ·intro i blk1 b1 h1 h2 h3 u hok
  by_cases hi:i=id
  ·subst hi; exact h.own i blk b1 hm ha h3 u hok
  ·rw[zf _ _ hi] at h1
   exact h.own i blk1 b1 h1 h2 h3 u hok
end Go.Ab
namespace Go.Ab
open Go.RowKit
variable [Gl]
structure Eff where
 v:V
 up:List (Nat×Blk)
 nw:List Blk
 rd:List Nat
abbrev zk (v:V):Eff:=⟨v,[],[],[]⟩
def xf (e:Eff) (n id:Nat):Option Blk:=if n≤id∧id < n + e.nw.length then e.nw[id - n]? else (e.up.lookup id)
def put (m:Mem) (n:Nat) (e:Eff):Mem:=fun id=>match xf e n id with | some b=>some b | none=>m id
omit [Gl] in
theorem VR (m:Mem) (n:Nat) (v:V) (rd:List Nat):put m n ⟨v,[],[],rd⟩=m:=by
 funext id
 have h1:¬ (n≤id∧id < n + 0):=by omega
 simp only[put,xf,List.length_nil,h1,if_false,List.lookup_nil]
omit [Gl] in
theorem jA (m:Mem) (n:Nat) (v:V) (b:Blk) (rd:List Nat):put m n ⟨v,[],[b],rd⟩=upd m n (some b):=by
 funext id
 by_cases h:id=n
 ·subst h; simp [put,xf]
 ·have h1:¬ (n≤id∧id < n + 1):=by omega
  simp only[put,xf,List.length_cons,List.length_nil,Nat.zero_add,h1,if_false,List.lookup_nil,zf _ _ h]
omit [Gl] in
theorem yT (m:Mem) (n:Nat) (v:V) (id:Nat) (b:Blk) (rd:List Nat):put m n ⟨v,[(id,b)],[],rd⟩=upd m id (some b):=by
 funext i
 have h1:¬ (n≤i∧i < n + 0):=by omega
 by_cases h:i=id
 ·subst h; simp only[put,xf,List.length_nil,h1,if_false,List.lookup,beq_self_eq_true,zp]
 ·have:(i==id)=false:=by simpa using h
  simp only[put,xf,List.length_nil,h1,if_false,List.lookup,this,zf _ _ h]
def Does (P:Program) (s:Sem Next) (w:World) (F:Value→World→Prop):Prop :=
 match s.run P w with
 | .ok (.value v) w'=>F v w'
 | .ok .skip w'=>F undef w'
 | .ok (.enter f args) w'=>Calls P f args w' fun e w''=>∃ v,e=.returned v∧F v w''
 | _=>False
def VS (B:Nat) (C:Ctx) (M:Mem) (ids:Nat→Prop) (v:V) (val:Value) (w':World):Prop :=
 ∃ C':Ctx,C'.w=w'∧R C' v (.val val)∧Kp B C C'∧SR B C' M∧∀ id,C'.al id→C.al id∨ids id
def OpSem (P:Program) (B:Nat) (o:Oper) (ρ:Operand→V) (m:Mem) (n:Nat) (e:Eff):Prop :=
 ∀(C:Ctx) (M:Mem) (ρc:Operand→Value),SR B C M→(∀ id∈e.rd,M id=m id)→(∀ x∈e.up,M x.1=m x.1) →
  (∀ i,i < e.nw.length→¬ C.al (n + i))→(∀ x∈o.op.operands.toList,R C (ρ x) (.val (ρc x))) →
  Does P (execOp ρc o) C.w (VS B C (put M n e) (fun id=>n≤id∧id < n + e.nw.length) e.v)
omit [Gl] in
theorem Does.mono {P:Program}{s:Sem Next}{w:World}{F G:Value→World→Prop}(h:∀ v w,F v w→G v w) (hd:Does P s w F):Does P s w G:=by
 unfold Does at *
 generalize s.run P w=r at *
 cases r with
 | ok n w' =>
  cases n<;>simp only at hd ⊢<;>first
   | exact h _ _ hd
   | exact hd.mono fun e w'' ⟨v,h1,h2⟩=>⟨v,h1,h _ _ h2⟩
 | halt x w'=>simp only at hd
def FR (ro:Option Nat):Fence:={ Fence.wide with round:=ro }
omit [Gl] in
theorem zgL {ro:Option Nat}{n:Nat}{P:Program}{f:FuncId}{args:Array Value}{w:World}{R:Ending→World→Prop}(h:Calls P f args w R):CallsIn (FR ro) n P f args w R :=
 show CallsIn Fence.wide n P f args w R from callsIn_wide.2 h
omit [Gl] in
theorem Does.wpR {ro:Option Nat}{P:Program}{o:Oper}{a:Act}{w:World}{F:Value→World→Prop}{K:Act→World→Prop}{Q:Exit→Act→World→Prop}
  (hd:Does P (execOp a.eval o) w F) (h:∀ v w',F v w'→K (a.put o.dst v) w'):o.wpIn (FR ro) 0 P a w K Q:=by
 refine⟨fun _ _=>trivial,?_⟩
 have hno:∀ c,o.op≠.defer c:=by
  intro c hc
  unfold Does at hd
  have:execOp a.eval o=(do let d ←resolve a.eval c o.type; pure (.defer d)):=by unfold execOp; rw[hc]
  rw[this,Sem.run_bind] at hd
  cases hr:(resolve a.eval c o.type).run P w with
  | ok d w'=>rw[hr] at hd; exact hd
  | halt x w'=>rw[hr] at hd; exact hd
 rw[Oper.semAt_eq _ _ _ hno]
 unfold Does at hd
 generalize (execOp a.eval o).run P w=r at *
 cases r with
 | ok n w' =>
  cases n<;>simp only[Oper.uponIn] at hd ⊢<;>first
   | exact h _ _ hd
   | exact⟨fun hx=>(by cases hx),zgL (hd.mono fun e w'' ⟨v,h1,h2⟩=>by subst h1; exact h _ _ h2)⟩
 | halt x w'=>simp only at hd
theorem OpSem.pure {P:Program}{B:Nat}{o:Oper}{ρ:Operand→V}{m:Mem}{n:Nat}{v:V}{rd:List Nat}
  (h:∀(C:Ctx) (M:Mem) (ρc:Operand→Value),SR B C M→(∀ id∈rd,M id=m id)→(∀ x∈o.op.operands.toList,R C (ρ x) (.val (ρc x))) →
   ∃ val,(execOp ρc o).run P C.w=.ok (.value val) C.w∧R C v (.val val)):OpSem P B o ρ m n ⟨v,[],[],rd⟩:=by
 intro C M ρc hs hr _ _ ho
 obtain⟨val,h1,h2⟩:=h C M ρc hs hr ho
 unfold Does
 rw[h1]
 exact⟨C,rfl,h2,Kp.refl B C,by rw[VR]; exact hs,fun id h=>.inl h⟩
def shp (P:Program):Nat→TypeId→Shape
 | 0,_=>.sc
 | d + 1,t=>match P.underlying t with
  | some (.struct fs)=>fs.toList.foldr (fun f acc=>.cons (shp P d f.type) acc) .nl
  | some (.array n e)=>.arr n (shp P d e)
  | _=>.sc
def z5 (P:Program) (t:TypeId):Option Shape :=
 match P.info? t with
 | some i=>if i.size=(shp P 12 t).size then some (shp P 12 t) else none
 | none=>none
def Xj (P:Program) (t:TypeId):Bool:=match P.underlying t with | some (.struct _) | some (.array _ _)=>true | _=>false
def Shape.isSc:Shape→Bool | .sc=>true | _=>false
omit [Gl] in
theorem WC {P:Program}{d:Nat}{t:TypeId}:(shp P (d + 1) t).isSc = !Xj P t:=by
 unfold shp Xj
 cases h:P.underlying t with
 | none=>rfl
 | some x =>
  cases x<;>first
   | rfl
   | (rename_i fs; obtain⟨l⟩:=fs; cases l<;>rfl)
omit [Gl] in
theorem xS {P:Program}{t:TypeId}{s:Shape}(h:z5 P t=some s):∃ i,P.info? t=some i∧i.size=s.size∧s.isSc = !Xj P t:=by
 unfold z5 at h
 split at h
 ·rename_i i hi
  split at h
  ·rename_i hs
   simp only[Option.some.injEq] at h
   subst h
   exact⟨i,hi,hs,WC⟩
  ·cases h
 ·cases h
omit [Gl] in
theorem zN {P:Program}{t:TypeId}{i:TypeInfo}(h:P.info? t=some i) (w:World):(sizeOf t).run P w=.ok i.size w:=by
 simp [sizeOf,typeInfo,h]
omit [Gl] in
theorem yV {P:Program}{t:TypeId}{d:TypeDesc}(h:P.underlying t=some d) (w:World):(isAgg t).run P w=.ok (Xj P t) w:=by
 simp only[isAgg,Sem.run_bind,run_underlying h,Result.andThen_ok]
 unfold Xj; rw[h]
 cases d<;>rfl
omit [Gl] in
theorem vO {P:Program}{C:Ctx}{t:TypeId}{s:Shape}{v:V}{b o:Nat}{d:TypeDesc}(ht:z5 P t=some s) (hu:P.underlying t=some d) (h:R C v (.cel s (cg C.w b) o)) :
  ∃ val,(loadVar t ⟨b,o,none⟩).run P C.w=.ok val C.w∧R C v (.val val):=by
 obtain⟨i,hi,hsz,hsc⟩:=xS ht
 have hadd:∀ j,(⟨b,o,none⟩:Addr).add j=⟨b,o + j,none⟩:=by intro j; unfold Addr.add; split<;>simp_all
 unfold loadVar
 simp only[Sem.run_bind,yV hu,Result.andThen_ok,Sem.run_ite]
 cases ha:Xj P t with
 | true =>
  rw[ha] at hsc
  simp only[if_true,zN hi,Result.andThen_ok,hsz]
  have hcell:=R.cells v h
  let f:Nat→Value:=fun j=>if hj:j < s.size then Classical.choose (hcell j hj) else undef
  have hf:∀ j,j < s.size→C.w.cell? ((⟨b,o,none⟩:Addr).add j)=some (f j):=by
   intro j hj
   rw[hadd]
   simp only[f,dif_pos hj]
   exact (Classical.choose_spec (hcell j hj)).1
  rw[run_loadCells (P:=P) (w:=C.w) ⟨b,o,none⟩ s.size f hf]
  refine⟨_,rfl,?_⟩
  refine R.agg_val (s:=s) (R.shift v h ?_) (by rintro rfl; simp [Shape.isSc] at hsc) (by simp)
  intro k hk
  have:=hf k hk
  rw[hadd] at this
  show (List.map f (List.range s.size)).toArray[0 + k]?=C.w.cell? ⟨b,o + k,none⟩
  rw[this]
  simp [hk]
 | false =>
  rw[ha] at hsc
  simp only[Bool.false_eq_true,if_false]
  cases s<;>simp [Shape.isSc] at hsc
  obtain⟨x,hx,_⟩:=R.cells v h 0 (by simp [Shape.size])
  have hx':C.w.cell? ⟨b,o,none⟩=some x:=hx
  refine⟨x,by simp [hx'],R.sc_val h hx⟩
end Go.Ab
namespace Go.Ab
open Go.RowKit
variable [Gl]
omit [Gl] in
theorem Shape.path_snoc:∀(p:List Step) {s t u:Shape}{d e:Nat}{x:Step},Shape.path p s=some (d,t)→t.step x=some (e,u)→Shape.path (p++[x]) s=some (d + e,u)
 | [],s,t,u,d,e,x,h,hx=>by
  simp only[Shape.path,Option.some.injEq,Prod.mk.injEq] at h
  obtain⟨rfl,rfl⟩:=h
  simp [Shape.path,hx]
 | y::p,s,t,u,d,e,x,h,hx=>by
  simp only[Shape.path] at h
  split at h
  ·rename_i d1 t1 h1
   simp only[Option.map_eq_some_iff] at h
   obtain⟨⟨d2,t2⟩,h2,h3⟩:=h
   simp only[Prod.mk.injEq] at h3
   obtain⟨rfl,rfl⟩:=h3
   simp only[List.cons_append,Shape.path,h1,Shape.path_snoc p h2 hx,Option.map_some]
   rw[Nat.add_assoc]
  ·cases h
def V.fits:V→Shape→Bool
 | .nl,.nl=>true
 | .cons h t,.cons a b=>h.fits a&&t.fits b
 | .arr n f,.arr m e=>n==m&&(List.range n).all fun i=>(f i).fits e
 | .nl,_ | .cons _ _,_ | .arr _ _,_=>false
 | .tup _,_=>false
 | _,.sc=>true
 | _,_=>false
omit [Gl] in
theorem R.sizes {C:Ctx}(v:V):∀ {s s':Shape}{g:Nat→Option Value}{o:Nat},R C v (.cel s' g o)→R C v (.cel s g o)→s'.size=s.size:=by
 have leaf:∀ {x:Value}{s s':Shape}{g:Nat→Option Value}{o:Nat},(M.cel s' g o).leaf x→(M.cel s g o).leaf x→s'.size=s.size:=by
  intro x s s' g o h h'; rw[h.1,h'.1]
 induction v with
 | nl=>intro s s' g o h h'; rw[show s'=.nl from h,show s=.nl from h']
 | cons x t ih1 ih2 =>
  intro s s' g o h h'
  obtain⟨a,b,rfl,h2,h3⟩:=h
  obtain⟨a',b',rfl,h2',h3'⟩:=h'
  have e1:=ih1 h2 h2'
  rw[e1] at h3
  simp only[Shape.size,e1,ih2 h3 h3']
 | arr n f ih =>
  intro s s' g o h h'
  obtain⟨e,rfl,h2⟩:=h
  obtain⟨e',rfl,h2'⟩:=h'
  simp only[Shape.size]
  rcases Nat.eq_zero_or_pos n with h0 | h0
  ·simp [h0]
  ·have a1:=h2 0 h0
   have a2:=h2' 0 h0
   simp only[Nat.zero_mul,Nat.add_zero] at a1 a2
   rw[ih 0 a1 a2]
 | unk=>intro s s' g o h h'; rw[h.1,h'.1]
 | yld id=>intro s s' g o h h'; exact leaf h.2.2 h'.2.2
 | tup l ih=>intro s s' g o h h'; exact h.elim
 | int k n=>intro s s' g o h h'; exact leaf h h'
 | bool k=>intro s s' g o h h'; exact leaf h h'
 | str k=>intro s s' g o h h'; exact leaf h h'
 | nilp=>intro s s' g o h h'; exact leaf h h'
 | nils=>intro s s' g o h h'; exact leaf h h'
 | nilf=>intro s s' g o h h'; exact leaf h h'
 | ptr id p s0=>intro s s' g o h h'; obtain⟨h0,b,off,h1,h2,h3⟩:=h; obtain⟨h0',b',off',h1',h2',h3'⟩:=h'; rw[h3.1,h3'.1]
 | row id e n=>intro s s' g o h h'; exact leaf h.2.2.2 h'.2.2.2
 | sl id p e off len cap=>intro s s' g o h h'; obtain⟨h0,ad,c,o1,n,h3,h4⟩:=h; obtain⟨h0',ad',c',o1',n',h3',h4'⟩:=h'; rw[h3.1,h3'.1]
 | ref u s1 c ih=>intro s s' g o h h'; obtain⟨b,o1,h1,h2⟩:=h; obtain⟨b',o1',h1',h2'⟩:=h'; rw[h1.1,h1'.1]
 | ro u clip e len f ih=>intro s s' g o h h'; obtain⟨a,c,h1,h2⟩:=h; obtain⟨a',c',h1',h2'⟩:=h'; rw[h1.1,h1'.1]
 | fn f cap ih=>intro s s' g o h h'; obtain⟨cs,h1,h2⟩:=h; obtain⟨cs',h1',h2'⟩:=h'; rw[h1.1,h1'.1]
omit [Gl] in
theorem R.fits {C:Ctx}(v:V):∀ {s s':Shape}{g:Nat→Option Value}{o:Nat},R C v (.cel s' g o)→v.fits s=true→R C v (.cel s g o):=by
 induction v with
 | nl=>intro s s' g o h hf; cases s<;>simp [V.fits] at hf; rfl
 | cons x t ih1 ih2 =>
  intro s s' g o h hf
  cases s<;>simp [V.fits] at hf
  rename_i a b
  obtain⟨a',b',rfl,h2,h3⟩:=h
  have e1:=ih1 h2 hf.1
  have hsz:a'.size=a.size:=by
   exact R.sizes x h2 e1
  refine⟨a,b,rfl,e1,?_⟩
  rw[←hsz]
  exact ih2 h3 hf.2
 | arr n f ih =>
  intro s s' g o h hf
  cases s<;>simp [V.fits] at hf
  rename_i m e
  obtain⟨rfl,hf⟩:=hf
  obtain⟨e',rfl,h2⟩:=h
  refine⟨e,rfl,fun i hi=>?_⟩
  have e1:=ih i (h2 i hi) (hf i hi)
  have hsz:e'.size=e.size:=R.sizes (f i) (h2 i hi) e1
  rw[←hsz]
  exact e1
 | unk=>intro s s' g o h hf; cases s<;>simp [V.fits] at hf; exact⟨rfl,h.2⟩
 | yld id=>intro s s' g o h hf; cases s<;>simp [V.fits] at hf; exact⟨h.1,h.2.1,rfl,h.2.2.2⟩
 | tup l ih=>intro s s' g o h hf; simp [V.fits] at hf
 | int k n=>intro s s' g o h hf; cases s<;>simp [V.fits] at hf; exact⟨rfl,h.2⟩
 | bool k=>intro s s' g o h hf; cases s<;>simp [V.fits] at hf; exact⟨rfl,h.2⟩
 | str k=>intro s s' g o h hf; cases s<;>simp [V.fits] at hf; exact⟨rfl,h.2⟩
 | nilp=>intro s s' g o h hf; cases s<;>simp [V.fits] at hf; exact⟨rfl,h.2⟩
 | nils=>intro s s' g o h hf; cases s<;>simp [V.fits] at hf; exact⟨rfl,h.2⟩
 | nilf=>intro s s' g o h hf; cases s<;>simp [V.fits] at hf; exact⟨rfl,h.2⟩
 | ptr id p s0=>intro s s' g o h hf; cases s<;>simp [V.fits] at hf; obtain⟨h0,b,off,h1,h2,h3⟩:=h; exact⟨h0,b,off,h1,h2,rfl,h3.2⟩
 | row id e n=>intro s s' g o h hf; cases s<;>simp [V.fits] at hf; obtain⟨h0,h1,h2,h3⟩:=h; exact⟨h0,h1,h2,rfl,h3.2⟩
 | sl id p e off len cap=>intro s s' g o h hf; cases s<;>simp [V.fits] at hf; obtain⟨h0,ad,c,o1,n,h3,h4⟩:=h; exact⟨h0,ad,c,o1,n,⟨rfl,h3.2⟩,h4⟩
 | ref u s1 c ih=>intro s s' g o h hf; cases s<;>simp [V.fits] at hf; obtain⟨b,o1,h1,h2⟩:=h; exact⟨b,o1,⟨rfl,h1.2⟩,h2⟩
 | ro u clip e len f ih=>intro s s' g o h hf; cases s<;>simp [V.fits] at hf; obtain⟨a,c,h1,h2⟩:=h; exact⟨a,c,⟨rfl,h1.2⟩,h2⟩
 | fn f cap ih=>intro s s' g o h hf; cases s<;>simp [V.fits] at hf; obtain⟨cs,h1,h2⟩:=h; exact⟨cs,⟨rfl,h1.2⟩,h2⟩
def V.known:V→Bool
 | .unk=>false
 | _=>true
omit [Gl] in
theorem R.cells_of {C:Ctx}{v:V}{s:Shape}{x:Value}(h:R C v (.val x)) (hf:v.fits s=true) (hu:v.known=true) :
  x.cells.size=s.size∧R C v (.cel s (fun i=>x.cells[i]?) 0)∧∀ u∈x.cells.toList,u.oneCell'=true:=by
 by_cases ha:v.isAgg=true
 ·obtain⟨s',cs,rfl,h2,h3,h4⟩:=R.agg_at h ha
  have h5:=R.fits v h4 hf
  have hz:=R.sizes v h4 h5
  refine⟨by simp [Value.cells,h2,hz],h5,fun u hu=>?_⟩
  obtain⟨k,hk,rfl⟩:=List.mem_iff_getElem.1 hu
  simp only[Value.cells,Array.length_toList] at hk
  obtain⟨y,h6,h7⟩:=R.cells v h5 k (by omega)
  have:(Value.agg cs).cells[0 + k]?=some y:=h6
  simp only[Value.cells,Nat.zero_add,Array.getElem?_eq_getElem hk,Option.some.injEq] at this
  simp only[Value.cells,Array.getElem_toList]
  rw[this]; exact h7
 ·have hls:v.isLeaf=true∧s=.sc:=by
   cases v<;>cases s<;>first
    | exact⟨rfl,rfl⟩
    | exact absurd rfl ha
    | (simp [V.fits] at hf; done)
    | (simp [V.known] at hu; done)
  obtain⟨hl,rfl⟩:=hls
  have h1:=R.leaf_one h hl
  have hc:x.cells=#[x]:=by cases x<;>first | rfl | simp [Value.oneCell'] at h1
  refine⟨by simp [hc,Shape.size],R.leaf_at h hl (by simp [hc]),?_⟩
  intro u hu
  simp [hc] at hu
  subst hu; exact h1
end Go.Ab
namespace Go.Ab
open Go.RowKit
variable [Gl]
def V.ofVal:Value→V
 | .int k n=>.int k n
 | .bool b=>.bool b
 | .string s=>.str s
 | .pointer none=>.nilp
 | .slice none 0 0=>.nils
 | .nilFunc=>.nilf
 | .nilIface=>.fn 2147483648 .nl
 | _=>.unk
omit [Gl] in
theorem R.nilI {C:Ctx}{m:Ab.M}(h:m.leaf .nilIface):R C (.fn 2147483648 .nl) m :=
 ⟨⟨#[],#[],fun h=>absurd h (by decide),fun h=>absurd h (by decide)⟩,by rw[FC.vw_lt (by decide)]; exact h,rfl,.lt (by decide)⟩
omit [Gl] in
theorem R.ofVal (C:Ctx) (v:Value):R C (V.ofVal v) (.val v):=by
 unfold V.ofVal
 split<;>first
  | rfl
  | exact R.nilI rfl
  | exact trivial
def VP (P:Program):Nat→TypeId→V
 | 0,_=>.unk
 | d + 1,t=>match P.underlying t with
  | some (.struct fs)=>fs.toList.foldr (fun f acc=>.cons (VP P d f.type) acc) .nl
  | some (.array n e)=>.arr n fun _=>VP P d e
  | _=>match P.info? t with
   | some i=>match i.zero with
    | some z=>V.ofVal z
    | none=>.unk
   | none=>.unk
def V.held:V→Shape→(Nat→Option Value)→Nat→Bool
 | .int k n,.sc,g,o=>match g o with | some (.int k' n')=>k==k'&&n==n' | _=>false
 | .bool b,.sc,g,o=>match g o with | some (.bool b')=>b==b' | _=>false
 | .str s,.sc,g,o=>match g o with | some (.string s')=>s.data.toList==s'.data.toList | _=>false
 | .nilp,.sc,g,o=>match g o with | some (.pointer none)=>true | _=>false
 | .nils,.sc,g,o=>match g o with | some (.slice none 0 0)=>true | _=>false
 | .nilf,.sc,g,o=>match g o with | some .nilFunc=>true | _=>false
 | .unk,.sc,g,o=>match g o with | some v=>v.oneCell' | _=>false
 | .nl,.nl,_,_=>true
 | .cons h t,.cons a b,g,o=>h.held a g o&&t.held b g (o + a.size)
 | .arr n f,.arr m e,g,o=>n==m&&(List.range n).all fun i=>(f i).held e g (o + i * e.size)
 | .fn f .nl,.sc,g,o=>f==2147483648&&match g o with | some .nilIface=>true | _=>false
 | _,_,_,_=>false
omit [Gl] in
theorem R.held {C:Ctx}(v:V):∀ {s:Shape}{g:Nat→Option Value}{o:Nat},v.held s g o=true→R C v (.cel s g o):=by
 induction v with
 | nl=>intro s g o h; cases s<;>simp [V.held] at h; rfl
 | cons x t ih1 ih2 =>
  intro s g o h
  cases s<;>simp [V.held] at h
  exact⟨_,_,rfl,ih1 h.1,ih2 h.2⟩
 | arr n f ih =>
  intro s g o h
  cases s<;>simp [V.held] at h
  obtain⟨rfl,h⟩:=h
  exact⟨_,rfl,fun i hi=>ih i (h i hi)⟩
 | int k n =>
  intro s g o h
  cases s<;>simp only[V.held] at h<;>(try (simp at h; done))
  split at h
  ·rename_i k' n' hg; simp at h; obtain⟨rfl,rfl⟩:=h; exact⟨rfl,hg⟩
  ·cases h
 | bool b =>
  intro s g o h
  cases s<;>simp only[V.held] at h<;>(try (simp at h; done))
  split at h
  ·rename_i b' hg; simp at h; subst h; exact⟨rfl,hg⟩
  ·cases h
 | str x =>
  intro s g o h
  cases s<;>simp only[V.held] at h<;>(try (simp at h; done))
  split at h
  ·rename_i y hg
   have:x=y:=by
    obtain⟨⟨a⟩⟩:=x; obtain⟨⟨b⟩⟩:=y
    simp at h; simp [h]
   subst this; exact⟨rfl,hg⟩
  ·cases h
 | nilp =>
  intro s g o h
  cases s<;>simp only[V.held] at h<;>(try (simp at h; done))
  split at h
  ·exact⟨rfl,‹_›⟩
  ·cases h
 | nils =>
  intro s g o h
  cases s<;>simp only[V.held] at h<;>(try (simp at h; done))
  split at h
  ·exact⟨rfl,‹_›⟩
  ·cases h
 | nilf =>
  intro s g o h
  cases s<;>simp only[V.held] at h<;>(try (simp at h; done))
  split at h
  ·exact⟨rfl,‹_›⟩
  ·cases h
 | unk =>
  intro s g o h
  cases s<;>simp only[V.held] at h<;>(try (simp at h; done))
  split at h
  ·exact⟨rfl,_,‹_›,h⟩
  ·cases h
 | fn f c _ =>
  intro s g o h
  cases s<;>cases c<;>simp only[V.held] at h<;>(try (simp at h; done))
  rw[Bool.and_eq_true] at h
  obtain⟨h1,h2⟩:=h
  obtain rfl:=eq_of_beq h1
  split at h2
  ·exact R.nilI ⟨rfl,‹_›⟩
  ·cases h2
 | _=>intro s g o h; cases s<;>simp [V.held] at h
def xu (P:Program) (t:TypeId):Option (Shape×V) :=
 match z5 P t,P.info? t with
 | some s,some i=>match i.zero with
  | some z=>if z.cells.size=s.size∧(VP P 12 t).held s (fun j=>z.cells[j]?) 0=true then some (s,VP P 12 t) else none
  | none=>none
 | _,_=>none
omit [Gl] in
theorem VQ {P:Program}{t:TypeId}{s:Shape}{v:V}(h:xu P t=some (s,v)) :
  z5 P t=some s∧∃ z,(∀ w,(zeroValue t).run P w=.ok z w)∧z.cells.size=s.size∧∀ C,R C v (.cel s (fun j=>z.cells[j]?) 0):=by
 unfold xu at h
 split at h
 ·rename_i s' i h1 h2
  split at h
  ·rename_i z hz
   split at h
   ·rename_i hc
    simp only[Option.some.injEq,Prod.mk.injEq] at h
    obtain⟨rfl,rfl⟩:=h
    exact⟨h1,z,fun w=>by simp [zeroValue,typeInfo,h2,hz],hc.1,fun C=>R.held _ hc.2⟩
   ·cases h
  ·cases h
 ·cases h
variable {P:Program}{B:Nat}{o:Oper}{ρ:Operand→V}{m:Mem}{n:Nat}
theorem zap {x:Operand}(ho:o.op=.move x∨o.op=.assign x):OpSem P B o ρ m n (zk (ρ x)) :=
 OpSem.pure fun C M ρc _ _ hx=>⟨ρc x,by rcases ho with ho | ho<;>simp [execOp,ho],hx x (by rcases ho with ho | ho<;>simp [ho,Op.operands])⟩
theorem zgJ {c a b:Operand}{t:Bool}(ho:o.op=.pick c a b) (hc:ρ c=.bool t):OpSem P B o ρ m n (zk (V.ite t (ρ a) (ρ b))) :=
 OpSem.pure fun C M ρc _ _ hx=>by
  have h0:=hx c (by simp [ho,Op.operands])
  rw[hc] at h0
  have h0':ρc c=.bool t:=h0
  refine⟨if t then ρc a else ρc b,by simp [execOp,ho,h0',asBool],?_⟩
  rw[V.ite_eq]
  cases t
  ·exact hx b (by simp [ho,Op.operands])
  ·exact hx a (by simp [ho,Op.operands])
theorem zaq {C:Ctx}{M:Mem}{cs:Array Value}{t:TypeId}{s:Shape}{v:V}{op:Sem Next}(hs:SR B C M) (hn:¬ C.al n)
  (hrun:op.run P C.w=.ok (.value (.pointer (some ⟨C.w.heap.size,0,none⟩))) (C.w.alloc (.cells cs t))) (hz:cs.size=s.size) (hv:R C v (.cel s (fun i=>cs[i]?) 0)) :
  Does P op C.w (VS B C (upd M n (some ⟨.box t,s,v⟩)) (fun id=>n≤id∧id < n + 1) (.ptr n [] s)):=by
 unfold Does
 rw[hrun]
 obtain⟨h1,h2⟩:=hs.alloc hn cs t ⟨.box t,s,v⟩ (.pointer (some ⟨C.w.heap.size,0,none⟩)) rfl (by
  intro C' hk h3 h4 h5
  exact⟨C.w.heap.size,cs,t,h3,hs.base,by rw[h5]; exact heap_alloc_new C.w _,h4,hz,R.keep hk _ _ hv,rfl⟩)
 refine⟨_,rfl,⟨Or.inr rfl,C.w.heap.size,0,by simp [xl],by simp [Shape.path],rfl⟩,h2,h1,fun id h=>?_⟩
 rcases h with h | h
 ·exact .inl h
 ·exact .inr ⟨by omega,by omega⟩
theorem zfn {t:TypeId}{s:Shape}{z:V}(ho:o.op=.alloc t) (hz:xu P t=some (s,z)):OpSem P B o ρ m n ⟨.ptr n [] s,[],[⟨.box t,s,z⟩],[]⟩:=by
 intro C M ρc hs _ _ hn _
 obtain⟨_,zv,h1,h2,h3⟩:=VQ hz
 rw[jA]
 refine zaq hs (by simpa using hn 0 (by simp)) (cs:=zv.cells) (t:=t) ?_ h2 (h3 C)
 simp [execOp,ho,Instr.alloc,h1,newVar,newRow]
theorem zlm {t:TypeId}{x:Operand}{s:Shape}(ho:o.op=.box t x) (hf:(ρ x).fits s=true) (hk:(ρ x).known=true):OpSem P B o ρ m n ⟨.ptr n [] s,[],[⟨.box t,s,ρ x⟩],[]⟩:=by
 intro C M ρc hs _ _ hn hx
 obtain⟨h1,h2,_⟩:=R.cells_of (hx x (by simp [ho,Op.operands])) hf hk
 rw[jA]
 refine zaq hs (by simpa using hn 0 (by simp)) (cs:=(ρc x).cells) (t:=t) ?_ h1 h2
 simp [execOp,ho,Instr.box,newVar,newRow]
omit [Gl] in
theorem BR.at {C:Ctx}{id:Nat}{blk:Blk}{b d:Nat}{p:List Step}{t:Shape}(h:BR B C id blk) (ha:blk.alive=true) (hb:xl (C.sv id)=some b) (hp:Shape.path p (C.shp id)=some (d,t)) :
  R C (blk.v.path p) (.cel t (cg C.w b) d)∧C.shp id=blk.sh:=by
 unfold BR at h; unfold Blk.alive at ha
 cases hkd:blk.k<;>simp only[hkd] at h ha
 ·obtain⟨g,cur,e,h1,h2,h3,h4,h5,h6,hT⟩:=h
  rw[h1] at hb; simp only[xl,Option.some.injEq] at hb; subst hb
  rw[h4] at hp
  have h7:=R.path p h6 hp
  rw[Nat.zero_add] at h7
  refine⟨?_,h4⟩
  have:(fun i=>cur[i]?)=cg C.w g:=by funext i; exact (cell_of_row C.w g i cur e (0,0) h3).symm
  rw[←this]; exact h7
 ·obtain⟨n,s,cells,h1,h2,h3,h4⟩:=h
  rw[h1] at hp
  have h7:=R.path p h4 hp
  rw[Nat.zero_add] at h7
  refine⟨?_,h1⟩
  refine R.shift _ h7 fun k hk=>?_
  have hle:=Shape.path_le p _ hp
  rcases h3.2 with ⟨h8,_⟩ | ⟨g,cap,cur,hv,hg,hh,hnc,_,hcs,htake⟩
  ·rw[h8] at hb; simp [xl] at hb
  ·rw[hv] at hb; simp only[xl,Option.some.injEq] at hb; subst hb
   show C.w.cell? ⟨g,d + k,none⟩=cells[d + k]?
   rw[cell_of_row C.w g (d + k) cur _ (0,0) hh,←htake,List.getElem?_take]
   rw[h2] at hle
   simp only[Shape.size] at hle
   rw[if_pos (by omega)]
   simp
 ·simp at ha
 ·simp at ha
 ·simp at ha
theorem zgK {t:TypeId}{x:Operand}{id:Nat}{p:List Step}{blk:Blk}{s:Shape}{d:TypeDesc}(ho:o.op=.load t x) (hx:ρ x=.ptr id p s) (hm:m id=some blk) (ha:blk.alive=true)
  (ht:z5 P t=some s) (hu:P.underlying t=some d):OpSem P B o ρ m n ⟨blk.v.path p,[],[],[id]⟩ :=
 OpSem.pure fun C M ρc hs hr hrel=>by
  have h0:=hrel x (by simp [ho,Op.operands])
  rw[hx] at h0
  obtain⟨hal,b,off,h1,h2,h3⟩:=h0
  have h3':ρc x=.pointer (some ⟨b,off,none⟩):=h3
  have hM:M id=some blk:=by rw[hr id (by simp),hm]
  obtain⟨h4,h5⟩:=BR.at (hs.mem id blk hM) ha h1 h2
  obtain⟨val,h6,h7⟩:=vO ht hu h4
  exact⟨val,by simp [execOp,ho,h3',Instr.loadAt,Instr.sureAddr,h6],h7⟩
theorem WB {t:TypeId}{x:Operand}{u:Bool}{c:V}{s:Shape}{d:TypeDesc}(ho:o.op=.load t x) (hx:ρ x=.ref u s c) (ht:z5 P t=some s) (hu:P.underlying t=some d):OpSem P B o ρ m n (zk c) :=
 OpSem.pure fun C M ρc hs hr hrel=>by
  have h0:=hrel x (by simp [ho,Op.operands])
  rw[hx] at h0
  obtain⟨b,off,h1,h2,h3⟩:=h0
  have h1':ρc x=.pointer (some ⟨b,off,none⟩):=h1
  obtain⟨val,h6,h7⟩:=vO (C:=C.pur) ht hu h3
  exact⟨val,by simp only[Ctx.pur] at h6; simp [execOp,ho,h1',Instr.loadAt,Instr.sureAddr,h6],R.keep (Keep.of_pur C) _ _ h7⟩
omit [Gl] in
theorem xA (cur:Array Value) (o:Nat) (vs:List Value) (h:o + vs.length≤cur.size):(cur.toList.take o++vs++cur.toList.drop (o + vs.length)).length=cur.size:=by
 simp; omega
omit [Gl] in
theorem vN (cur:Array Value) (o:Nat) (vs:List Value) (h:o + vs.length≤cur.size) (j:Nat) :
  (cur.toList.take o++vs++cur.toList.drop (o + vs.length))[j]?=if o≤j∧j < o + vs.length then vs[j - o]? else cur[j]?:=by
 have hlen:(cur.toList.take o).length=o:=by simp; omega
 rw[List.append_assoc,List.getElem?_append]
 by_cases h1:j < o
 ·rw[hlen,if_pos h1,if_neg (by omega),List.getElem?_take,if_pos h1]; simp
 ·rw[hlen,if_neg h1,List.getElem?_append]
  by_cases h2:j < o + vs.length
  ·rw[if_pos (by omega),if_pos ⟨by omega,h2⟩]
  ·rw[if_neg (by omega),if_neg (by omega),List.getElem?_drop]
   rw[show o + vs.length + (j - o - vs.length)=j by omega]; simp
theorem zbK {C:Ctx}{M:Mem}{id:Nat}{blk:Blk}{p:List Step}{x:V}{val:Value}{b d:Nat}{t:Shape}{op:Sem Next}(hs:SR B C M) (hm:M id=some blk) (ha:blk.alive=true)
  (hb:xl (C.sv id)=some b) (hp:Shape.path p (C.shp id)=some (d,t)) (hx:R C x (.val val)) (hf:x.fits t=true) (hk:x.known=true)
  (hrun:∀ w',(storeCells ⟨b,d,none⟩ val.cells.toList).run P C.w=.ok () w'→op.run P C.w=.ok .skip w') :
  Does P op C.w (VS B C (upd M id (some ⟨blk.k,blk.sh,V.set p x blk.v⟩)) (fun i=>n≤i∧i < n + 0) (.tup .nl)):=by
 obtain⟨hz,hcx,h1⟩:=R.cells_of hx hf hk
 have hbr:=hs.mem id blk hm
 have hle:=Shape.path_le p _ hp
 have hvl:val.cells.toList.length=t.size:=by simpa using hz
 have key:∃ cur e,C.w.heap[b]?=some (.cells cur e (0,0))∧d + t.size≤cur.size ∧
   ∀ C':Ctx,Keep C C'→C'.sv id=C.sv id→C'.shp id=C.shp id→C'.w=C.w.setRow b (cur.toList.take d++val.cells.toList++cur.toList.drop (d + val.cells.toList.length)).toArray →
    BR B C' id ⟨blk.k,blk.sh,V.set p x blk.v⟩:=by
  unfold BR at hbr; unfold Blk.alive at ha
  cases hkd:blk.k<;>simp only[hkd] at hbr ha
  ·obtain⟨g,cur,e,h2,h3,h4,h5,h6,h7,rfl⟩:=hbr
   rw[h2] at hb; simp only[xl,Option.some.injEq] at hb; subst hb
   rw[h5] at hp hle
   refine⟨cur,e,h4,by omega,fun C' hk' e1 e2 e3=>?_⟩
   show BR B C' id ⟨.box e,blk.sh,_⟩
   refine⟨g,_,e,by rw[e1]; exact h2,h3,by rw[e3]; exact setRow_heap C.w g cur _ e _ h4,by rw[e2]; exact h5,?_,?_⟩
   ·rw[List.size_toArray,xA _ _ _ (by rw[hvl]; omega)]; exact h6
   ·refine⟨R.set p (R.keep hk' _ _ h7) hp ?_ ?_,rfl⟩
    ·intro j hj
     simp only[List.getElem?_toArray,Nat.zero_add] at hj ⊢
     rw[vN _ _ _ (by rw[hvl]; omega),hvl,if_neg hj]
    ·refine R.shift x (R.keep hk' _ _ hcx) fun k hk2=>?_
     simp only[List.getElem?_toArray]
     rw[vN _ _ _ (by rw[hvl]; omega),hvl,if_pos (by omega)]
     rw[show 0 + d + k - d=0 + k by omega]; simp
  ·obtain⟨n1,s1,cells,h2,h3,h4,h5⟩:=hbr
   rw[h2] at hp hle
   obtain⟨h40,h4⟩:=h4
   rcases h4 with ⟨h8,_⟩ | ⟨g,cap,cur,hv,hg,hh,hnc,hcm,hcs,htake⟩
   ·rw[h8] at hb; simp [xl] at hb
   ·rw[hv] at hb; simp only[xl,Option.some.injEq] at hb; subst hb
    rename_i e
    have hsz:blk.sh.size=n1 * s1.size:=by rw[h3]; rfl
    have hcz:n1 * s1.size≤cur.size:=by rw[hcs]; exact Nat.mul_le_mul_right _ hnc
    refine⟨cur,e,hh,by omega,fun C' hk' e1 e2 e3=>?_⟩
    show BR B C' id ⟨.row e,blk.sh,_⟩
    refine⟨n1,s1,(cur.toList.take d++val.cells.toList++cur.toList.drop (d + val.cells.toList.length)).take (n1 * s1.size),by rw[e2]; exact h2,h3,⟨?_,.inr ⟨g,cap,_,by rw[e1]; exact hv,hg,by rw[e3]; exact setRow_heap C.w g cur _ e _ hh,hnc,hcm,?_,?_⟩⟩,?_⟩
    ·rw[List.length_take,xA _ _ _ (by rw[hvl]; omega)]; omega
    ·rw[List.size_toArray,xA _ _ _ (by rw[hvl]; omega)]; exact hcs
    ·rfl
    ·have hcell:∀ j,j < n1 * s1.size→cells[j]?=cur[j]?:=by
      intro j hj; rw[←htake,List.getElem?_take,if_pos hj]; simp
     refine R.set p (R.keep hk' _ _ h5) hp ?_ ?_
     ·intro j hj
      simp only[Nat.zero_add] at hj ⊢
      by_cases hj2:j < n1 * s1.size
      ·rw[List.getElem?_take,if_pos hj2,vN _ _ _ (by rw[hvl]; omega),hvl,if_neg hj,hcell j hj2]
      ·rw[List.getElem?_take,if_neg hj2,←htake,List.getElem?_take,if_neg hj2]
     ·refine R.shift x (R.keep hk' _ _ hcx) fun k hk2=>?_
      rw[List.getElem?_take,if_pos (by omega),vN _ _ _ (by rw[hvl]; omega),hvl,if_pos (by omega)]
      rw[show 0 + d + k - d=0 + k by omega]; simp
  ·simp at ha
  ·simp at ha
  ·simp at ha
 obtain⟨cur,e,hh,hfit,hbr'⟩:=key
 have hrun':=run_storeCells_at P b d e val.cells.toList 0 cur C.w hh (by rw[hvl]; omega) h1
 simp only[Nat.add_zero] at hrun'
 obtain⟨h2,h3⟩:=hs.write hm (Blk.lv ha) (vz hb) _ hbr'
 unfold Does
 rw[hrun _ hrun']
 exact⟨_,rfl,⟨#[],rfl,rfl⟩,h3,h2,fun i hi=>.inl hi⟩
theorem zfo {t:TypeId}{a x:Operand}{id:Nat}{p:List Step}{blk:Blk}{s:Shape}(ho:o.op=.store t a x) (hx:ρ a=.ptr id p s) (hm:m id=some blk) (ha:blk.alive=true)
  (ht:z5 P t=some s) (hf:(ρ x).fits s=true) (hk:(ρ x).known=true):OpSem P B o ρ m n ⟨.tup .nl,[(id,⟨blk.k,blk.sh,V.set p (ρ x) blk.v⟩)],[],[]⟩:=by
 intro C M ρc hs _ hup _ hrel
 have h0:=hrel a (by simp [ho,Op.operands])
 have hv:=hrel x (by simp [ho,Op.operands])
 rw[hx] at h0
 obtain⟨hal,b,off,h1,h2,h3⟩:=h0
 have h3':ρc a=.pointer (some ⟨b,off,none⟩):=h3
 have hM:M id=some blk:=(hup _ (List.mem_singleton.2 rfl)).trans hm
 rw[yT]
 refine zbK hs hM ha h1 h2 hv hf hk fun w' hw'=>?_
 obtain⟨i,hi,hsz,_⟩:=xS ht
 obtain⟨hz,_,_⟩:=R.cells_of hv hf hk
 simp [execOp,ho,h3',Instr.storeAt,Instr.sureAddr,storeVar,zN hi,hsz,hz,hw']
end Go.Ab
