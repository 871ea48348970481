/- The evaluator of single operations, and that it is right. No condition. -/
import Derived.Test.YtkllahedaiddgaaGreatDoorB7
import Derived.Great.BuildSlice
set_option linter.unusedSimpArgs false
set_option linter.unusedVariables false
namespace Go.Ab
open Go.RowKit
variable [Gl]
variable {P:Program}{B:Nat}{o:Oper}{ρ:Operand→V}{m:Mem}{n:Nat}
def wo (st:Bool) (i:Nat):Step:=if st then .fld i else .idx i
def JZ (st:Bool):V→List (Nat×V)→V
 | v,[]=>v
 | v,(i,x)::r=>JZ st (V.set [wo st i] x v) r
def bok (s:Shape) (st:Bool) (pl:Nat→Option (Nat×Nat)):List (Nat×V)→Bool
 | []=>true
 | (i,x)::r=>(match s.step (wo st i) with
   | some (d,t)=>pl i==some (d,t.size)&&x.fits t&&x.known
   | none=>false)&&bok s st pl r
omit [Gl] in
theorem Wn {C:Ctx}{s:Shape}{st:Bool}{pl:Nat→Option (Nat×Nat)}{ρc:Operand→Value}:∀(ps:List (Nat×Operand)) (v:V) (cells:Array Value),
  R C v (.cel s (fun i=>cells[i]?) 0)→cells.size=s.size→bok s st pl (ps.map fun x=>(x.1,ρ x.2))=true→(∀ x∈ps,R C (ρ x.2) (.val (ρc x.2))) →
  ∃ cells',Instr.fill pl cells (ps.map fun x=>(x.1,ρc x.2))=some cells'∧cells'.size=s.size∧R C (JZ st v (ps.map fun x=>(x.1,ρ x.2))) (.cel s (fun i=>cells'[i]?) 0)
 | [],v,cells,h,hz,_,_=>⟨cells,rfl,hz,h⟩
 | (i,x)::ps,v,cells,h,hz,hb,hr=>by
  simp only[List.map_cons,bok,Bool.and_eq_true] at hb
  obtain⟨hb1,hb2⟩:=hb
  split at hb1
  ·rename_i d t hst
   simp only[Bool.and_eq_true,beq_iff_eq] at hb1
   obtain⟨⟨h1,h2⟩,h3⟩:=hb1
   obtain⟨h4,h5,_⟩:=R.cells_of (hr (i,x) (by simp)) h2 h3
   have hle:=Shape.step_le hst
   obtain⟨f1,f2⟩:=Great.foldl_set d (ρc x).cells.toList 0 cells
   have hlist:∀(cs:Array Value),(ρc x).cells.zipIdx.foldl (fun cs (c,j)=>cs.setIfInBounds (d + j) c) cs=((ρc x).cells.toList.zipIdx 0).foldl (fun cs (y:Value×Nat)=>cs.setIfInBounds (d + y.2) y.1) cs:=by
    intro cs
    rw[←Array.foldl_toList,Array.toList_zipIdx]
   have hR:R C (V.set [wo st i] (ρ x) v) (.cel s (fun k=>(((ρc x).cells.toList.zipIdx 0).foldl (fun cs (y:Value×Nat)=>cs.setIfInBounds (d + y.2) y.1) cells)[k]?) 0):=by
    refine R.set [wo st i] (d:=d) (t:=t) h (by simp [Shape.path,hst]) ?_ ?_
    ·intro j hj
     simp only[Nat.zero_add] at hj
     show (((ρc x).cells.toList.zipIdx 0).foldl (fun cs (y:Value×Nat)=>cs.setIfInBounds (d + y.2) y.1) cells)[j]?=cells[j]?
     rw[f2 j,if_neg]
     simp only[Array.length_toList,h4]; omega
    ·refine R.shift _ h5 fun k hk=>?_
     show (((ρc x).cells.toList.zipIdx 0).foldl (fun cs (y:Value×Nat)=>cs.setIfInBounds (d + y.2) y.1) cells)[0 + d + k]?=(ρc x).cells[0 + k]?
     rw[f2,if_pos (by simp only[Array.length_toList,h4]; omega)]
     rw[show 0 + d + k - (d + 0)=0 + k by omega]; simp
   obtain⟨cells',e1,e2,e3⟩:=Wn ps _ _ hR (by rw[f1]; exact hz) hb2 (fun y hy=>hr y (by simp [hy]))
   refine⟨cells',?_,e2,e3⟩
   simp only[List.map_cons,Instr.fill,h1]
   rw[if_neg (by simp only[ne_eq,h4,not_true_eq_false,decide_false,Bool.false_or,decide_eq_true_eq]; omega),hlist]
   exact e1
  ·cases hb1
def qF (P:Program) (t:TypeId):Option (Bool×(Nat→Option (Nat×Nat))) :=
 match P.underlying t with
 | some (.array _ e)=>(P.info? e).map fun ie=>(false,fun i=>some (i * ie.size,ie.size))
 | some (.struct fields)=>(fields.toList.mapM (fun f=>(P.info? f.type).map fun i=>(f.offset,i.size))).map fun l=>(true,fun i=>l.toArray[i]?)
 | _=>none
theorem zfj {t:TypeId}{parts:Array (Nat×Operand)}{s:Shape}{z:V}{st:Bool}{pl:Nat→Option (Nat×Nat)}(ho:o.op=.build t parts) (hz:xu P t=some (s,z)) (hp:qF P t=some (st,pl))
  (hb:bok s st pl (parts.toList.map fun x=>(x.1,ρ x.2))=true):OpSem P B o ρ m n (zk (JZ st z (parts.toList.map fun x=>(x.1,ρ x.2)))) :=
 OpSem.pure fun C M ρc _ _ hrel=>by
  have hz':=hz
  unfold xu at hz
  split at hz
  ·rename_i s' i h1 h2
   split at hz
   ·rename_i zv hzv
    split at hz
    ·rename_i hc
     simp only[Option.some.injEq,Prod.mk.injEq] at hz
     obtain⟨rfl,rfl⟩:=hz
     obtain⟨cells',e1,e2,e3⟩:=Wn (ρ:=ρ) (ρc:=ρc) (C:=C) parts.toList _ zv.cells (R.held _ hc.2) hc.1 hb (fun x hx=>hrel x.2 (by simp [ho,Op.operands]; exact⟨x.1,by simpa using hx⟩))
     have hbuilt:P.built t (parts.map fun (i,x)=>(i,ρc x)).toList=some cells':=by
      unfold Program.built
      unfold qF at hp
      have:(parts.map fun (i,x)=>(i,ρc x)).toList=parts.toList.map fun x=>(x.1,ρc x.2):=by simp
      rw[this]
      cases hu:P.underlying t with
      | none=>rw[hu] at hp; simp at hp
      | some d =>
       rw[hu] at hp
       cases d<;>simp at hp
       ·obtain⟨ie,hie,rfl,rfl⟩:=hp
        simp only[h2,hzv,hie]; exact e1
       ·obtain⟨l,hl,rfl,rfl⟩:=hp
        simp only[h2,hzv,hl]; simpa using e1
     have hns:s'≠.sc:=by
      intro hsc
      unfold qF at hp
      obtain⟨_,_,_,hag⟩:=xS h1
      rw[hsc] at hag
      unfold Xj at hag
      cases hu:P.underlying t with
      | none=>rw[hu] at hp; simp at hp
      | some d=>rw[hu] at hp hag; cases d<;>simp [Shape.isSc] at hp hag
     exact⟨.agg cells',by simp [execOp,ho,run_build C.w t _ _ hbuilt],R.agg_val e3 hns e2⟩
    ·cases hz
   ·cases hz
  ·cases hz
theorem wp {C:Ctx}{M:Mem}{cs:Array Value}{t:TypeId}{e:Shape}{len cap:Nat}{f:Nat→V}{op:Sem Next}(hs:SR B C M) (hn:¬ C.al n)
  (hrun:op.run P C.w=.ok (.value (.slice (some ⟨C.w.heap.size,0,none⟩) len cap)) (C.w.alloc (.cells cs t))) (hz:cs.size=cap * e.size) (hlc:len≤cap) (hm:cap≤maxLen) (hv:R C (.arr len f) (.cel (.arr len e) (fun i=>cs[i]?) 0)) :
  Does P op C.w (VS B C (upd M n (some ⟨.row t,.arr len e,.arr len f⟩)) (fun id=>n≤id∧id < n + 1) (.row n e len)):=by
 unfold Does
 rw[hrun]
 obtain⟨h1,h2⟩:=hs.alloc hn cs t ⟨.row t,.arr len e,.arr len f⟩ (.slice (some ⟨C.w.heap.size,0,none⟩) len cap) rfl (by
  intro C' hk h3 h4 h5
  refine⟨len,e,cs.toList.take (len * e.size),h4,rfl,⟨?_,.inr ⟨C.w.heap.size,cap,cs,h3,hs.base,by rw[h5]; exact heap_alloc_new C.w _,hlc,hm,hz,rfl⟩⟩,?_⟩
  ·rw[List.length_take,Array.length_toList,hz]
   exact Nat.min_eq_left (Nat.mul_le_mul_right _ hlc)
  ·refine R.shift _ (R.keep hk _ _ hv) fun k hk2=>?_
   simp only[Shape.size] at hk2
   simp only[Nat.zero_add,List.getElem?_take,if_pos hk2]; simp)
 refine⟨_,rfl,⟨Or.inr rfl,⟨some ⟨C.w.heap.size,0,none⟩,cap,by simp⟩,by simp,by simp [Ab.M.leaf]⟩,h2,h1,fun id h=>?_⟩
 rcases h with h | h
 ·exact .inl h
 ·exact .inr ⟨by omega,by omega⟩
omit [Gl] in
theorem yP {C:Ctx}{s:Shape}{z:V}{zc:Array Value}(h:R C z (.cel s (fun i=>zc[i]?) 0)) (hz:zc.size=s.size) (len:Nat) :
  R C (.arr len fun _=>z) (.cel (.arr len s) (fun i=>((Array.range (len * s.size)).map (fun x=>zc[x % zc.size]!))[i]?) 0):=by
 refine⟨s,rfl,fun i hi=>R.shift z h fun k hk=>?_⟩
 have hlt:i * s.size + k < len * s.size:=by
  have h1:(i + 1) * s.size≤len * s.size:=Nat.mul_le_mul_right _ hi
  rw[Nat.add_mul] at h1; omega
 simp only[Nat.zero_add,Array.getElem?_map,Array.getElem?_range,hlt,if_true,Option.map_some]
 rw[hz,Nat.add_comm (i * s.size) k,Nat.add_mul_mod_self_right,Nat.mod_eq_of_lt hk]
 simp [hz,hk]
theorem VH {t et:TypeId}{len:Nat}{parts:Array (Nat×Operand)}{s:Shape}{z:V}(ho:o.op=.buildSlice t len parts) (hu:P.underlying t=some (.slice et)) (hz:xu P et=some (s,z))
  (hsm:len * s.size≤2 ^ 24) (hpos:len * s.size≠0) (hb:bok (.arr len s) false (fun i=>some (i * s.size,s.size)) (parts.toList.map fun x=>(x.1,ρ x.2))=true) :
  OpSem P B o ρ m n ⟨.row n s len,[],[⟨.row et,.arr len s,JZ false (.arr len fun _=>z) (parts.toList.map fun x=>(x.1,ρ x.2))⟩],[]⟩:=by
 intro C M ρc hs _ _ hn hrel
 unfold xu at hz
 split at hz
 ·rename_i s' i h1 h2
  split at hz
  ·rename_i zv hzv
   split at hz
   ·rename_i hc
    simp only[Option.some.injEq,Prod.mk.injEq] at hz
    obtain⟨rfl,rfl⟩:=hz
    obtain⟨i',hi',hsz,_⟩:=xS h1
    rw[h2] at hi'; simp only[Option.some.injEq] at hi'; subst hi'
    obtain⟨cells',e1,e2,e3⟩:=Wn (ρ:=ρ) (ρc:=ρc) (C:=C) parts.toList _ _ (yP (R.held _ hc.2) hc.1 len) (by simp [Shape.size]) hb (fun x hx=>hrel x.2 (by simp [ho,Op.operands]; exact⟨x.1,by simpa using hx⟩))
    have hl:len≤maxLen:=by
     have h0:0 < s'.size:=Nat.pos_of_ne_zero (by intro h0; rw[h0] at hpos; simp at hpos)
     have h3:len * 1≤len * s'.size:=Nat.mul_le_mul_left _ h0
     unfold maxLen; omega
    have hf:∃ f,JZ false (.arr len fun _=>VP P 12 et) (parts.toList.map fun x=>(x.1,ρ x.2))=.arr len f:=R.arr_of e3
    obtain⟨f,hf⟩:=hf
    rw[hf] at e3 ⊢
    rw[jA]
    refine wp hs (by simpa using hn 0 (by simp)) (cs:=cells') (t:=et) ?_ (by simpa [Shape.size] using e2) (Nat.le_refl _) hl e3
    have hrun:=run_buildSlice (P:=P) C.w t et len (parts.map fun (i,x)=>(i,ρc x)) cells' i zv hu h2 hzv (by rw[hsz]; omega) (by rw[hsz]; exact hpos) (by
     have:(parts.map fun (i,x)=>(i,ρc x)).toList=parts.toList.map fun x=>(x.1,ρc x.2):=by simp
     rw[this,hsz]; exact e1)
    simp [execOp,ho,hrun]
   ·cases hz
  ·cases hz
 ·cases hz
end Go.Ab
namespace Go.Ab
open Go.RowKit
variable [Gl]
variable {P:Program}{B:Nat}{o:Oper}{ρ:Operand→V}{m:Mem}{n:Nat}
omit [Gl] in
theorem Zt {C:Ctx}{t:TypeId}{s:Shape}{v:V}{xs:Array Value}{off:Nat}{i:TypeInfo}{d:TypeDesc}(hi:P.info? t=some i) (hz:i.size=s.size) (hsc:s.isSc = !Xj P t) (hu:P.underlying t=some d)
  (h:R C v (.cel s (fun j=>xs[j]?) off)) (w:World):∃ val,(part t xs off).run P w=.ok val w∧R C v (.val val):=by
 unfold part
 simp only[Sem.run_bind,yV hu,Result.andThen_ok,Sem.run_ite]
 cases ha:Xj P t with
 | true =>
  rw[ha] at hsc
  simp only[if_true,zN hi,Result.andThen_ok,hz,Sem.run_pure]
  refine⟨_,rfl,?_⟩
  have hle:off + s.size≤xs.size∨s.size=0:=by
   rcases Nat.eq_zero_or_pos s.size with h0 | h0
   ·exact .inr h0
   ·obtain⟨x,hx,_⟩:=R.cells v h (s.size - 1) (by omega)
    have:=(Array.getElem?_eq_some_iff.1 hx).1
    exact .inl (by omega)
  refine R.agg_val (s:=s) (R.shift v h fun k hk=>?_) (by rintro rfl; simp [Shape.isSc] at hsc) (by simp; omega)
  have h2:k < min (off + s.size) xs.size - off:=by omega
  rw[Nat.zero_add,Array.getElem?_extract,if_pos h2]
 | false =>
  rw[ha] at hsc
  simp only[Bool.false_eq_true,if_false]
  cases s<;>simp [Shape.isSc] at hsc
  obtain⟨x,hx,_⟩:=R.cells v h 0 (by simp [Shape.size])
  have hx':xs[off]?=some x:=hx
  exact⟨x,by simp [hx'],R.sc_val h hx⟩
def eqV:V→V→Bool
 | .int _ a,.int _ b=>a==b
 | .bool a,.bool b=>a==b
 | .str a,.str b=>a.toList==b.toList
 | .nl,.nl=>true
 | .cons h t,.cons h' t'=>eqV h h'&&eqV t t'
 | .arr n f,.arr _ g=>(List.range n).all fun i=>eqV (f i) (g i)
 | _,_=>false
def JY (r:TypeId→V→V→Bool):List Field→V→V→Bool
 | [],.nl,.nl=>true
 | f::fs,.cons h t,.cons h' t'=>f.name != "_" && r f.type h h'&&JY r fs t t'
 | _,_,_=>false
def eqT (P:Program):Nat→TypeId→V→V→Bool
 | 0,_,_,_=>false
 | d + 1,t,v,v'=>match P.underlying t with
  | some (.int _)=>match v,v' with | .int k _,.int k' _=>k==k' | _,_=>false
  | some .bool=>match v,v' with | .bool _,.bool _=>true | _,_=>false
  | some .string=>match v,v' with | .str _,.str _=>true | _,_=>false
  | some (.struct fs)=>!P.stoodInHeld t&&JY (eqT P d) fs.toList v v'
  | some (.array k e)=>match v,v' with | .arr a f,.arr b g=>k==a&&k==b&&(List.range k).all (fun i=>eqT P d e (f i) (g i)) | _,_=>false
  | _=>false
def zad (P:Program) (d:Nat) (r:TypeId→Bool):List Field→Nat→Bool
 | [],_=>true
 | f::fs,off=>f.offset==off&&(match P.info? f.type with | some i=>i.size==(shp P d f.type).size | none=>false)&&r f.type&&zad P d r fs (off + (shp P d f.type).size)
def lay (P:Program):Nat→TypeId→Bool
 | 0,_=>false
 | d + 1,t=>match P.underlying t with
  | some (.struct fs)=>zad P d (lay P d) fs.toList 0
  | some (.array _ e)=>(match P.info? e with | some i=>i.size==(shp P d e).size | none=>false)&&lay P d e
  | some _=>true
  | none=>false
omit [Gl] in
theorem wn {P:Program}{d:Nat}{t:TypeId}(h:lay P d t=true):∃ x,P.underlying t=some x:=by
 cases d with
 | zero=>simp [lay] at h
 | succ d =>
  unfold lay at h
  cases hu:P.underlying t with
  | none=>rw[hu] at h; simp at h
  | some x=>exact⟨x,rfl⟩
omit [Gl] in
theorem Zu {C:Ctx}{w:World}{D:Nat}{e:TypeId}{sh:Shape}{xs ys:Array Value}{f g:Nat→V}{ie:TypeInfo}{de:TypeDesc}{k:Nat}(hie:P.info? e=some ie) (hsz:ie.size=sh.size) (hsc:sh.isSc = !Xj P e) (hu:P.underlying e=some de)
  (hx:∀ i,i < k→R C (f i) (.cel sh (fun j=>xs[j]?) (i * sh.size))) (hy:∀ i,i < k→R C (g i) (.cel sh (fun j=>ys[j]?) (i * sh.size)))
  (ih:∀ i,i < k→∀ x y,R C (f i) (.val x)→R C (g i) (.val y)→(Op.equalIn D e x y).run P w=.ok (eqV (f i) (g i)) w) :
  ∀(is:List Nat),(∀ i∈is,i < k)→(Op.eqItems D e (P.cellsOf e) xs ys is).run P w=.ok (is.all fun i=>eqV (f i) (g i)) w
 | [],_=>by simp [Op.eqItems]
 | i::is,h=>by
  have hc:P.cellsOf e=sh.size:=by simp [Program.cellsOf,hie,hsz]
  obtain⟨a,p1,r1⟩:=Zt hie hsz hsc hu (hx i (h i (by simp))) w
  obtain⟨b,p2,r2⟩:=Zt hie hsz hsc hu (hy i (h i (by simp))) w
  have p3:=ih i (h i (by simp)) a b r1 r2
  simp only[Op.eqItems,Sem.run_bind,hc,p1,p2,p3,Result.andThen_ok,List.all_cons]
  cases hr:eqV (f i) (g i)
  ·simp
  ·have:=Zu hie hsz hsc hu hx hy ih is (fun j hj=>h j (by simp [hj]))
   rw[hc] at this
   simpa using this
omit [Gl] in
theorem zae {C:Ctx}{w:World}{D d:Nat}{xs ys:Array Value}(hd0:0 < d)
  (ih:∀ t v v' x y,lay P d t=true→eqT P d t v v'=true→v.fits (shp P d t)=true→v'.fits (shp P d t)=true→R C v (.val x)→R C v' (.val y)→(Op.equalIn D t x y).run P w=.ok (eqV v v') w) :
  ∀(fs:List Field) (v v':V) (off:Nat),zad P d (lay P d) fs off=true→JY (eqT P d) fs v v'=true →
   v.fits (fs.foldr (fun f acc=>.cons (shp P d f.type) acc) .nl)=true→v'.fits (fs.foldr (fun f acc=>.cons (shp P d f.type) acc) .nl)=true →
   R C v (.cel (fs.foldr (fun f acc=>.cons (shp P d f.type) acc) .nl) (fun j=>xs[j]?) off)→R C v' (.cel (fs.foldr (fun f acc=>.cons (shp P d f.type) acc) .nl) (fun j=>ys[j]?) off) →
   (Op.eqFields D xs ys fs).run P w=.ok (eqV v v') w
 | [],v,v',off,_,he,_,_,_,_=>by
  cases v<;>cases v'<;>simp [JY] at he
  simp [Op.eqFields,eqV]
 | f::fs,v,v',off,hl,he,hf,hf',hx,hy=>by
  cases v<;>cases v'<;>first
   | (simp [JY] at he; done)
   | skip
  rename_i h t h' t'
  simp only[JY,Bool.and_eq_true] at he
  obtain⟨⟨hn,he1⟩,he2⟩:=he
  simp only[zad,Bool.and_eq_true,beq_iff_eq] at hl
  obtain⟨⟨⟨ho,hi⟩,hl1⟩,hl2⟩:=hl
  simp only[List.foldr_cons,V.fits,Bool.and_eq_true] at hf hf'
  simp only[List.foldr_cons] at hx hy
  obtain⟨a,b,q1,x1,x2⟩:=hx
  obtain⟨a',b',q2,y1,y2⟩:=hy
  simp only[Shape.cons.injEq] at q1 q2
  obtain⟨rfl,rfl⟩:=q1
  obtain⟨rfl,rfl⟩:=q2
  obtain⟨de,hde⟩:=wn hl1
  cases hie:P.info? f.type with
  | none=>rw[hie] at hi; simp at hi
  | some ie =>
   rw[hie] at hi
   have hsz:ie.size=(shp P d f.type).size:=by simpa using hi
   have hsc:(shp P d f.type).isSc = !Xj P f.type:=by
    cases d with
    | zero=>omega
    | succ d=>exact WC
   obtain⟨x,p1,r1⟩:=Zt hie hsz hsc hde x1 w
   obtain⟨y,p2,r2⟩:=Zt hie hsz hsc hde y1 w
   have p3:=ih f.type h h' x y hl1 he1 hf.1 hf'.1 r1 r2
   have hn':f.name ≠ "_" := by simpa using hn
   simp only[Op.eqFields,hn',ne_eq,not_false_eq_true,if_true,Sem.run_bind,ho,p1,p2,p3,Result.andThen_ok,eqV]
   cases hr:eqV h h'
   ·simp
   ·have:=zae hd0 ih fs t t' _ hl2 he2 hf.2 hf'.2 x2 y2
    simpa using this
omit [Gl] in
theorem zgy (C:Ctx) (w:World):∀(d D:Nat) (t:TypeId) (v v':V) (x y:Value),d≤D→lay P d t=true→eqT P d t v v'=true→v.fits (shp P d t)=true→v'.fits (shp P d t)=true →
  R C v (.val x)→R C v' (.val y)→(Op.equalIn D t x y).run P w=.ok (eqV v v') w:=by
 intro d
 induction d with
 | zero=>intro D t v v' x y _ h; simp [lay] at h
 | succ d ih =>
  intro D t v v' x y hD hl he hf hf' hx hy
  obtain⟨D,rfl⟩:∃ D',D=D' + 1:=⟨D - 1,by omega⟩
  unfold eqT at he
  cases hu:P.underlying t with
  | none=>rw[hu] at he; simp at he
  | some desc =>
   rw[hu] at he
   cases desc<;>simp only at he<;>first
    | (cases he; done)
    | skip
   case bool =>
    split at he
    ·rename_i a b
     obtain rfl:x=.bool a:=hx
     obtain rfl:y=.bool b:=hy
     exact run_equalIn_bool w D t a b hu
    ·cases he
   case int k0 =>
    split at he
    ·rename_i k a k' b
     obtain rfl:k=k':=by simpa using he
     obtain rfl:x=.int k a:=hx
     obtain rfl:y=.int k b:=hy
     exact run_equalIn_int w D t k k0 a b hu
    ·cases he
   case string =>
    split at he
    ·rename_i a b
     obtain rfl:x=.string a:=hx
     obtain rfl:y=.string b:=hy
     exact run_equalIn_string w D t a b hu
    ·cases he
   case array k e =>
    split at he
    ·rename_i v1 v2 a f b g
     simp only[Bool.and_eq_true,beq_iff_eq] at he
     obtain⟨⟨rfl,rfl⟩,he⟩:=he
     have hsh:shp P (d + 1) t=.arr k (shp P d e):=by simp only[shp,hu]
     rw[hsh] at hf hf'
     obtain⟨s1,cs,rfl,hz1,_,h1⟩:=R.agg_at hx rfl
     obtain⟨s2,cs',rfl,hz2,_,h2⟩:=R.agg_at hy rfl
     have h1':=R.fits _ h1 hf
     have h2':=R.fits _ h2 hf'
     obtain⟨e1,q1,h1'⟩:=h1'
     obtain⟨e2,q2,h2'⟩:=h2'
     simp only[Shape.arr.injEq,true_and] at q1 q2
     subst q1 q2
     simp only[V.fits,beq_self_eq_true,Bool.true_and,List.all_eq_true,List.mem_range] at hf hf'
     simp only[List.all_eq_true,List.mem_range] at he
     unfold lay at hl
     rw[hu] at hl
     simp only[Bool.and_eq_true] at hl
     obtain⟨hl1,hl2⟩:=hl
     obtain⟨ed,hed⟩:=wn hl2
     cases hie:P.info? e with
     | none=>rw[hie] at hl1; simp at hl1
     | some ie =>
      rw[hie] at hl1
      have hsz:ie.size=(shp P d e).size:=by simpa using hl1
      have hd:(shp P d e).isSc = !Xj P e:=by
       cases d with
       | zero=>simp [lay] at hl2
       | succ d=>exact WC
      rw[run_equalIn_array w D cs cs' hu hie]
      rw[Zu hie hsz hd hed (fun i hi=>by simpa using h1' i hi) (fun i hi=>by simpa using h2' i hi) (fun i hi x y hx hy=>ih D e _ _ x y (by omega) hl2 (he i hi) (hf i hi) (hf' i hi) hx hy) _ (fun i hi=>List.mem_range.1 hi)]
      rfl
    ·cases he
   case struct fs =>
    simp only[Bool.and_eq_true,Bool.not_eq_true'] at he
    obtain⟨hst,he⟩:=he
    have hsh:shp P (d + 1) t=fs.toList.foldr (fun f acc=>.cons (shp P d f.type) acc) .nl:=by simp only[shp,hu]
    rw[hsh] at hf hf'
    unfold lay at hl
    rw[hu] at hl
    simp only at hl
    have hag:v.isAgg=true∧v'.isAgg=true:=by
     cases hfs:fs.toList<;>rw[hfs] at he<;>cases v<;>cases v'<;>first
      | exact⟨rfl,rfl⟩
      | (simp [JY] at he; done)
    obtain⟨s1,cs,rfl,hz1,_,h1⟩:=R.agg_at hx hag.1
    obtain⟨s2,cs',rfl,hz2,_,h2⟩:=R.agg_at hy hag.2
    have hfo:P.fieldsOf t=fs:=by simp [Program.fieldsOf,hu]
    rw[run_equalIn_struct w D t cs cs' (by rw[hfo]; exact hu) hst,hfo]
    have hd0:fs.toList=[]∨0 < d:=by
     cases hfs:fs.toList with
     | nil=>exact .inl rfl
     | cons f r =>
      right
      rw[hfs] at hl
      simp only[zad,Bool.and_eq_true] at hl
      cases d with
      | zero=>simp [lay] at hl
      | succ d=>omega
    rcases hd0 with h0 | h0
    ·rw[h0] at he ⊢
     cases v<;>cases v'<;>simp [JY] at he
     simp [Op.eqFields,eqV]
    ·exact zae h0 (fun t v v' x y a1 a2 a3 a4 a5 a6=>ih D t v v' x y (by omega) a1 a2 a3 a4 a5 a6) fs.toList v v' 0 hl he hf hf' (R.fits _ h1 hf) (R.fits _ h2 hf')
theorem VG {op:BinOp}{t t':TypeId}{x y:Operand}(ho:o.op=.binOp op t x y t') (hop:op=.eql∨op=.neq) (hl:lay P 12 t=true) (he:eqT P 12 t (ρ x) (ρ y)=true) (hf:(ρ x).fits (shp P 12 t)=true) (hf':(ρ y).fits (shp P 12 t)=true)
  (ha:(ρ x).isAgg=true) (ha':(ρ y).isAgg=true) (hg:P.eqGuardType P.depth t=false):OpSem P B o ρ m n (zk (.bool (if op=.eql then eqV (ρ x) (ρ y) else !eqV (ρ x) (ρ y)))) :=
 OpSem.pure fun C M ρc _ _ hrel=>by
  have h0:=hrel x (by simp [ho,Op.operands])
  have h1:=hrel y (by simp [ho,Op.operands])
  obtain⟨s1,cs,hx,_⟩:=R.agg_at h0 ha
  obtain⟨s2,cs',hy,_⟩:=R.agg_at h1 ha'
  have hr:=zgy (P:=P) C C.w 12 10000 t _ _ _ _ (by omega) hl he hf hf' h0 h1
  rw[hx,hy] at hr
  rcases hop with rfl | rfl
  ·exact⟨.bool (eqV (ρ x) (ρ y)),by simp [execOp,ho,hx,hy,run_eqGuard_agg C.w _ t x y cs cs' hg,run_eql_struct,hr],rfl⟩
  ·exact⟨.bool (!eqV (ρ x) (ρ y)),by simp [execOp,ho,hx,hy,run_eqGuard_agg C.w _ t x y cs cs' hg,run_neq_struct,hr],rfl⟩
theorem XK {op:BinOp}{t t':TypeId}{x y:Operand}{a b:Bool}(ho:o.op=.binOp op t x y t') (hop:op=.eql∨op=.neq) (hx:ρ x=.bool a) (hy:ρ y=.bool b) (hu:P.underlying t=some .bool) :
  OpSem P B o ρ m n (zk (.bool (if op=.eql then a==b else !(a==b)))) :=
 OpSem.pure fun C M ρc _ _ hrel=>by
  have h0:=hrel x (by simp [ho,Op.operands])
  have h1:=hrel y (by simp [ho,Op.operands])
  rw[hx] at h0; rw[hy] at h1
  have h0':ρc x=.bool a:=h0
  have h1':ρc y=.bool b:=h1
  rcases hop with rfl | rfl
  ·exact⟨.bool (a==b),by simp [execOp,ho,h0',h1',eqGuard,run_eql_bool C.w t a b hu],rfl⟩
  ·exact⟨.bool (!(a==b)),by simp [execOp,ho,h0',h1',eqGuard,run_neq_bool C.w t a b hu],rfl⟩
end Go.Ab
namespace Go.Ab
open Go.RowKit
variable [Gl]
def Shape.beq:Shape→Shape→Bool
 | .sc,.sc=>true
 | .nl,.nl=>true
 | .cons a b,.cons c d=>a.beq c&&b.beq d
 | .arr n s,.arr m t=>n==m&&s.beq t
 | _,_=>false
omit [Gl] in
theorem Shape.eq_of_beq:∀ {a b:Shape},a.beq b=true→a=b
 | .sc,b,h=>by cases b<;>simp [Shape.beq] at h; rfl
 | .nl,b,h=>by cases b<;>simp [Shape.beq] at h; rfl
 | .cons a c,b,h=>by cases b<;>simp [Shape.beq] at h; rw[Shape.eq_of_beq h.1,Shape.eq_of_beq h.2]
 | .arr n s,b,h=>by cases b<;>simp [Shape.beq] at h; rw[h.1,Shape.eq_of_beq h.2]
end Go.Ab
