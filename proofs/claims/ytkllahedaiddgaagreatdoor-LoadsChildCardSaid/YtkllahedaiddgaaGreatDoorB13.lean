/- More single operations: append onto what is read, copy. No condition. -/
import Derived.Test.YtkllahedaiddgaaGreatDoorB12
import Derived.ArgAppend
import Derived.Great.BuildSlice
set_option linter.unusedSimpArgs false
set_option linter.unusedVariables false
namespace Go.Ab
open Go.RowKit
variable [Gl]
section
variable {P:Program}{B:Nat}{o:Oper}{ρ:Operand→V}{m:Mem}{n:Nat}
theorem zbA {C:Ctx}{M:Mem}{n:Nat}{cs:Array Value}{t:TypeId}{e:Shape}{len cap:Nat}{f:Nat→V}{op:Sem Next}(hs:SR B C M) (hn:¬ C.al n)
  (hrun:op.run P C.w=.ok (.value (.slice (some ⟨C.w.heap.size,0,none⟩) len cap)) (C.w.alloc (.cells cs t))) (hz:cs.size=cap * e.size) (hlc:len≤cap) (hv:R C (.arr cap f) (.cel (.arr cap e) (fun i=>cs[i]?) 0)) :
  Does P op C.w (VS B C (upd M n (some ⟨.box t,.arr cap e,.arr cap f⟩)) (fun id=>n≤id∧id < n + 1) (.sl n [] e 0 len (some cap))):=by
 unfold Does
 rw[hrun]
 obtain⟨h1,h2⟩:=hs.alloc hn cs t ⟨.box t,.arr cap e,.arr cap f⟩ (.pointer (some ⟨C.w.heap.size,0,none⟩)) rfl (by
  intro C' hk h3 h4 h5
  exact⟨C.w.heap.size,cs,t,h3,hs.base,by rw[h5]; exact heap_alloc_new C.w _,h4,hz,R.keep hk _ _ hv,rfl⟩)
 refine⟨_,rfl,⟨Or.inr rfl,_,_,0,cap,rfl,hlc,(fun k hk=>by cases hk; rfl),by simp [Shape.path],by omega,.inr ⟨C.w.heap.size,by simp [xl],by simp⟩⟩,h2,h1,fun id h=>?_⟩
 ·rcases h with h | h
  ·exact .inl h
  ·exact .inr ⟨by omega,by omega⟩
omit [Gl] in
theorem qD {P:Program}{t:TypeId}{s:Shape}{z:V}(hz:xu P t=some (s,z)):∃(i:TypeInfo) (zv:Value),P.info? t=some i∧i.zero=some zv∧i.size=s.size∧zv.cells.size=s.size∧∀ C,R C z (.cel s (fun j=>zv.cells[j]?) 0):=by
 have hz0:=hz
 obtain⟨h1,zv,h2,h3,h4⟩:=VQ hz
 obtain⟨i,hi,hsz,_⟩:=xS h1
 unfold xu at hz0
 rw[h1,hi] at hz0
 simp only at hz0
 split at hz0
 ·rename_i zv' hz'
  have:=h2 default
  simp [zeroValue,typeInfo,hi,hz'] at this
  subst this
  exact⟨i,_,hi,hz',hsz,h3,h4⟩
 ·cases hz0
omit [Gl] in
theorem YY {C:Ctx}{t et:TypeId}{l c:Operand}{kl kc:IntKind}{len cap:Nat}{ρc:Operand→Value}(ho:o.op=.makeSlice t l c) (hl:ρc l=.int kl len) (hc:ρc c=.int kc cap) (hu:P.underlying t=some (.slice et)) {i:TypeInfo}{zv:Value}
  (hi:P.info? et=some i) (hzv:i.zero=some zv) (hb:i.bytes≤1048576) (hlc:len≤cap) (hcap:cap≤16777216) :
  (execOp ρc o).run P C.w=.ok (.value (.slice (some ⟨C.w.heap.size,0,none⟩) len cap)) (C.w.alloc (.cells (madeCells zv.cells (cap * i.size)) et)):=by
 have hbytes:(i.bytes:Int) * cap≤281474976710656:=by
  have:i.bytes * cap≤1048576 * 16777216:=Nat.mul_le_mul hb hcap
  have h3:((i.bytes * cap:Nat):Int)≤281474976710656:=by omega
  rwa [Int.natCast_mul] at h3
 have hrun:=run_make (P:=P) C.w t et i zv hu hi hzv kl kc len cap (by omega) (by omega) hbytes (by omega)
 simp only[Int.toNat_natCast] at hrun
 simp [execOp,ho,hl,hc,hrun]
omit [Gl] in
theorem X6 (zs:Array Value) (n:Nat):madeCells zs n=(Array.range n).map (fun x=>zs[x % zs.size]!):=rfl
theorem zbB {t et:TypeId}{l c:Operand}{kl kc:IntKind}{len cap:Nat}{s:Shape}{z:V}{i:TypeInfo}(ho:o.op=.makeSlice t l c) (hl:ρ l=.int kl len) (hc:ρ c=.int kc cap) (hu:P.underlying t=some (.slice et)) (hz:xu P et=some (s,z))
  (hi:P.info? et=some i) (hb:i.bytes≤1048576) (hlc:len≤cap) (hcap:cap≤16777216) :
  OpSem P B o ρ m n ⟨.sl n [] s 0 len (some cap),[],[⟨.box et,.arr cap s,.arr cap fun _=>z⟩],[]⟩:=by
 intro C M ρc hs _ _ hn hrel
 obtain⟨i',zv,hi',hzv,hsz,hcz,hR⟩:=qD hz
 rw[hi] at hi'; cases hi'
 have r1:=hrel l (by simp [ho,Op.operands])
 have r2:=hrel c (by simp [ho,Op.operands])
 rw[hl] at r1; rw[hc] at r2
 rw[jA]
 refine zbA hs (by simpa using hn 0 (by simp)) (cs:=madeCells zv.cells (cap * i.size)) (t:=et) (YY ho r1 r2 hu hi hzv hb hlc hcap) (by rw[X6,hsz]; simp) hlc ?_
 rw[X6,hsz]
 exact yP (hR C) hcz cap
theorem YZ {t et:TypeId}{l c:Operand}{kl kc:IntKind}{len cap:Nat}{s:Shape}{z:V}{i:TypeInfo}(ho:o.op=.makeSlice t l c) (hl:ρ l=.int kl len) (hc:ρ c=.int kc cap) (hu:P.underlying t=some (.slice et)) (hz:xu P et=some (s,z))
  (hi:P.info? et=some i) (hb:i.bytes≤1048576) (hlc:len≤cap) (hcap:cap≤16777216) :
  OpSem P B o ρ m n ⟨.row n s len,[],[⟨.row et,.arr len s,.arr len fun _=>z⟩],[]⟩:=by
 intro C M ρc hs _ _ hn hrel
 obtain⟨i',zv,hi',hzv,hsz,hcz,hR⟩:=qD hz
 rw[hi] at hi'; cases hi'
 have r1:=hrel l (by simp [ho,Op.operands])
 have r2:=hrel c (by simp [ho,Op.operands])
 rw[hl] at r1; rw[hc] at r2
 rw[jA]
 refine wp hs (by simpa using hn 0 (by simp)) (cs:=madeCells zv.cells (cap * i.size)) (t:=et) (YY ho r1 r2 hu hi hzv hb hlc hcap) (by rw[X6,hsz]; simp) hlc (by unfold maxLen; omega) ?_
 rw[X6,hsz]
 have h0:=yP (hR C) hcz cap
 obtain⟨e',q1,q2⟩:=h0
 cases q1
 exact⟨s,rfl,fun i hi=>q2 i (by omega)⟩
theorem JN {t et:TypeId}{s:Shape}{z:V}(ho:o.op=.buildSlice t 0 #[]) (hu:P.underlying t=some (.slice et)) (hz:xu P et=some (s,z)) :
  OpSem P B o ρ m n ⟨.row n s 0,[],[⟨.row et,.arr 0 s,.arr 0 fun _=>z⟩],[]⟩:=by
 intro C M ρc hs _ _ hn hrel
 obtain⟨i,zv,hi,hzv,hsz,hcz,hR⟩:=qD hz
 rw[jA]
 refine wp hs (by simpa using hn 0 (by simp)) (cs:=#[]) (t:=et) (cap:=0) ?_ (by simp) (Nat.le_refl _) (by unfold maxLen; omega) ⟨s,rfl,fun i hi=>by omega⟩
 simp [execOp,ho,Instr.buildSlice,run_underlying hu,zN hi,Instr.fill,newRow]
 have:(Array.range 0)=#[]:=by simp [Array.range]
 rw[this]; simp
def Zs (m:Mem) (x:V):Option (Shape×Nat×(Nat→V)×List Nat):=match x with
 | .ro _ _ e len f=>some (e,len,f,[])
 | .row id e len=>match m id with
  | some blk=>if blk.alive then match blk.v with
   | .arr _ f=>some (e,len,f,[id])
   | _=>none
   else none
  | none=>none
 | .sl id p e off len _=>match m id with
  | some blk=>if blk.alive then match blk.v.path p with
   | .arr _ f=>some (e,len,fun i=>f (off + i),[id])
   | _=>none
   else none
  | none=>none
 | _=>none
def Holds (C:Ctx) (a:Option Addr) (e:Shape) (len:Nat) (f:Nat→V):Prop:=len=0∨∃ b o,a=some ⟨b,o,none⟩∧b < C.w.heap.size∧∀ i,i < len→R C (f i) (.cel e (cg C.w b) (o + i * e.size))
theorem zgq {C:Ctx}{M:Mem}(hs:SR B C M) {x:V}{val:Value}{e:Shape}{len:Nat}{f:Nat→V}{rd:List Nat}(h:Zs m x=some (e,len,f,rd)) (hrd:∀ id∈rd,M id=m id) (hr:R C x (.val val)) :
  ∃ a c,val=.slice a len c∧len≤c∧Holds C a e len f:=by
 unfold Zs at h
 split at h
 ·simp only[Option.some.injEq,Prod.mk.injEq] at h
  obtain⟨rfl,rfl,rfl,rfl⟩:=h
  obtain⟨a,c,h1,h2,h3,h4⟩:=hr
  refine⟨a,c,h1,h2,h4.imp (fun h=>h) ?_⟩
  rintro⟨b,o,h5,h6,h7⟩
  exact⟨b,o,h5,hs.okLt _ _ h6,fun i hi=>R.keep (Keep.of_pur C) _ _ (h7 i hi)⟩
 ·split at h
  ·rename_i id e0 len0 _ blk hb
   split at h
   ·rename_i ha
    split at h
    ·rename_i n1 f1 hv
     simp only[Option.some.injEq,Prod.mk.injEq] at h
     obtain⟨rfl,rfl,rfl,rfl⟩:=h
     obtain⟨hal,⟨a,c,h1⟩,h2,h3⟩:=hr
     have hM:M id=some blk:=by rw[hrd id (by simp)]; exact hb
     have h3':val=C.sv id:=h3
     have hbr:=hs.mem id blk hM
     unfold BR at hbr; unfold Blk.alive at ha
     cases hkd:blk.k<;>simp only[hkd] at hbr ha
     ·obtain⟨g,cur,e',h4,_⟩:=hbr; rw[h1] at h4; cases h4
     ·obtain⟨n2,s2,cells,h4,h5,h6,h7⟩:=hbr
      rw[h4,h5] at h2
      simp only[Shape.arr.injEq] at h2
      obtain⟨rfl,rfl⟩:=h2
      rw[h1] at h3'
      refine⟨a,c,h3',?_,?_⟩
      ·rcases h6.2 with ⟨h8,h9⟩ | ⟨g,cap,cur,hv',hg,hh,hnc,_⟩
       ·rw[h1] at h8; cases h8; omega
       ·rw[h1] at hv'; cases hv'; exact hnc
      ·rcases h6.2 with ⟨h8,h9⟩ | ⟨q,cap,cur,hv',hq,hh,hnc,_,hcs,htake⟩
       ·exact .inl h9
       ·right
        rw[h1] at hv'
        simp only[Value.slice.injEq] at hv'
        obtain⟨rfl,_,rfl⟩:=hv'
        refine⟨q,0,rfl,(Array.getElem?_eq_some_iff.1 hh).1,fun i hi=>?_⟩
        have hb':xl (C.sv id)=some q:=by rw[h1]; rfl
        have hpa:Shape.path [.idx i] (C.shp id)=some (0 + i * s2.size,s2):=by rw[h4,h5]; simp [Shape.path,Shape.step,hi]
        obtain⟨h10,_⟩:=BR.at (hs.mem id blk hM) (by unfold Blk.alive; rw[hkd]) hb' hpa
        rw[hv] at h10
        simpa [V.path,V.step] using h10
     ·simp at ha
     ·simp at ha
     ·simp at ha
    ·cases h
   ·cases h
  ·cases h
 ·split at h
  ·rename_i id p e0 off len0 cap _ blk hb
   split at h
   ·rename_i ha
    split at h
    ·rename_i n1 f1 hv
     simp only[Option.some.injEq,Prod.mk.injEq] at h
     obtain⟨rfl,rfl,rfl,rfl⟩:=h
     obtain⟨hal,ad,c,o1,n2,h3,h4,h5,h2,h8,h6⟩:=hr
     have hM:M id=some blk:=by rw[hrd id (by simp)]; exact hb
     rcases h6 with h6 | ⟨b,h1,h6⟩
     ·exact⟨ad,c,h3,h4,.inl (by omega)⟩
     subst h6
     obtain⟨h7,_⟩:=BR.at (hs.mem id blk hM) ha h1 h2
     rw[hv] at h7
     obtain⟨e',q1,h9⟩:=h7
     simp only[Shape.arr.injEq] at q1
     obtain⟨rfl,rfl⟩:=q1
     refine⟨_,c,h3,h4,.inr ⟨b,o1 + off * e0.size,rfl,(hs.lt hM (Blk.lv ha) (vz h1)).2,fun i hi=>?_⟩⟩
     have h10:=h9 (off + i) (by omega)
     rw[Nat.add_mul,←Nat.add_assoc] at h10
     exact h10
    ·cases h
   ·cases h
  ·cases h
 ·cases h
omit [Gl] in
theorem zk6 {x:V}{e:Shape}{len:Nat}{f:Nat→V}{rd:List Nat}(h:Zs m x=some (e,len,f,rd)):∀ id∈rd,∃ b,m id=some b:=by
 unfold Zs at h
 split at h
 ·simp only[Option.some.injEq,Prod.mk.injEq] at h; obtain⟨_,_,_,rfl⟩:=h; intro id hid; cases hid
 ·split at h
  ·rename_i hb
   split at h
   ·split at h
    ·simp only[Option.some.injEq,Prod.mk.injEq] at h; obtain⟨_,_,_,rfl⟩:=h
     intro id hid; simp only[List.mem_singleton] at hid; subst hid; exact⟨_,hb⟩
    ·cases h
   ·cases h
  ·cases h
 ·split at h
  ·rename_i hb
   split at h
   ·split at h
    ·simp only[Option.some.injEq,Prod.mk.injEq] at h; obtain⟨_,_,_,rfl⟩:=h
     intro id hid; simp only[List.mem_singleton] at hid; subst hid; exact⟨_,hb⟩
    ·cases h
   ·cases h
  ·cases h
 ·cases h
def yf (m:Mem) (s:Shape) (x:V):Option (Shape×Nat×(Nat→V)×List Nat):=match x with
 | .nils=>some (s,0,fun _=>.unk,[])
 | x=>Zs m x
theorem Xc {C:Ctx}{M:Mem}(hs:SR B C M) {x:V}{val:Value}{s e:Shape}{len:Nat}{f:Nat→V}{rd:List Nat}(h:yf m s x=some (e,len,f,rd)) (hrd:∀ id∈rd,M id=m id) (hr:R C x (.val val)) :
  ∃ a c,val=.slice a len c∧len≤c∧Holds C a e len f:=by
 unfold yf at h
 split at h
 ·simp only[Option.some.injEq,Prod.mk.injEq] at h
  obtain⟨rfl,rfl,rfl,rfl⟩:=h
  exact⟨none,0,hr,Nat.le_refl _,.inl rfl⟩
 ·exact zgq hs h hrd hr
omit [Gl] in
theorem Wj {x:V}{s e:Shape}{len:Nat}{f:Nat→V}{rd:List Nat}(h:yf m s x=some (e,len,f,rd)):∀ id∈rd,∃ b,m id=some b:=by
 unfold yf at h
 split at h
 ·simp only[Option.some.injEq,Prod.mk.injEq] at h; obtain⟨_,_,_,rfl⟩:=h; intro id hid; cases hid
 ·exact zk6 h
omit [Gl] in
theorem zbC {C:Ctx}{e:Shape}{f:Nat→V}{g:Nat→Option Value}{o:Nat}:∀(len:Nat),(∀ i,i < len→R C (f i) (.cel e g (o + i * e.size))) →
  ∃ cs:List Value,cs.length=len * e.size∧(∀ j,j < len * e.size→cs[j]?=g (o + j))∧∀ u∈cs,u.oneCell'=true:=by
 intro len h
 have hc:∀ j,j < len * e.size→∃ x,g (o + j)=some x∧x.oneCell'=true:=by
  intro j hj
  have he:0 < e.size:=by
   rcases Nat.eq_zero_or_pos e.size with h0 | h0
   ·rw[h0] at hj; simp at hj
   ·exact h0
  have hi:j / e.size < len:=(Nat.div_lt_iff_lt_mul he).2 hj
  obtain⟨x,h1,h2⟩:=R.cells _ (h _ hi) (j % e.size) (Nat.mod_lt _ he)
  have:=Nat.div_add_mod j e.size
  rw[Nat.mul_comm] at this
  exact⟨x,by rw[←h1]; congr 1; omega,h2⟩
 let fn:Nat→Value:=fun j=>if hj:j < len * e.size then Classical.choose (hc j hj) else undef
 refine⟨(List.range (len * e.size)).map fn,by simp,fun j hj=>?_,?_⟩
 ·have:=(Classical.choose_spec (hc j hj)).1
  rw[this]
  simp [hj,fn]
 ·intro u hu
  obtain⟨j,hj,rfl⟩:=List.mem_map.1 hu
  simp only[List.mem_range] at hj
  have:=(Classical.choose_spec (hc j hj)).2
  simpa [fn,hj] using this
end
end Go.Ab
namespace Go.Ab
open Go.RowKit
variable [Gl]
section
variable {P:Program}{B:Nat}{o:Oper}{ρ:Operand→V}{m:Mem}{n:Nat}
omit [Gl] in
theorem zaf {w:World}{B:Nat}{t ty et:TypeId}{i:TypeInfo}{size:Nat}(ht:P.underlying t=some (.slice et)) (hi:P.info? et=some i) {v:Value}{k:Nat}{xs:List Value}(hown:w.ownsRow B et size v k xs) (a:Option Addr) (c:Nat) :
  (Builtin.append_ #[t,t] ty #[v,.slice a 0 c]).run P w=.ok v w:=by
 have hl:∀(x:Addr),(loadCells x 0).run P w=.ok #[] w:=fun x=>by simpa using run_loadCells_list (P:=P) w x [] (by simp)
 rcases hown.2 with ⟨rfl,rfl⟩ | ⟨g,cap,cur,rfl,_,_,hnc,_⟩
 ·cases a<;>simp [Builtin.append_,run_underlying ht,sizeOf,typeInfo,hi,Builtin.lenOf,Builtin.firstCells,hl]
 ·cases a<;>simp [Builtin.append_,run_underlying ht,sizeOf,typeInfo,hi,Builtin.lenOf,Builtin.firstCells,hnc,storeCells,hl]
omit [Gl] in
theorem zbG {w:World}{B:Nat}{t ty et:TypeId}{i:TypeInfo}{z:Value}{size:Nat}(ht:P.underlying t=some (.slice et)) (hi:P.info? et=some i) (hz:i.zero=some z) (hs:i.size=size) (hzs:z.cells.size=size) (hpos:0 < size) (hby:i.bytes≤1048576)
  {v:Value}{k:Nat}{xs:List Value}(hown:w.ownsRow B et size v k xs) (a:Addr) (q c:Nat) (news:List Value) (hq:0 < q) (hl:news.length=q * size) (hnews:∀ j u,news[j]?=some u→w.cell? (a.add j)=some u) (h1:∀ u∈news,u.oneCell'=true)
  (hb:k + q≤134217728) (hB:B≤w.heap.size) :
  ∃ v' w',(Builtin.append_ #[t,t] ty #[v,.slice (some a) q c]).run P w=.ok v' w'∧w'.ownsRow B et size v' (k + q) (xs++news)∧w.grownBy w' (xl v)∧(xl v'=xl v∨∃ b,xl v'=some b∧w.heap.size≤b):=by
 have h63:k + q≤maxLen:=by unfold maxLen; omega
 have hbytes:(k + q) * i.bytes≤140737488355328:=by
  have:(k + q) * i.bytes≤134217728 * 1048576:=Nat.mul_le_mul hb hby
  omega
 subst hs
 have hlow:∀ {v':Value}{w':World}{ys:List Value},w'.ownsRow w.heap.size et i.size v' (k + q) ys→w'.ownsRow B et i.size v' (k + q) ys∧∃ b,xl v'=some b∧w.heap.size≤b:=by
  intro v' w' ys h
  rcases h.2 with ⟨_,h2⟩ | ⟨g,cap,cur,hv,hg,r⟩
  ·omega
  ·exact⟨⟨h.1,.inr ⟨g,cap,cur,hv,by omega,r⟩⟩,g,by rw[hv]; rfl,hg⟩
 rcases hown.2 with ⟨rfl,rfl⟩ | ⟨g,cap,cur,rfl,hbg,hg,hnc,hcm,hcs,htake⟩
 ·have hx0:xs=[]:=by have:=hown.1; simp at this; exact this
  subst hx0
  have hmb:q * i.bytes≤281474976710656:=by rw[Nat.zero_add] at hbytes; omega
  have hr:=run_append_nil (P:=P) w t ty et i z ht hi hz a q c news hl hnews hq (by unfold maxLen at h63; omega) hmb
  refine⟨_,_,hr,?_⟩
  have hown':(w.drew.alloc (.cells (news.toArray++Builtin.zeroCells z.cells (grownCap w q 0 et - q)) et)).ownsRow w.heap.size et i.size (.slice (some ⟨w.heap.size,0,none⟩) q (grownCap w q 0 et)) (0 + q) ([]++news):=by
   have hge:=grownCap_ge w q 0 et
   refine⟨by simpa using hl,.inr ⟨w.heap.size,_,_,by simp,Nat.le_refl _,heap_alloc_new w.drew _,by omega,grownCap_le_maxLen w q 0 et (by omega),?_,?_⟩⟩
   ·simp only[Array.size_append,List.size_toArray,size_zeroCells,hzs,hl,←Nat.add_mul]
    congr 1; omega
   ·simp only[Array.toList_append,List.nil_append,Nat.zero_add,←hl]
    exact List.take_left
  obtain⟨q1,q2⟩:=hlow hown'
  exact⟨q1,⟨rfl,rfl,rfl,by simp,fun k hk _=>Below.heap_alloc w.drew _ k hk⟩,.inr q2⟩
 ·by_cases hroom:k + q≤cap
  ·obtain⟨w',h2,h3,h4⟩:=run_append_fits (P:=P) w B t ty et i i.size ht hi rfl g k cap xs hown a q c news hl hnews h1 hroom
   exact⟨_,w',h2,h3,h4,.inl rfl⟩
  ·have holds:∀ j u,xs[j]?=some u→w.cell? ((⟨g,0,none⟩:Addr).add j)=some u:=by
    intro j u hu
    have hj:j < xs.length:=(List.getElem?_eq_some_iff.1 hu).1
    rw[hown.1] at hj
    rw[add_lit,Nat.zero_add,World.ownsRow.cellAt hown j hj]; exact hu
   obtain⟨v',w',h2,h3,h4⟩:=run_append_arg_grows (P:=P) w t ty et i z i.size i.bytes ht hi hz rfl rfl hzs hpos ⟨g,0,none⟩ k cap xs hown.1 holds a q c news hl hnews (by omega) h63 hbytes
   obtain⟨q1,q2⟩:=hlow h3
   exact⟨v',w',h2,q1,⟨h4.os,h4.tape,h4.output,h4.size,fun j hj _=>h4.block j hj (by simp)⟩,.inr q2⟩
theorem yQ {C:Ctx}{M:Mem}{old:Option (Nat×Blk)}{v':Value}{w':World}{et:TypeId}{e:Shape}{len:Nat}{cells:List Value}{f:Nat→V}{op:Sem Next}(hs:SR B C M) (hn:¬ C.al n)
  (hold:∀ x,old=some x→M x.1=some x.2∧x.2.live=true) (hne:∀ x,old=some x→x.1≠n)
  (hrun:op.run P C.w=.ok (.value v') w') (hown:w'.ownsRow B et e.size v' len cells) (hg:C.w.grownBy w' (old.bind fun x=>xe (C.sv x.1)))
  (hnew:xe v'=(old.bind fun x=>xe (C.sv x.1))∨∃ b,xe v'=some b∧C.w.heap.size≤b)
  (hv:∀ C',Keep C C'→R C' (.arr len f) (.cel (.arr len e) (fun i=>cells[i]?) 0)) :
  Does P op C.w (VS B C (put M n ⟨.row n e len,(old.map fun x=>(x.1,⟨.dead,x.2.sh,.unk⟩)).toList,[⟨.row et,.arr len e,.arr len f⟩],[]⟩) (fun id=>n≤id∧id < n + 1) (.row n e len)):=by
 unfold Does
 rw[hrun]
 let C':Ctx:={ C with al:=fun i=>C.al i∨i=n,sv:=upd C.sv n v',shp:=upd C.shp n (.arr len e),w:=w' }
 have hnal:∀ id,C.al id→id≠n:=fun id hid h=>hn (h▸hid)
 have hok:∀ u b,C.ok u b→some b≠(old.bind fun x=>xe (C.sv x.1)):=by
  intro u b hb he
  cases hx:old with
  | none=>rw[hx] at he; cases he
  | some x =>
   rw[hx] at he
   obtain⟨q1,q2⟩:=hold x hx
   exact hs.own x.1 x.2 b q1 q2 he.symm u hb
 have hlow:∀ b,some b=(old.bind fun x=>xe (C.sv x.1))→B≤b:=by
  intro b he
  cases hx:old with
  | none=>rw[hx] at he; cases he
  | some x =>
   rw[hx] at he
   obtain⟨q1,q2⟩:=hold x hx
   exact (hs.lt q1 q2 he.symm).1
 have hk:Keep C C':=⟨fun _ h=>.inl h,fun id hid=>zf _ _ (hnal id hid),fun id hid=>zf _ _ (hnal id hid),fun _ _ h=>h,fun u b hb=>hg.block b (hs.okLt u b hb) (hok u b hb)⟩
 have hkp:Kp B C C':=⟨hk,⟨hg.os,hg.tape,hg.output,hg.size,fun k hk=>hg.block k (Nat.lt_of_lt_of_le hk hs.base) (fun e=>by have:=hlow k e; omega)⟩,fun _ _ h=>.inl (.inl h)⟩
 have hput:∀ id,put M n ⟨.row n e len,(old.map fun x=>(x.1,(⟨.dead,x.2.sh,.unk⟩:Blk))).toList,[⟨.row et,.arr len e,.arr len f⟩],[]⟩ id=if id=n then some ⟨.row et,.arr len e,.arr len f⟩ else (match old with | some x=>if id=x.1 then some ⟨.dead,x.2.sh,.unk⟩ else M id | none=>M id):=by
  intro id
  by_cases h:id=n
  ·subst h; simp [put,xf]
  ·have h1:¬ (n≤id∧id < n + 1):=by omega
   rw[if_neg h]
   simp only[put,xf,List.length_cons,List.length_nil,Nat.zero_add,h1,if_false]
   cases old with
   | none=>simp
   | some x =>
    by_cases h2:id=x.1
    ·subst h2; simp [List.lookup]
    ·have:(id==x.1)=false:=by simpa using h2
     simp [List.lookup,this,h2]
 have hblk:∀ id blk,id≠n→put M n ⟨.row n e len,(old.map fun x=>(x.1,(⟨.dead,x.2.sh,.unk⟩:Blk))).toList,[⟨.row et,.arr len e,.arr len f⟩],[]⟩ id=some blk→blk.live=true→M id=some blk∧∀ x,old=some x→id≠x.1:=by
  intro id blk h1 h2 h3
  rw[hput,if_neg h1] at h2
  cases hx:old with
  | none=>rw[hx] at h2; exact⟨h2,fun x h=>by cases h⟩
  | some x =>
   rw[hx] at h2
   simp only at h2
   split at h2
   ·cases h2; cases h3
   ·rename_i hne2; exact⟨h2,fun y hy=>by cases hy; exact hne2⟩
 refine⟨C',rfl,?_,hkp,?_,fun id h=>?_⟩
 ·refine⟨.inr rfl,?_,by simp [C'],by simp [C',Ab.M.leaf]⟩
  rcases hown.2 with ⟨h1,h2⟩ | ⟨g,cap,cur,h1,_⟩
  ·exact⟨none,0,by simp [C',h1,h2]⟩
  ·exact⟨_,_,by simp [C',h1]; exact⟨rfl,rfl⟩⟩
 ·refine hs.next hkp (fun id=>id=n∨∃ x,old=some x∧id=x.1) ?_ ?_ ?_ ?_ ?_ ?_
  ·intro id hid
   rw[hput,if_neg (fun h=>hid (.inl h))]
   cases hx:old with
   | none=>rfl
   | some x=>simp only; rw[if_neg (fun h=>hid (.inr ⟨x,hx,h⟩))]
  ·intro id blk b hid hm ha hb
   refine hg.block b (hs.lt hm ha hb).2 fun he=>?_
   cases hx:old with
   | none=>rw[hx] at he; cases he
   | some x =>
    rw[hx] at he
    obtain⟨q1,q2⟩:=hold x hx
    exact hid (.inr ⟨x,hx,hs.sep id x.1 blk x.2 b hm ha q1 q2 hb he.symm⟩)
  ·intro id blk hid hm
   rw[hput] at hm
   by_cases h1:id=n
   ·subst h1
    rw[if_pos rfl] at hm
    cases hm
    refine⟨.inr rfl,?_⟩
    show BR B C' id ⟨.row et,.arr len e,.arr len f⟩
    exact⟨len,e,cells,by simp [C'],rfl,by simpa [C'] using hown,hv C' hk⟩
   ·rw[if_neg h1] at hm
    rcases hid with hid | ⟨x,hx,hid⟩
    ·exact absurd hid h1
    ·rw[hx] at hm
     simp only[hid,if_true] at hm
     cases hm
     exact⟨.inl (by rw[hid]; exact hs.al x.1 x.2 (hold x hx).1),trivial⟩
  ·intro u b hb
   exact Nat.lt_of_lt_of_le (hs.okLt u b hb) hg.size
  ·intro id id' blk1 blk2 b h1 h2 h3 h4 hid h5 h6
   by_cases e1:id=n
   ·subst e1
    by_cases e2:id'=id
    ·exact e2.symm
    ·exfalso
     obtain⟨q1,q2⟩:=hblk id' blk2 e2 h3 h4
     simp only[C',zp] at h5
     simp only[C',zf _ _ e2] at h6
     rcases hnew with hnew | ⟨b',hnew,hge⟩
     ·rw[hnew] at h5
      cases hx:old with
      | none=>rw[hx] at h5; cases h5
      | some x =>
       rw[hx] at h5
       obtain⟨p1,p2⟩:=hold x hx
       exact q2 x hx (hs.sep id' x.1 blk2 x.2 b q1 h4 p1 p2 h6 h5)
     ·rw[hnew] at h5
      cases h5
      have:=(hs.lt q1 h4 h6).2
      omega
   ·exfalso
    rcases hid with hid | ⟨x,hx,hid⟩
    ·exact e1 hid
    ·exact (hblk id blk1 e1 h1 h2).2 x hx hid
  ·intro id blk1 b h1 h2 h3 u hokb
   by_cases e1:id=n
   ·subst e1
    simp only[C',zp] at h3
    rcases hnew with hnew | ⟨b',hnew,hge⟩
    ·rw[hnew] at h3; exact hok u b hokb h3.symm
    ·rw[hnew] at h3; cases h3
     have:=hs.okLt u b hokb
     omega
   ·obtain⟨q1,q2⟩:=hblk id blk1 e1 h1 h2
    simp only[C',zf _ _ e1] at h3
    exact hs.own id blk1 b q1 h2 h3 u hokb
 ·rcases h with h | h
  ·exact .inl h
  ·exact .inr ⟨by omega,by omega⟩
def wt (len0:Nat) (f0 f:Nat→V):Nat→V:=fun i=>V.ite (decide (i < len0)) (f0 i) (f (i - len0))
omit [Gl] in
theorem zbH {C:Ctx}{e:Shape}{len0 k:Nat}{f0 f:Nat→V}{xs news:List Value}(h0:R C (.arr len0 f0) (.cel (.arr len0 e) (fun i=>xs[i]?) 0)) (hx:xs.length=len0 * e.size) (hn:news.length=k * e.size)
  (h1:∀ i,i < k→R C (f i) (.cel e (fun i=>news[i]?) (i * e.size))):R C (.arr (len0 + k) (wt len0 f0 f)) (.cel (.arr (len0 + k) e) (fun i=>(xs++news)[i]?) 0):=by
 obtain⟨e',q1,q2⟩:=h0
 cases q1
 refine⟨e,rfl,fun i hi=>?_⟩
 show R C (V.ite (decide (i < len0)) (f0 i) (f (i - len0))) _
 rw[V.ite_eq]
 by_cases hlt:i < len0
 ·rw[decide_eq_true hlt,cond_true]
  refine R.shift _ (q2 i hlt) fun j hj=>?_
  have hle:(i + 1) * e.size≤len0 * e.size:=Nat.mul_le_mul_right _ hlt
  rw[Nat.add_mul] at hle
  simp only[Nat.zero_add]
  rw[List.getElem?_append_left (by rw[hx]; omega)]
 ·rw[decide_eq_false hlt,cond_false]
  refine R.shift _ (h1 (i - len0) (by omega)) fun j hj=>?_
  have h3:i * e.size=len0 * e.size + (i - len0) * e.size:=by rw[←Nat.add_mul]; congr 1; omega
  simp only[Nat.zero_add]
  rw[List.getElem?_append_right (by rw[hx,h3]; omega),hx,h3]
  congr 1; omega
omit [Gl] in
theorem vi {C:Ctx}{a:Option Addr}{e:Shape}{k:Nat}{f:Nat→V}(hq:0 < k) (h:Holds C a e k f):∃(b o:Nat) (news:List Value),a=some ⟨b,o,none⟩∧news.length=k * e.size∧(∀ j u,news[j]?=some u→C.w.cell? ((⟨b,o,none⟩:Addr).add j)=some u)∧(∀ u∈news,u.oneCell'=true) ∧
  ∀ i,i < k→R C (f i) (.cel e (fun i=>news[i]?) (i * e.size)):=by
 rcases h with h | ⟨b,o,ha,_,h⟩
 ·omega
 ·obtain⟨news,h1,h2,h3⟩:=zbC (g:=cg C.w b) (o:=o) k h
  refine⟨b,o,news,ha,h1,fun j u hu=>?_,h3,fun i hi=>?_⟩
  ·have hj:j < news.length:=(List.getElem?_eq_some_iff.1 hu).1
   rw[h1] at hj
   rw[add_lit,←hu,h2 j hj]; rfl
  ·refine R.shift _ (h i hi) fun j hj=>?_
   have hle:(i + 1) * e.size≤k * e.size:=Nat.mul_le_mul_right _ hi
   rw[Nat.add_mul] at hle
   rw[h2 _ (by omega),Nat.add_assoc]
omit [Gl] in
theorem qG {b:Builtin}{x y:Operand}{ts:Array TypeId}{C:Ctx}{ρc:Operand→Value}(ho:o.op=.call ⟨.builtin b,#[x,y],ts⟩) (hrel:∀ x∈o.op.operands.toList,R C (ρ x) (.val (ρc x))):R C (ρ x) (.val (ρc x))∧R C (ρ y) (.val (ρc y)) :=
 ⟨hrel x (by simp [ho,Op.operands,Call.operands]),hrel y (by simp [ho,Op.operands,Call.operands])⟩
omit [Gl] in
theorem jM {C:Ctx}{x y:Operand}{t:TypeId}{ρc:Operand→Value}{v:Value}{w':World}(ho:o.op=.call ⟨.builtin .append,#[x,y],#[t,t]⟩) (h:(Builtin.append_ #[t,t] o.type #[ρc x,ρc y]).run P C.w=.ok v w'):(execOp ρc o).run P C.w=.ok (.value v) w':=by
 simp [execOp,ho,resolve,invoke,builtin,h]
theorem VI {t et:TypeId}{x y:Operand}{i:TypeInfo}{s:Shape}{z:V}{len0 k:Nat}{f0 f:Nat→V}{rd:List Nat}{old:Option (Nat×Blk)}(ho:o.op=.call ⟨.builtin .append,#[x,y],#[t,t]⟩) (hu:P.underlying t=some (.slice et)) (hz:xu P et=some (s,z))
  (hi:P.info? et=some i) (hby:i.bytes≤1048576) (hpos:0 < s.size)
  (hx:(old=none∧ρ x=.nils∧len0=0)∨∃ id blk n1,old=some (id,blk)∧ρ x=.row id s len0∧m id=some blk∧blk.k=.row et∧blk.v=.arr n1 f0)
  (hy:yf m s (ρ y)=some (s,k,f,rd)) (hb:len0 + k≤134217728) (hne:∀ x,old=some x→x.1 < n) :
  OpSem P B o ρ m n ⟨.row n s (len0 + k),(old.map fun x=>(x.1,⟨.dead,x.2.sh,.unk⟩)).toList,[⟨.row et,.arr (len0 + k) s,.arr (len0 + k) (wt len0 f0 f)⟩],rd⟩:=by
 intro C M ρc hs hrd hup hn hrel
 obtain⟨i',zv,hi',hzv,hsz,hcz,_⟩:=qD hz
 rw[hi] at hi'; cases hi'
 obtain⟨rx,ry⟩:=qG (ρ:=ρ) ho hrel
 obtain⟨a,c,hyv,hc,hH⟩:=Xc hs hy hrd ry
 have hn':¬ C.al n:=by simpa using hn 0 (by simp)
 have base:∃ xs,C.w.ownsRow B et s.size (ρc x) len0 xs∧R C (.arr len0 f0) (.cel (.arr len0 s) (fun i=>xs[i]?) 0)∧xl (ρc x)=(old.bind fun x=>xe (C.sv x.1))∧∀ x,old=some x→M x.1=some x.2∧x.2.alive=true:=by
  rcases hx with ⟨rfl,hx,rfl⟩ | ⟨id,blk,n1,rfl,hx,hm,hk,hv⟩
  ·rw[hx] at rx
   have rx':ρc x=.slice none 0 0:=rx
   rw[rx']
   exact⟨[],⟨by simp,.inl ⟨rfl,rfl⟩⟩,⟨s,rfl,fun i hi=>by omega⟩,rfl,fun x h=>by cases h⟩
  ·rw[hx] at rx
   obtain⟨hal,⟨a1,c1,h1⟩,h2,h3⟩:=rx
   have h3':ρc x=C.sv id:=h3
   have hM:M id=some blk:=by
    have:=hup (id,⟨.dead,blk.sh,.unk⟩) (by simp)
    simp only at this
    rw[this]; exact hm
   have hbr:=hs.mem id blk hM
   unfold BR at hbr
   rw[hk] at hbr
   obtain⟨n2,s2,cells,q1,q2,q3,q4⟩:=hbr
   rw[q1,q2] at h2
   cases h2
   rw[h3']
   refine⟨cells,q3,?_,by rw[h1]; show xl (Value.slice a1 len0 c1)=xe (C.sv id); rw[h1]; rfl,fun x hx=>by cases hx; exact⟨hM,by unfold Blk.alive; rw[hk]⟩⟩
   rw[hv,q2] at q4
   obtain⟨e',p1,p2⟩:=q4
   cases p1
   exact⟨_,rfl,p2⟩
 obtain⟨xs,hown,hR0,hbk,hold⟩:=base
 have hlen:=hown.1
 have hE:∀(v':Value) (w':World) (news:List Value),(Builtin.append_ #[t,t] o.type #[ρc x,ρc y]).run P C.w=.ok v' w'→w'.ownsRow B et s.size v' (len0 + k) (xs++news)→C.w.grownBy w' (xl (ρc x))→(xl v'=xl (ρc x)∨∃ b,xl v'=some b∧C.w.heap.size≤b) →
   news.length=k * s.size→(∀ i,i < k→R C (f i) (.cel s (fun i=>news[i]?) (i * s.size)))→Does P (execOp ρc o) C.w (VS B C (put M n ⟨.row n s (len0 + k),(old.map fun x=>(x.1,⟨.dead,x.2.sh,.unk⟩)).toList,[⟨.row et,.arr (len0 + k) s,.arr (len0 + k) (wt len0 f0 f)⟩],rd⟩) (fun id=>n≤id∧id < n + 1) (.row n s (len0 + k))):=by
  intro v' w' news hr h2 h3 h4 h5 h6
  have hv':xe v'=xl v':=by rcases h2.2 with ⟨h,_⟩ | ⟨g,cap,cur,h,_⟩<;>rw[h]<;>rfl
  rw[←hv'] at h4
  rw[hbk] at h3 h4
  exact yQ hs hn' (fun x hx=>⟨(hold x hx).1,Blk.lv (hold x hx).2⟩) (fun x hx=>by have:=hne x hx; omega) (jM ho hr) h2 h3 h4 fun C' hk=>R.keep hk _ _ (zbH hR0 hlen h5 h6)
 rcases Nat.eq_zero_or_pos k with h0 | hq
 ·subst h0
  refine hE (ρc x) C.w [] ?_ (by simpa using hown) ⟨rfl,rfl,rfl,Nat.le_refl _,fun _ _ _=>rfl⟩ (.inl rfl) (by simp) (fun i hi=>by omega)
  rw[hyv]
  exact zaf hu hi hown a c
 ·obtain⟨b,ob,news,ha,h1,h2,h3,h4⟩:=vi hq hH
  subst ha
  obtain⟨v',w',q1,q2,q3,q4⟩:=zbG (P:=P) (ty:=o.type) hu hi hzv hsz hcz hpos hby hown ⟨b,ob,none⟩ k c news hq h1 h2 h3 hb hs.base
  rw[←hyv] at q1
  exact hE v' w' news q1 q2 q3 q4 h1 h4
end
end Go.Ab
namespace Go.Ab
open Go.RowKit
variable [Gl]
section
variable {P:Program}{B:Nat}{o:Oper}{ρ:Operand→V}{m:Mem}{n:Nat}
theorem JV {t et:TypeId}{x y:Operand}{i:TypeInfo}{s:Shape}{z:V}{u:Bool}{len0 k:Nat}{f0 f:Nat→V}{rd:List Nat}(ho:o.op=.call ⟨.builtin .append,#[x,y],#[t,t]⟩) (hu:P.underlying t=some (.slice et)) (hz:xu P et=some (s,z))
  (hi:P.info? et=some i) (hby:i.bytes≤1048576) (hpos:0 < s.size) (hx:ρ x=.ro u true s len0 f0) (hy:yf m s (ρ y)=some (s,k,f,rd)) (hb:len0 + k≤134217728) (hk:0 < k) :
  OpSem P B o ρ m n ⟨.row n s (len0 + k),[],[⟨.row et,.arr (len0 + k) s,.arr (len0 + k) (wt len0 f0 f)⟩],rd⟩:=by
 intro C M ρc hs hrd hup hn hrel
 obtain⟨i',zv,hi',hzv,hsz,hcz,_⟩:=qD hz
 rw[hi] at hi'; cases hi'
 obtain⟨rx,ry⟩:=qG (ρ:=ρ) ho hrel
 obtain⟨a,c,hyv,hc,hH⟩:=Xc hs hy hrd ry
 have hn':¬ C.al n:=by simpa using hn 0 (by simp)
 obtain⟨b,ob,news,ha,h1,h2,h3,h4⟩:=vi hk hH
 subst ha
 rw[hx] at rx
 obtain⟨a0,c0,p1,p2,p3,p4⟩:=rx
 have p1':ρc x=.slice a0 len0 c0:=p1
 have hc0:c0=len0:=p3 rfl
 subst hc0
 have h63:c0 + k≤maxLen:=by unfold maxLen; omega
 have hbytes:(c0 + k) * i.bytes≤140737488355328:=by
  have:(c0 + k) * i.bytes≤134217728 * 1048576:=Nat.mul_le_mul hb hby
  omega
 have hfin:∀(xs:List Value),(R C (.arr c0 f0) (.cel (.arr c0 s) (fun i=>xs[i]?) 0))→xs.length=c0 * s.size→(∃ v' w',(Builtin.append_ #[t,t] o.type #[ρc x,ρc y]).run P C.w=.ok v' w'∧w'.ownsRow C.w.heap.size et s.size v' (c0 + k) (xs++news)∧C.w.grownBy w' none) →
   Does P (execOp ρc o) C.w (VS B C (put M n ⟨.row n s (c0 + k),[],[⟨.row et,.arr (c0 + k) s,.arr (c0 + k) (wt c0 f0 f)⟩],rd⟩) (fun id=>n≤id∧id < n + 1) (.row n s (c0 + k))):=by
  rintro xs hR0 hlen ⟨v',w',q1,q2,q3⟩
  rcases q2.2 with ⟨_,q4⟩ | ⟨g,cap,cur,q4,q5,r⟩
  ·omega
  ·exact yQ (old:=none) hs hn' (fun x h=>by cases h) (fun x h=>by cases h) (jM ho q1) ⟨q2.1,.inr ⟨g,cap,cur,q4,Nat.le_trans hs.base q5,r⟩⟩ q3 (.inr ⟨g,by rw[q4]; rfl,q5⟩) fun C' hk=>R.keep hk _ _ (zbH hR0 hlen h1 h4)
 rcases Nat.eq_zero_or_pos c0 with h0 | hq
 ·subst h0
  refine hfin [] ⟨s,rfl,fun i hi=>by omega⟩ (by simp) ?_
  cases a0 with
  | none =>
   have hmb:k * i.bytes≤281474976710656:=by rw[Nat.zero_add] at hbytes; omega
   have hr:=run_append_nil (P:=P) C.w t o.type et i zv hu hi hzv ⟨b,ob,none⟩ k c news (by rw[hsz]; exact h1) h2 hk (by unfold maxLen at h63; omega) hmb
   rw[p1',hyv]
   refine⟨_,_,hr,?_,⟨rfl,rfl,rfl,by simp,fun k hk _=>Below.heap_alloc C.w.drew _ k hk⟩⟩
   have hge:=grownCap_ge C.w k 0 et
   refine⟨by simpa using h1,.inr ⟨C.w.heap.size,_,_,by simp,Nat.le_refl _,heap_alloc_new C.w.drew _,by omega,grownCap_le_maxLen C.w k 0 et (by omega),?_,?_⟩⟩
   ·simp only[Array.size_append,List.size_toArray,size_zeroCells,hcz,h1,←Nat.add_mul]
    congr 1; omega
   ·simp only[Array.toList_append,List.nil_append,Nat.zero_add,←h1]
    exact List.take_left
  | some a0 =>
   obtain⟨v',w',q1,q2,q3⟩:=run_append_arg_grows (P:=P) C.w t o.type et i zv s.size i.bytes hu hi hzv hsz rfl hcz hpos a0 0 0 [] (by simp) (by simp) ⟨b,ob,none⟩ k c news h1 h2 (by omega) h63 hbytes
   rw[p1',hyv]
   exact⟨v',w',q1,q2,q3⟩
 ·have hH0:Holds C a0 s c0 f0:=by
   rcases p4 with p4 | ⟨b0,o0,q1,q2,q3⟩
   ·omega
   ·exact .inr ⟨b0,o0,q1,hs.okLt _ _ q2,fun i hi=>R.keep (Keep.of_pur C) _ _ (q3 i hi)⟩
  obtain⟨b0,o0,xs,q0,q1,q2,q3,q4⟩:=vi hq hH0
  subst q0
  refine hfin xs ⟨s,rfl,fun i hi=>by simpa using q4 i hi⟩ q1 ?_
  obtain⟨v',w',r1,r2,r3⟩:=run_append_arg_grows (P:=P) C.w t o.type et i zv s.size i.bytes hu hi hzv hsz rfl hcz hpos ⟨b0,o0,none⟩ c0 c0 xs q1 q2 ⟨b,ob,none⟩ k c news h1 h2 (by omega) h63 hbytes
  rw[p1',hyv]
  exact⟨v',w',r1,r2,r3⟩
def cpF (off cnt:Nat) (f0 f:Nat→V):Nat→V:=fun j=>V.ite (decide (off≤j)&&decide (j < off + cnt)) (f (j - off)) (f0 j)
omit [Gl] in
theorem zab {C:Ctx}{x y:Operand}{t t':TypeId}{ρc:Operand→Value}{v:Value}{w':World}(ho:o.op=.call ⟨.builtin .copy,#[x,y],#[t,t']⟩) (h:(Builtin.copy_ #[t,t'] o.type #[ρc x,ρc y]).run P C.w=.ok v w'):(execOp ρc o).run P C.w=.ok (.value v) w':=by
 simp [execOp,ho,resolve,invoke,builtin,h]
theorem Qv {C:Ctx}{M:Mem}{id:Nat}{blk:Blk}{p:List Step}{N off cnt:Nat}{e:Shape}{f0 f:Nat→V}{news:List Value}{b d:Nat}{op:Sem Next}{v:Value}{w1:V}(hs:SR B C M) (hm:M id=some blk) (ha:blk.alive=true)
  (hb:xl (C.sv id)=some b) (hp:Shape.path p (C.shp id)=some (d,.arr N e)) (hv0:blk.v.path p=.arr N f0) (hle0:off + cnt≤N) (hl:news.length=cnt * e.size) (h1:∀ u∈news,u.oneCell'=true)
  (hR:∀ i,i < cnt→R C (f i) (.cel e (fun i=>news[i]?) (i * e.size))) (hw1:∀ C',Kp B C C'→R C' w1 (.val v))
  (hrun:∀ w',(storeCells ⟨b,d + off * e.size,none⟩ news).run P C.w=.ok () w'→op.run P C.w=.ok (.value v) w') :
  Does P op C.w (VS B C (upd M id (some ⟨blk.k,blk.sh,V.set p (.arr N (cpF off cnt f0 f)) blk.v⟩)) (fun i=>n≤i∧i < n + 0) w1):=by
 have hbr:=hs.mem id blk hm
 have hle:=Shape.path_le p _ hp
 have hz:(off + cnt) * e.size≤N * e.size:=Nat.mul_le_mul_right _ hle0
 rw[Nat.add_mul] at hz
 have hsz:(Shape.arr N e).size=N * e.size:=rfl
 rw[hsz] at hle
 have over:∀(C':Ctx) (g g':Nat→Option Value),Keep C C'→R C blk.v (.cel blk.sh g 0)→Shape.path p blk.sh=some (d,.arr N e)→(∀ j,g' j=if d + off * e.size≤j∧j < d + off * e.size + cnt * e.size then news[j - (d + off * e.size)]? else g j) →
   R C' (V.set p (.arr N (cpF off cnt f0 f)) blk.v) (.cel blk.sh g' 0):=by
  intro C' g g' hk h0 hp' hg
  refine R.set p (R.keep hk _ _ h0) hp' (fun j hj=>?_) ?_
  ·rw[hg,if_neg]
   simp only[Nat.zero_add,hsz] at hj
   omega
  ·have h2:=R.path p h0 hp'
   rw[hv0] at h2
   obtain⟨e',q1,q2⟩:=h2
   cases q1
   refine⟨e,rfl,fun j hj=>?_⟩
   show R C' (V.ite (decide (off≤j)&&decide (j < off + cnt)) (f (j - off)) (f0 j)) _
   rw[V.ite_eq]
   by_cases hin:off≤j∧j < off + cnt
   ·rw[show (decide (off≤j)&&decide (j < off + cnt))=true by simp [hin],cond_true]
    refine R.keep hk _ _ (R.shift _ (hR (j - off) (by omega)) fun k hk2=>?_)
    have h3:j * e.size=off * e.size + (j - off) * e.size:=by rw[←Nat.add_mul]; congr 1; omega
    have h4:(j - off + 1) * e.size≤cnt * e.size:=Nat.mul_le_mul_right _ (by omega)
    rw[Nat.add_mul] at h4
    rw[hg,if_pos (by omega)]
    congr 1; omega
   ·rw[show (decide (off≤j)&&decide (j < off + cnt))=false by simpa using hin,cond_false]
    refine R.keep hk _ _ (R.shift _ (q2 j hj) fun k hk2=>?_)
    rw[hg,if_neg]
    intro hc
    rcases Nat.lt_or_ge j off with h5 | h5
    ·have h6:(j + 1) * e.size≤off * e.size:=Nat.mul_le_mul_right _ h5
     rw[Nat.add_mul] at h6; omega
    ·have h6:(off + cnt) * e.size≤j * e.size:=Nat.mul_le_mul_right _ (by omega)
     rw[Nat.add_mul] at h6; omega
 have key:∃ cur e',C.w.heap[b]?=some (.cells cur e' (0,0))∧d + off * e.size + cnt * e.size≤cur.size ∧
   ∀ C':Ctx,Keep C C'→C'.sv id=C.sv id→C'.shp id=C.shp id→C'.w=C.w.setRow b (cur.toList.take (d + off * e.size)++news++cur.toList.drop (d + off * e.size + news.length)).toArray →
    BR B C' id ⟨blk.k,blk.sh,V.set p (.arr N (cpF off cnt f0 f)) blk.v⟩:=by
  unfold BR at hbr; unfold Blk.alive at ha
  cases hkd:blk.k<;>simp only[hkd] at hbr ha
  ·obtain⟨g,cur,e',h2,h3,h4,h5,h6,h7,hT⟩:=hbr
   rw[h2] at hb; simp only[xl,Option.some.injEq] at hb; subst hb
   rw[h5] at hp
   have hle2:=Shape.path_le p _ hp
   rw[hsz] at hle2
   refine⟨cur,e',h4,by omega,fun C' hk' e1 e2 e3=>?_⟩
   show BR B C' id ⟨.box _,blk.sh,_⟩
   refine⟨g,_,e',by rw[e1]; exact h2,h3,by rw[e3]; exact setRow_heap C.w g cur _ e' _ h4,by rw[e2]; exact h5,?_,over C' _ _ hk' h7 hp fun j=>?_,hT⟩
   ·rw[List.size_toArray,xA _ _ _ (by rw[hl]; omega)]; exact h6
   ·simp only[List.getElem?_toArray]
    rw[vN _ _ _ (by rw[hl]; omega),hl]
  ·obtain⟨n1,s1,cells,h2,h3,h4,h5⟩:=hbr
   rw[h2] at hp
   have hle2:=Shape.path_le p _ hp
   rw[hsz] at hle2
   obtain⟨h40,h4⟩:=h4
   rcases h4 with ⟨h8,_⟩ | ⟨g,cap,cur,hv,hg,hh,hnc,hcm,hcs,htake⟩
   ·rw[h8] at hb; simp [xl] at hb
   ·rw[hv] at hb; simp only[xl,Option.some.injEq] at hb; subst hb
    rename_i e'
    have hsz2:blk.sh.size=n1 * s1.size:=by rw[h3]; rfl
    have hcz:n1 * s1.size≤cur.size:=by rw[hcs]; exact Nat.mul_le_mul_right _ hnc
    refine⟨cur,e',hh,by omega,fun C' hk' e1 e2 e3=>?_⟩
    show BR B C' id ⟨.row e',blk.sh,_⟩
    refine⟨n1,s1,(cur.toList.take (d + off * e.size)++news++cur.toList.drop (d + off * e.size + news.length)).take (n1 * s1.size),by rw[e2]; exact h2,h3,⟨?_,.inr ⟨g,cap,_,by rw[e1]; exact hv,hg,by rw[e3]; exact setRow_heap C.w g cur _ e' _ hh,hnc,hcm,?_,?_⟩⟩,over C' _ _ hk' h5 hp fun j=>?_⟩
    ·rw[List.length_take,xA _ _ _ (by rw[hl]; omega)]; omega
    ·rw[List.size_toArray,xA _ _ _ (by rw[hl]; omega)]; exact hcs
    ·rfl
    ·have hcell:∀ j,j < n1 * s1.size→cells[j]?=cur[j]?:=by
      intro j hj; rw[←htake,List.getElem?_take,if_pos hj]; simp
     by_cases hj2:j < n1 * s1.size
     ·rw[List.getElem?_take,if_pos hj2,vN _ _ _ (by rw[hl]; omega),hl,hcell j hj2]
     ·rw[List.getElem?_take,if_neg hj2,if_neg (by omega)]
      exact (List.getElem?_eq_none (by rw[h40]; omega)).symm
  ·simp at ha
  ·simp at ha
  ·simp at ha
 obtain⟨cur,e',k1,k2,k3⟩:=key
 have hst:=run_storeCells_at P b (d + off * e.size) e' news 0 cur C.w k1 (by rw[hl]; simpa using k2) h1
 simp only[Nat.add_zero] at hst
 have hr:=hrun _ hst
 unfold Does
 rw[hr]
 obtain⟨h2,h3⟩:=hs.write hm (Blk.lv ha) (vz hb) (cur.toList.take (d + off * e.size)++news++cur.toList.drop (d + off * e.size + news.length)).toArray k3
 exact⟨_,rfl,hw1 _ h3,h3,h2,fun id h=>.inl h⟩
theorem Qw {C:Ctx}{M:Mem}{id:Nat}{blk:Blk}{v':V}{op:Sem Next}{v:Value}{w1:V}(hs:SR B C M) (hm:M id=some blk) (ha:blk.alive=true) (hv:∀ g,R C blk.v (.cel blk.sh g 0)→R C v' (.cel blk.sh g 0)) (hw1:R C w1 (.val v)) (hrun:op.run P C.w=.ok (.value v) C.w) :
  Does P op C.w (VS B C (upd M id (some ⟨blk.k,blk.sh,v'⟩)) (fun i=>n≤i∧i < n + 0) w1):=by
 unfold Does
 rw[hrun]
 refine⟨C,rfl,hw1,Kp.refl B C,?_,fun id h=>.inl h⟩
 have hx:∀ i b,upd M id (some ⟨blk.k,blk.sh,v'⟩) i=some b→∃ b',M i=some b'∧b'.live=b.live:=by
  intro i b h
  by_cases hi:i=id
  ·subst hi; simp only[zp,Option.some.injEq] at h; subst h; exact⟨blk,hm,rfl⟩
  ·rw[zf _ _ hi] at h; exact⟨b,h,rfl⟩
 refine hs.next (Kp.refl B C) (fun i=>i=id) (fun i hi=>zf _ _ hi) (fun _ _ _ _ _ _ _=>rfl) ?_ hs.okLt ?_ ?_
 ·intro i b hi h
  subst hi
  simp only[zp,Option.some.injEq] at h
  subst h
  refine⟨hs.al i blk hm,?_⟩
  have hb:=hs.mem i blk hm
  unfold BR at hb ⊢
  cases hkd:blk.k<;>simp only[hkd] at hb ⊢
  ·obtain⟨g,cur,e',h1,h2,h3,h4,h5,h6,hT⟩:=hb; exact⟨g,cur,e',h1,h2,h3,h4,h5,hv _ h6,hT⟩
  ·obtain⟨n1,s1,cells,h1,h2,h3,h4⟩:=hb; exact⟨n1,s1,cells,h1,h2,h3,hv _ h4⟩
  ·unfold Blk.alive at ha; rw[hkd] at ha; cases ha
  ·unfold Blk.alive at ha; rw[hkd] at ha; cases ha
 ·intro i i' b1 b2 b h1 h2 h3 h4 hi h5 h6
  obtain⟨c1,q1,q2⟩:=hx i b1 h1
  obtain⟨c2,q3,q4⟩:=hx i' b2 h3
  exact hs.sep i i' c1 c2 b q1 (by rw[q2]; exact h2) q3 (by rw[q4]; exact h4) h5 h6
 ·intro i b1 b h1 h2 h3
  obtain⟨c1,q1,q2⟩:=hx i b1 h1
  exact hs.own i c1 b q1 (by rw[q2]; exact h2) h3
theorem zgu {t et t':TypeId}{x y:Operand}{id off len N k:Nat}{p:List Step}{cap:Option Nat}{e:Shape}{blk:Blk}{f0 f:Nat→V}{rd:List Nat}{i:TypeInfo}(ho:o.op=.call ⟨.builtin .copy,#[x,y],#[t,t']⟩) (hx:ρ x=.sl id p e off len cap)
  (hm:m id=some blk) (ha:blk.alive=true) (hv0:blk.v.path p=.arr N f0) (hy:yf m e (ρ y)=some (e,k,f,rd)) (hu:P.underlying t=some (.slice et)) (hi:P.info? et=some i) (hz:i.size=e.size) :
  OpSem P B o ρ m n ⟨.int .i64 (min k len:Nat),[(id,⟨blk.k,blk.sh,V.set p (.arr N (cpF off (min k len) f0 f)) blk.v⟩)],[],rd⟩:=by
 intro C M ρc hs hrd hup _ hrel
 obtain⟨rx,ry⟩:=qG (ρ:=ρ) ho hrel
 obtain⟨a,c,hyv,hc,hH⟩:=Xc hs hy hrd ry
 rw[hx] at rx
 obtain⟨hal,ad,c2,o1,n2,h3,h4,h5,h2,h8,h6⟩:=rx
 have h3':ρc x=.slice ad len c2:=h3
 have hM:M id=some blk:=by
  have:=hup (id,⟨blk.k,blk.sh,V.set p (.arr N (cpF off (min k len) f0 f)) blk.v⟩) (by simp)
  simp only at this
  rw[this]; exact hm
 rw[yT]
 have hshp:C.shp id=blk.sh∧∃ g,R C blk.v (.cel blk.sh g 0):=by
  have hb:=hs.mem id blk hM
  unfold BR at hb; unfold Blk.alive at ha
  cases hkd:blk.k<;>simp only[hkd] at hb ha
  ·obtain⟨g,cur,e',_,_,_,h4,_,h6,_⟩:=hb; exact⟨h4,_,h6⟩
  ·obtain⟨n1,s1,cells,h1,_,_,h4⟩:=hb; exact⟨h1,_,h4⟩
  ·simp at ha
  ·simp at ha
  ·simp at ha
 have hN:n2=N:=by
  obtain⟨h9,g,h10⟩:=hshp
  rw[h9] at h2
  have h11:=R.path p h10 h2
  rw[hv0] at h11
  obtain⟨e',q1,_⟩:=h11
  cases q1; rfl
 subst hN
 rcases Nat.eq_zero_or_pos (min k len) with h0 | hq
 ·refine Qw hs hM ha (fun g hg=>?_) (v:=.int .i64 (min k len:Nat)) rfl (zab ho ?_)
  ·obtain⟨h9,_⟩:=hshp
   rw[h9] at h2
   refine R.set p hg h2 (fun _ _=>rfl) ?_
   have h11:=R.path p hg h2
   rw[hv0] at h11
   obtain⟨e',q1,q2⟩:=h11
   cases q1
   refine⟨e,rfl,fun j hj=>?_⟩
   show R C (V.ite (decide (off≤j)&&decide (j < off + min k len)) (f (j - off)) (f0 j)) _
   have:(decide (off≤j)&&decide (j < off + min k len))=false:=by
    simp; try omega
   rw[this,V.ite_false]; exact q2 j hj
  ·have hl:∀(x:Addr),(loadCells x 0).run P C.w=.ok #[] C.w:=fun x=>by simpa using run_loadCells_list (P:=P) C.w x [] (by simp)
   have h0':k.min len=0:=h0
   rw[h3',hyv]
   simp [Builtin.copy_,run_underlying hu,Builtin.lenOf,zN hi,hz,goInt,h0',h0]
   cases ad<;>cases a<;>simp [Builtin.firstCells,hl,storeCells]
 rcases h6 with h6 | ⟨b,h1,h6⟩
 ·omega
 subst h6
 have hH':Holds C a e (min k len) f:=by
  rcases hH with hH | ⟨b,o,q1,q2,q3⟩
  ·omega
  ·exact .inr ⟨b,o,q1,q2,fun i hi=>q3 i (by omega)⟩
 obtain⟨b',ob,news,q0,q1,q2,q3,q4⟩:=vi hq hH'
 subst q0
 have r4:(Builtin.firstCells e.size (min k len) (ρc y)).run P C.w=.ok news.toArray C.w:=by
  rw[hyv]
  exact run_firstCells_some (P:=P) C.w e.size (min k len) ⟨b',ob,none⟩ k c news q1 q2
 refine Qv hs hM ha h1 h2 hv0 (by omega) q1 q3 q4 (v:=.int .i64 (min k len:Nat)) (fun _ _=>rfl) fun w' hw=>zab ho ?_
 rw[hyv] at r4
 simp [Builtin.copy_,run_underlying hu,h3',hyv,Builtin.lenOf,zN hi,hz,goInt]
 rw[show k.min len=min k len from rfl,r4]
 simp [hw]
theorem JX {t et:TypeId}{x y:Operand}{i:TypeInfo}{id off len N k cap:Nat}{p:List Step}{e:Shape}{blk:Blk}{f0 f:Nat→V}{rd:List Nat}(ho:o.op=.call ⟨.builtin .append,#[x,y],#[t,t]⟩) (hu:P.underlying t=some (.slice et)) (hi:P.info? et=some i) (hz:i.size=e.size)
  (hx:ρ x=.sl id p e off len (some cap)) (hm:m id=some blk) (ha:blk.alive=true) (hv0:blk.v.path p=.arr N f0) (hy:yf m e (ρ y)=some (e,k,f,rd)) (hroom:len + k≤cap) (hN:off + len + k≤N) :
  OpSem P B o ρ m n ⟨.sl id p e off (len + k) (some cap),[(id,⟨blk.k,blk.sh,V.set p (.arr N (cpF (off + len) k f0 f)) blk.v⟩)],[],rd⟩:=by
 intro C M ρc hs hrd hup _ hrel
 obtain⟨rx,ry⟩:=qG (ρ:=ρ) ho hrel
 obtain⟨a,c,hyv,hc,hH⟩:=Xc hs hy hrd ry
 rw[hx] at rx
 obtain⟨hal,ad,c2,o1,n2,h3,h4,h5,h2,h8,h6⟩:=rx
 have h3':ρc x=.slice ad len c2:=h3
 obtain rfl:=h5 cap rfl
 have hM:M id=some blk:=by
  have:=hup (id,⟨blk.k,blk.sh,V.set p (.arr N (cpF (off + len) k f0 f)) blk.v⟩) (by simp)
  simp only at this
  rw[this]; exact hm
 rw[yT]
 have hshp:C.shp id=blk.sh∧∃ g,R C blk.v (.cel blk.sh g 0):=by
  have hb:=hs.mem id blk hM
  unfold BR at hb; unfold Blk.alive at ha
  cases hkd:blk.k<;>simp only[hkd] at hb ha
  ·obtain⟨g,cur,e',_,_,_,h4,_,h6,_⟩:=hb; exact⟨h4,_,h6⟩
  ·obtain⟨n1,s1,cells,h1,_,_,h4⟩:=hb; exact⟨h1,_,h4⟩
  ·simp at ha
  ·simp at ha
  ·simp at ha
 have hN':n2=N:=by
  obtain⟨h9,g,h10⟩:=hshp
  rw[h9] at h2
  have h11:=R.path p h10 h2
  rw[hv0] at h11
  obtain⟨e',q1,_⟩:=h11
  cases q1; rfl
 subst hN'
 have hv1:∀ C':Ctx,Kp B C C'→R C' (.sl id p e off (len + k) (some c2)) (.val (.slice ad (len + k) c2)):=fun C' hk =>
  ⟨hk.al _ hal,ad,c2,o1,n2,rfl,hroom,(fun k hk=>by cases hk; rfl),by rw[hk.shp _ hal]; exact h2,by omega,by rw[hk.sv _ hal]; exact h6⟩
 have hl:∀(x:Addr),(loadCells x 0).run P C.w=.ok #[] C.w:=fun x=>by simpa using run_loadCells_list (P:=P) C.w x [] (by simp)
 rcases Nat.eq_zero_or_pos k with h0 | hq
 ·subst h0
  refine Qw hs hM ha (fun g hg=>?_) (v:=.slice ad (len + 0) c2) (hv1 C (Kp.refl B C)) (jM ho ?_)
  ·obtain⟨h9,_⟩:=hshp
   rw[h9] at h2
   refine R.set p hg h2 (fun _ _=>rfl) ?_
   have h11:=R.path p hg h2
   rw[hv0] at h11
   obtain⟨e',q1,q2⟩:=h11
   cases q1
   refine⟨e,rfl,fun j hj=>?_⟩
   show R C (V.ite (decide (off + len≤j)&&decide (j < off + len + 0)) (f (j - (off + len))) (f0 j)) _
   have:(decide (off + len≤j)&&decide (j < off + len + 0))=false:=by
    simp; try omega
   rw[this,V.ite_false]; exact q2 j hj
  ·rw[h3',hyv]
   rw[Nat.add_zero] at hroom
   simp [Builtin.append_,run_underlying hu,Builtin.lenOf,zN hi,hz,hroom]
   cases ad<;>cases a<;>simp [Builtin.firstCells,hl,storeCells]
 rcases h6 with h6 | ⟨b,h1,h6⟩
 ·omega
 subst h6
 obtain⟨b',ob,news,q0,q1,q2,q3,q4⟩:=vi hq hH
 subst q0
 have r4:(Builtin.firstCells e.size k (ρc y)).run P C.w=.ok news.toArray C.w:=by
  rw[hyv]
  exact run_firstCells_some (P:=P) C.w e.size k ⟨b',ob,none⟩ k c news q1 q2
 refine Qv hs hM ha h1 h2 hv0 (by omega) q1 q3 q4 (v:=.slice (some ⟨b,o1 + off * e.size,none⟩) (len + k) c2) hv1 fun w' hw=>jM ho ?_
 rw[hyv] at r4
 rw[Nat.add_mul,←Nat.add_assoc] at hw
 simp [Builtin.append_,run_underlying hu,h3',hyv,Builtin.lenOf,zN hi,hz,hroom,Addr.add_lit]
 rw[r4]
 simp [hw]
theorem VA {t et:TypeId}{x y:Operand}{i:TypeInfo}{s:Shape}{z:V}{id off len0 k cap:Nat}{p:List Step}{blk:Blk}{f0 f:Nat→V}{rd:List Nat}{N:Nat}(ho:o.op=.call ⟨.builtin .append,#[x,y],#[t,t]⟩) (hu:P.underlying t=some (.slice et)) (hz:xu P et=some (s,z))
  (hi:P.info? et=some i) (hby:i.bytes≤1048576) (hpos:0 < s.size) (hx:ρ x=.sl id p s off len0 (some cap)) (hm:m id=some blk) (ha:blk.alive=true) (hv0:blk.v.path p=.arr N f0) (hy:yf m s (ρ y)=some (s,k,f,rd)) (hb:len0 + k≤134217728) (hk:cap < len0 + k) (hk0:0 < k) :
  OpSem P B o ρ m n ⟨.row n s (len0 + k),[],[⟨.row et,.arr (len0 + k) s,.arr (len0 + k) (wt len0 (fun i=>f0 (off + i)) f)⟩],id::rd⟩:=by
 intro C M ρc hs hrd hup hn hrel
 obtain⟨i',zv,hi',hzv,hsz,hcz,_⟩:=qD hz
 rw[hi] at hi'; cases hi'
 obtain⟨rx,ry⟩:=qG (ρ:=ρ) ho hrel
 obtain⟨a,c,hyv,hc,hH⟩:=Xc hs hy (fun i hi=>hrd i (List.mem_cons_of_mem _ hi)) ry
 have hsx:Zs m (ρ x)=some (s,len0,fun i=>f0 (off + i),[id]):=by
  rw[hx]
  simp [Zs,hm,ha,hv0]
 obtain⟨a1,c1,hxv,hc1,hH0⟩:=zgq hs hsx (fun i hi=>hrd i (by simp at hi; simp [hi])) rx
 have hn':¬ C.al n:=by simpa using hn 0 (by simp)
 obtain⟨b,ob,news,ha',h1,h2,h3,h4⟩:=vi hk0 hH
 subst ha'
 rw[hx] at rx
 obtain⟨hal,a0,c0,o1,n2,p1,p2,p3,_,_,p6⟩:=rx
 have p1':ρc x=.slice a0 len0 c0:=p1
 have hcc:=p3 cap rfl
 rw[←hcc] at hk
 have hH0:Holds C a0 s len0 fun i=>f0 (off + i):=by
  rw[p1'] at hxv
  cases hxv
  exact hH0
 have h63:len0 + k≤maxLen:=by unfold maxLen; omega
 have hbytes:(len0 + k) * i.bytes≤140737488355328:=by
  have:(len0 + k) * i.bytes≤134217728 * 1048576:=Nat.mul_le_mul hb hby
  omega
 have hfin:∀(xs:List Value),(R C (.arr len0 (fun i=>f0 (off + i))) (.cel (.arr len0 s) (fun i=>xs[i]?) 0))→xs.length=len0 * s.size→(∃ v' w',(Builtin.append_ #[t,t] o.type #[ρc x,ρc y]).run P C.w=.ok v' w'∧w'.ownsRow C.w.heap.size et s.size v' (len0 + k) (xs++news)∧C.w.grownBy w' none) →
   Does P (execOp ρc o) C.w (VS B C (put M n ⟨.row n s (len0 + k),[],[⟨.row et,.arr (len0 + k) s,.arr (len0 + k) (wt len0 (fun i=>f0 (off + i)) f)⟩],id::rd⟩) (fun id=>n≤id∧id < n + 1) (.row n s (len0 + k))):=by
  rintro xs hR0 hlen ⟨v',w',q1,q2,q3⟩
  rcases q2.2 with ⟨_,q4⟩ | ⟨g,cap,cur,q4,q5,r⟩
  ·omega
  ·exact yQ (old:=none) hs hn' (fun x h=>by cases h) (fun x h=>by cases h) (jM ho q1) ⟨q2.1,.inr ⟨g,cap,cur,q4,Nat.le_trans hs.base q5,r⟩⟩ q3 (.inr ⟨g,by rw[q4]; rfl,q5⟩) fun C' hk=>R.keep hk _ _ (zbH hR0 hlen h1 h4)
 rcases Nat.eq_zero_or_pos len0 with h0 | hq
 ·subst h0
  refine hfin [] ⟨s,rfl,fun i hi=>by omega⟩ (by simp) ?_
  cases a0 with
  | none =>
   have hz0:c0=0:=by
    rcases p6 with h | ⟨b,_,h⟩
    ·exact h
    ·cases h
   subst hz0
   have hmb:k * i.bytes≤281474976710656:=by rw[Nat.zero_add] at hbytes; omega
   have hr:=run_append_nil (P:=P) C.w t o.type et i zv hu hi hzv ⟨b,ob,none⟩ k c news (by rw[hsz]; exact h1) h2 hk0 (by unfold maxLen at h63; omega) hmb
   rw[p1',hyv]
   refine⟨_,_,hr,?_,⟨rfl,rfl,rfl,by simp,fun k hk _=>Below.heap_alloc C.w.drew _ k hk⟩⟩
   have hge:=grownCap_ge C.w k 0 et
   refine⟨by simpa using h1,.inr ⟨C.w.heap.size,_,_,by simp,Nat.le_refl _,heap_alloc_new C.w.drew _,by omega,grownCap_le_maxLen C.w k 0 et (by omega),?_,?_⟩⟩
   ·simp only[Array.size_append,List.size_toArray,size_zeroCells,hcz,h1,←Nat.add_mul]
    congr 1; omega
   ·simp only[Array.toList_append,List.nil_append,Nat.zero_add,←h1]
    exact List.take_left
  | some a0 =>
   obtain⟨v',w',q1,q2,q3⟩:=run_append_arg_grows (P:=P) C.w t o.type et i zv s.size i.bytes hu hi hzv hsz rfl hcz hpos a0 0 c0 [] (by simp) (by simp) ⟨b,ob,none⟩ k c news h1 h2 (by omega) h63 hbytes
   rw[p1',hyv]
   exact⟨v',w',q1,q2,q3⟩
 ·obtain⟨b0,o0,xs,q0,q1,q2,q3,q4⟩:=vi hq hH0
  subst q0
  refine hfin xs ⟨s,rfl,fun i hi=>by simpa using q4 i hi⟩ q1 ?_
  obtain⟨v',w',r1,r2,r3⟩:=run_append_arg_grows (P:=P) C.w t o.type et i zv s.size i.bytes hu hi hzv hsz rfl hcz hpos ⟨b0,o0,none⟩ len0 c0 xs q1 q2 ⟨b,ob,none⟩ k c news h1 h2 (by omega) h63 hbytes
  rw[p1',hyv]
  exact⟨v',w',r1,r2,r3⟩
end
end Go.Ab
