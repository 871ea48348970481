/- Single operations: a string appended to bytes; what a strings.Builder does. No condition. -/
import Derived.Test.YtfpmealbbibhpaaGreatDoorB16
import Derived.Lib.AppendStr
import Derived.Lib.UnsafeStr
import Derived.Lib.Builder
set_option linter.unusedVariables false
set_option linter.unusedSimpArgs false
namespace Go.Ab
open Go.RowKit Go.Lib
variable [Gl]
section
variable {P:Program}{B:Nat}{o:Oper}{ρ:Operand→V}{m:Mem}{n:Nat}
omit [Gl] in
theorem append_own_str {w:World}{t u ty e:TypeId}{i:TypeInfo}(ht:P.underlying t=some (.slice e)) (hu:P.underlying u=some .string) (hi:P.info? e=some i) (hz:i.zero=some (.int .u8 0)) (hsize:i.size=1) (hby:i.bytes=1)
    {v:Value}{k:Nat}{xs:List Value}(hown:w.ownsRow B e 1 v k xs) (s:ByteArray) (hb:k + s.size≤134217728) (hB:B≤w.heap.size) :
    ∃ v' w',(Builtin.append_ #[t,u] ty #[v,.string s]).run P w=.ok v' w'∧w'.ownsRow B e 1 v' (k + s.size) (xs++strCells s)∧w.grownBy w' (blk? v)∧(blk? v'=blk? v∨∃ b,blk? v'=some b∧w.heap.size≤b):=by
  have h63:k + s.size≤maxLen:=by unfold maxLen; omega
  have hbytes:k + s.size≤140737488355328:=by omega
  have hob:∀ v:Value,(v=.slice none 0 0∨∃ g l c,v=.slice (some ⟨g,0,none⟩) l c)→v.ownBlock=blk? v:=by
    rintro v (rfl | ⟨g,l,c,rfl⟩)<;>rfl
  obtain⟨v',w',h1,h2,h3,h4⟩:=run_append_own_string (P:=P) w B t u ty e i ht hu hi hz hsize hby v k xs hown s h63 hbytes hB
  rcases hown.2 with ⟨rfl,rfl⟩ | ⟨g,cap,cur,rfl,hbg,hg,hnc,hcm,hcs,htake⟩
  · rw[hob _ (.inl rfl)] at h3
    refine⟨v',w',h1,h2,h3,?_⟩
    obtain⟨v2,w2,q1,q2,q3,q4⟩:=run_append_own_string (P:=P) w w.heap.size t u ty e i ht hu hi hz hsize hby (.slice none 0 0) 0 xs ⟨hown.1,.inl ⟨rfl,rfl⟩⟩ s h63 hbytes (Nat.le_refl _)
    rw[h1] at q1
    cases q1
    rcases q2.2 with ⟨q,_⟩ | ⟨g,cap,cur,q,hg,_⟩
    · left; rw[q]
    · right; exact⟨g,by rw[q]; rfl,hg⟩
  · rw[hob _ (.inr ⟨_,_,_,rfl⟩)] at h3
    refine⟨v',w',h1,h2,h3,?_⟩
    by_cases hroom:k + s.size≤cap
    · have hcs':cur.size=cap:=by simpa using hcs
      have hr:=run_append_room_string (P:=P) w t u ty e i ht hu hi hsize g k cap cur hg s hroom (by omega)
      rw[h1] at hr
      cases hr
      left; rfl
    · have hxl:xs.length=k:=by simpa using hown.1
      have holds:∀ j u,xs[j]?=some u→w.cell? ((⟨g,0,none⟩:Addr).add j)=some u:=World.ownsRow.cells hown (g:=g) rfl
      have hr:=run_append_grow_string (P:=P) w t u ty e i (.int .u8 0) ht hu hi hz ⟨g,0,none⟩ k cap xs (by rw[hsize]; simpa using hxl) holds s (by omega) (by omega) (by rw[hby]; exact growslice_fits (by omega) (by omega))
      rw[h1] at hr
      cases hr
      right; exact⟨_,rfl,Nat.le_refl _⟩
theorem sem_append_str {t t' et:TypeId}{x y:Operand}{i:TypeInfo}{b:ByteArray}{len0:Nat}{f0:Nat→V}{old:Option (Nat×Blk)}(ho:o.op=.call ⟨.builtin .append,#[x,y],#[t,t']⟩) (hu:P.underlying t=some (.slice et)) (hu':P.underlying t'=some .string)
    (hi:P.info? et=some i) (hz:i.zero=some (.int .u8 0)) (hsize:i.size=1) (hby:i.bytes=1)
    (hx:(old=none∧ρ x=.nils∧len0=0)∨∃ id blk n1,old=some (id,blk)∧ρ x=.row id .sc len0∧m id=some blk∧blk.k=.row et∧blk.v=.arr n1 f0)
    (hy:ρ y=.str b) (hb:len0 + b.size≤134217728) (hne:∀ x,old=some x→x.1 < n) :
    OpSem P B o ρ m n ⟨.row n .sc (len0 + b.size),(old.map fun x=>(x.1,⟨.dead,x.2.sh,.unk⟩)).toList,[⟨.row et,.arr (len0 + b.size) .sc,.arr (len0 + b.size) (appF len0 f0 (byteAt b))⟩],[]⟩:=by
  intro C M ρc hs hrd hup hn hrel
  obtain⟨rx,ry⟩:=two_rel (ρ:=ρ) ho hrel
  rw[hy] at ry
  have hyv:ρc y=.string b:=ry
  have hn':¬ C.al n:=by simpa using hn 0 (by simp)
  have base:∃ xs,C.w.ownsRow B et 1 (ρc x) len0 xs∧R C (.arr len0 f0) (.cel (.arr len0 .sc) (fun i=>xs[i]?) 0)∧blk? (ρc x)=(old.bind fun x=>blkL? (C.sv x.1))∧∀ x,old=some x→M x.1=some x.2∧x.2.alive=true:=by
    rcases hx with ⟨rfl,hx,rfl⟩ | ⟨id,blk,n1,rfl,hx,hm,hk,hv⟩
    · rw[hx] at rx
      have rx':ρc x=.slice none 0 0:=rx
      rw[rx']
      exact⟨[],⟨by simp,.inl ⟨rfl,rfl⟩⟩,⟨.sc,rfl,fun i hi=>by omega⟩,rfl,fun x h=>by cases h⟩
    · rw[hx] at rx
      obtain⟨hal,⟨a1,c1,h1⟩,h2,h3⟩:=rx
      have h3':ρc x=C.sv id:=h3
      have hM:M id=some blk:=by
        have:=hup (id,⟨.dead,blk.sh,.unk⟩) (by simp)
        simp only at this
        rw[this]; exact hm
      have hbr:=hs.mem id blk hM
      unfold BR at hbr
      rw[hk] at hbr
      obtain⟨n2,s2,cells,q1,q2,q3,q4⟩:=hbr
      rw[q1,q2] at h2
      cases h2
      rw[h3']
      refine⟨cells,q3,?_,by rw[h1]; show blk? (Value.slice a1 len0 c1)=blkL? (C.sv id); rw[h1]; rfl,fun x hx=>by cases hx; exact⟨hM,by unfold Blk.alive; rw[hk]⟩⟩
      rw[hv,q2] at q4
      obtain⟨e',p1,p2⟩:=q4
      cases p1
      exact⟨_,rfl,p2⟩
  obtain⟨xs,hown,hR0,hbk,hold⟩:=base
  obtain⟨v',w',q1,q2,q3,q4⟩:=append_own_str (P:=P) (ty:=o.type) hu hu' hi hz hsize hby hown b hb hs.base
  rw[←hyv] at q1
  have hv':blkL? v'=blk? v':=by rcases q2.2 with ⟨h,_⟩ | ⟨g,cap,cur,h,_⟩<;>rw[h]<;>rfl
  rw[←hv'] at q4
  rw[hbk] at q3 q4
  have hrun:(execOp ρc o).run P C.w=.ok (.value v') w':=by simp [execOp,ho,resolve,invoke,builtin,q1]
  refine does_rerow (e:=.sc) hs hn' (fun x hx=>⟨(hold x hx).1,Blk.lv (hold x hx).2⟩) (fun x hx=>by have:=hne x hx; omega) hrun q2 q3 q4 fun C' hk=>R.keep hk _ _ (appF_R (k:=b.size) hR0 hown.1 (by rw[strCells_length]; simp [Shape.size]) fun j hj=>?_)
  have hj':(strCells b)[j]?=some (.int .u8 (b.data.toList.getD j 0).toNat):=by
    have hj2:j < b.data.toList.length:=hj
    unfold strCells
    rw[List.getElem?_map,List.getElem?_eq_getElem hj2,List.getD_eq_getElem?_getD,List.getElem?_eq_getElem hj2]
    rfl
  exact⟨rfl,by show (strCells b)[j * 1]?=_; rw[Nat.mul_one,hj']⟩
omit [Gl] in
theorem b_sdat {ats:Array TypeId}{ty:TypeId}{cs:_}{args:Array Value}:builtin .unsafeSliceData ats ty cs args=(do pure (.value (←Builtin.unsafeSliceData_ ats ty args))):=rfl
omit [Gl] in
theorem b_ustr {ats:Array TypeId}{ty:TypeId}{cs:_}{args:Array Value}:builtin .unsafeString ats ty cs args=(do pure (.value (←Builtin.unsafeString_ ats ty args))):=rfl
theorem sem_sdat {ts:Array TypeId}{x:Operand}{id len:Nat}{s:Shape}{blk:Blk}{et:TypeId}(ho:o.op=.call ⟨.builtin .unsafeSliceData,#[x],ts⟩) (hx:ρ x=.row id s len) (hl:0 < len) (hm:m id=some blk) (hk:blk.k=.row et) :
    OpSem P B o ρ m n ⟨.ptr id [.idx 0] s,[],[],[id]⟩ :=
  OpSem.pure fun C M ρc hs hrd hrel=>by
    have h0:=hrel x (by simp [ho,Op.operands,Call.operands])
    rw[hx] at h0
    obtain⟨hal,⟨a,c,h1⟩,h2,h3⟩:=h0
    have h3':ρc x=C.sv id:=h3
    have hM:M id=some blk:=by rw[hrd id (by simp)]; exact hm
    have hbr:=hs.mem id blk hM
    unfold BR at hbr
    rw[hk] at hbr
    obtain⟨n2,s2,cells,q1,q2,q3,q4⟩:=hbr
    rw[q1,q2] at h2
    cases h2
    rcases q3.2 with ⟨_,h7⟩ | ⟨g,cap,cur,hv',hg,hh,hnc,hml,hcs,htake⟩
    · omega
    refine⟨.pointer (some ⟨g,0,none⟩),?_,hal,g,0,by rw[hv']; rfl,?_,rfl⟩
    · have hr:=run_unsafeSliceData_row (P:=P) C.w ts o.type ⟨g,0,none⟩ len cap (by omega)
      simp [execOp,ho,resolve,invoke,h3',hv',b_sdat,hr]
    · rw[q1,q2]
      simp [Shape.path,Shape.step,hl]
theorem sem_sdat_nil {ts:Array TypeId}{x:Operand}(ho:o.op=.call ⟨.builtin .unsafeSliceData,#[x],ts⟩) (hx:ρ x=.nils):OpSem P B o ρ m n (pureE .nilp) :=
  OpSem.pure fun C M ρc hs hrd hrel=>by
    have h0:=hrel x (by simp [ho,Op.operands,Call.operands])
    rw[hx] at h0
    have h0':ρc x=.slice none 0 0:=h0
    refine⟨.pointer none,?_,rfl⟩
    have hr:=run_unsafeSliceData_nil (P:=P) C.w ts o.type 0 0
    simp [execOp,ho,resolve,invoke,h0',b_sdat,hr]
theorem sem_ustr_none {pt it:TypeId}{x y:Operand}(ho:o.op=.call ⟨.builtin .unsafeString,#[x,y],#[pt,it]⟩) (hx:ρ x=.nilp∨∃ id p s,ρ x=.ptr id p s) (hy:ρ y=.int .i64 0):OpSem P B o ρ m n (pureE (.str ⟨#[]⟩)) :=
  OpSem.pure fun C M ρc hs hrd hrel=>by
    obtain⟨rx,ry⟩:=two_rel (ρ:=ρ) ho hrel
    rw[hy] at ry
    have ry':ρc y=.int .i64 0:=ry
    refine⟨.string ⟨#[]⟩,?_,rfl⟩
    have:∃ p,ρc x=.pointer p:=by
      rcases hx with hx | ⟨id,p,s,hx⟩<;>rw[hx] at rx
      · exact⟨none,rx⟩
      · obtain⟨_,b,off,_,_,h⟩:=rx; exact⟨_,h⟩
    obtain⟨p,hp⟩:=this
    have hr:=run_unsafeString_none (P:=P) C.w pt it o.type p
    simp [execOp,ho,resolve,invoke,hp,ry',b_ustr,hr]
    rfl
omit [Gl] in
theorem freeze_heapN (w:World) (b k n:Nat) (j:Nat) (h:j≠b):(w.freeze ⟨b,k,none⟩ n).heap[j]?=w.heap[j]?:=by
  unfold World.freeze
  split
  · rfl
  · simp only[Array.getElem?_modify]
    rw[if_neg (by simpa using fun e=>h e.symm)]
omit [Gl] in
theorem freeze_size (w:World) (p:Addr) (n:Nat):(w.freeze p n).heap.size=w.heap.size:=by
  unfold World.freeze
  split
  · rfl
  · simp
theorem sem_ustr {pt it e:TypeId}{x y:Operand}{len n1 n2 id:Nat}{f:Nat→V}{blk:Blk}{s:Shape}{l:List UInt8}(ho:o.op=.call ⟨.builtin .unsafeString,#[x,y],#[pt,it]⟩) (hx:ρ x=.ptr id [.idx 0] s) (hy:ρ y=.int .i64 (.ofNat len))
    (hl:0 < len) (h63:len≤9223372036854775807) (hm:m id=some blk) (hk:blk.k=.row e) (hsh:blk.sh=.arr n2 .sc) (hv:blk.v=.arr n1 f) (hle:len≤n2) (hp:P.underlying pt=some (.pointer e)) (hc:P.cellsOf e=1)
    (hll:l.length=len) (hu8:∀ j,j < len→f j=.int .u8 ((l.getD j 0).toNat:Int)) :
    OpSem P B o ρ m n ⟨.str ⟨l.toArray⟩,[(id,⟨.dead,blk.sh,.unk⟩)],[],[]⟩:=by
  intro C M ρc hs _ hup hn hrel
  obtain⟨rx,ry⟩:=two_rel (ρ:=ρ) ho hrel
  rw[hx] at rx; rw[hy] at ry
  have ry':ρc y=.int .i64 (len:Int):=ry
  obtain⟨hal,b,off,h1,h2,h3⟩:=rx
  have h3':ρc x=.pointer (some ⟨b,off,none⟩):=h3
  have hM:M id=some blk:=by
    have:=hup (id,⟨.dead,blk.sh,.unk⟩) (by simp)
    simp only at this
    rw[this]; exact hm
  have ha:blk.live=true:=by unfold Blk.live; rw[hk]
  have hal':blk.alive=true:=by unfold Blk.alive; rw[hk]
  have hbr0:=hs.mem id blk hM
  have hbr:=hbr0
  unfold BR at hbr
  rw[hk] at hbr
  obtain⟨n3,s3,cells,q1,q2,q3,q4⟩:=hbr
  rw[hsh] at q1 q2
  cases q2
  rw[q1] at h2
  have hoff:off=0:=by
    have h2':Shape.path [.idx 0] (.arr n2 .sc)=some (0 * Shape.sc.size + 0,.sc):=by simp [Shape.path,Shape.step,show 0 < n2 by omega]
    rw[h2'] at h2
    simp at h2
    exact h2.1.symm
  subst hoff
  rcases q3.2 with ⟨_,h7⟩ | ⟨g,cap,cur,hv',hg,hh,hnc,hml,hcs,htake⟩
  · omega
  have hbg:b=g:=by rw[hv'] at h1; simpa [blk?] using h1.symm
  subst hbg
  have hb:blkL? (C.sv id)=some b:=by rw[hv']; rfl
  have hshp:C.w.shape? b=some (e,cur.size):=by unfold World.shape?; rw[hh]
  have hsc1:Shape.sc.size=1:=rfl
  have hcell:∀ j x,l[j]?=some x→C.w.cell? ((⟨b,0,none⟩:Addr).add j)=some (.int .u8 x.toNat):=by
    intro j x hj
    have hj':j < len:=by rw[←hll]; exact (List.getElem?_eq_some_iff.1 hj).1
    have hpa:Shape.path [.idx j] (C.shp id)=some (j * Shape.sc.size + 0,.sc):=by rw[q1]; simp [Shape.path,Shape.step,show j < n2 by omega]
    obtain⟨h10,_⟩:=BR.at hbr0 hal' (show blk? (C.sv id)=some b by rw[hv']; rfl) hpa
    rw[hv] at h10
    have h11:R C (f j) (.cel .sc (cg C.w b) (j * Shape.sc.size + 0)):=by simpa [V.path,V.step] using h10
    rw[hu8 j hj'] at h11
    obtain⟨_,h12⟩:=h11
    rw[hsc1,Nat.mul_one,Nat.add_zero] at h12
    rw[add_lit,Nat.zero_add]
    rw[List.getD_eq_getElem?_getD,hj,Option.getD_some] at h12
    exact h12
  have hsz:len≤cur.size:=by
    have:cur.size=cap:=by simpa [hsc1] using hcs
    omega
  have hrun:(execOp ρc o).run P C.w=.ok (.value (.string ⟨l.toArray⟩)) (C.w.freeze ⟨b,0,none⟩ l.length):=by
    have hr:=run_unsafeString_row (P:=P) C.w pt it o.type e hp hc b cur.size hshp l (by intro h; rw[h] at hll; simp at hll; omega) (by omega) (by omega) hcell
    rw[hll] at hr
    simp [execOp,ho,resolve,invoke,h3',ry',b_ustr,hr,hll]
  unfold Does
  rw[hrun]
  let C':Ctx:={ C with w:=C.w.freeze ⟨b,0,none⟩ l.length }
  have hne:∀ u b',C.ok u b'→b'≠b:=fun u b' hb' e=>hs.own id blk b hM ha hb u (e▸hb')
  have hkp:Kp B C C':=⟨⟨fun _ h=>h,fun _ _=>rfl,fun _ _=>rfl,fun _ _ h=>h,fun u b' hb'=>freeze_heapN _ _ _ _ _ (hne u b' hb')⟩,Go.Ab.below_freeze (Below.refl B C.w) hg _,fun u b' hb'=>.inl (.inl hb')⟩
  have hsr:SR B C' (upd M id (some ⟨.dead,blk.sh,.unk⟩)):=by
    refine hs.next hkp (fun i=>i=id) (fun i hi=>upd_other _ _ hi) ?_ ?_ ?_ ?_ ?_
    · intro i blk1 b1 hi hm1 ha1 hb1
      exact freeze_heapN _ _ _ _ _ (fun e=>hi (hs.sep i id blk1 blk b1 hm1 ha1 hM ha hb1 (e▸hb)))
    · intro i blk1 hi hm1
      subst hi
      simp only[upd_same,Option.some.injEq] at hm1
      subst hm1
      exact⟨hal,trivial⟩
    · intro u b' h
      have:=hs.okLt u b' h
      show b' < (C.w.freeze _ _).heap.size
      rw[freeze_size]; exact this
    · intro i i' blk1 blk2 b1 h1 h2 h3 h4 hi h5 h6
      subst hi
      simp only[upd_same,Option.some.injEq] at h1
      subst h1
      simp [Blk.live] at h2
    · intro i blk1 b1 k1 k2 k3 u hok
      by_cases hi:i=id
      · subst hi
        simp only[upd_same,Option.some.injEq] at k1
        subst k1
        simp [Blk.live] at k2
      · rw[upd_other _ _ hi] at k1
        exact hs.own i blk1 b1 k1 k2 k3 u hok
  exact⟨C',rfl,rfl,hkp,by rw[put_up]; exact hsr,fun id h=>.inl h⟩
theorem sem_toU {src dst t T:TypeId}{x:Operand}{id:Nat}{s:Shape}{blk:Blk}{j:TypeInfo}(ho:o.op=.convert src dst x) {p:List Step}{off0:Nat}{s':Shape}(hx:ρ x=.ptr id p s) (hm:m id=some blk) (hk:blk.k=.box T) (hpa:Shape.path p blk.sh=some (off0,s')) (hsz:off0 < blk.sh.size)
    (hs':P.underlying src=some (.pointer t)) (hd:P.underlying dst=some .unsafePointer) (ht:P.info? t=some j) (hj:j.size≠0):OpSem P B o ρ m n ⟨.ptr id p s,[],[],[id]⟩ :=
  OpSem.pure fun C M ρc hs hrd hrel=>by
    have h0:=hrel x (by simp [ho,Op.operands])
    rw[hx] at h0
    have h00:=h0
    obtain⟨hal,b,off,h1,h2,h3⟩:=h0
    have h3':ρc x=.pointer (some ⟨b,off,none⟩):=h3
    have hM:M id=some blk:=by rw[hrd id (by simp)]; exact hm
    have hbr:=hs.mem id blk hM
    unfold BR at hbr
    rw[hk] at hbr
    obtain⟨g,cur,e,q1,q2,q3,q4,q5,q6,rfl⟩:=hbr
    rw[q1] at h1
    simp only[blk?,Option.some.injEq] at h1
    subst h1
    rw[q4,hpa] at h2
    cases h2
    have hshp:C.w.shape? g=some (e,cur.size):=by unfold World.shape?; rw[q3]
    have hr:=run_to_unsafe (P:=P) C.w ⟨g,off0,none⟩ hs' hd ht hj hshp (by rw[q5]; exact hsz)
    exact⟨.pointer (some ⟨g,off0,none⟩),by simp [execOp,ho,h3',hr],by rw[←h3']; exact h00⟩
theorem sem_frU {src dst u T:TypeId}{x:Operand}{id:Nat}{s:Shape}{blk:Blk}{j:TypeInfo}(ho:o.op=.convert src dst x) {p:List Step}{off0:Nat}{s':Shape}(hx:ρ x=.ptr id p s) (hm:m id=some blk) (hk:blk.k=.box T) (hpa:Shape.path p blk.sh=some (off0,s'))
    (hs':P.underlying src=some .unsafePointer) (hd:P.underlying dst=some (.pointer u)) (hu:P.info? u=some j) (hlies:liesAt P P.depth T (blk.sh.size / P.cellsOf T) off0 u 1=true):OpSem P B o ρ m n ⟨.ptr id p s,[],[],[id]⟩ :=
  OpSem.pure fun C M ρc hs hrd hrel=>by
    have h0:=hrel x (by simp [ho,Op.operands])
    rw[hx] at h0
    have h00:=h0
    obtain⟨hal,b,off,h1,h2,h3⟩:=h0
    have h3':ρc x=.pointer (some ⟨b,off,none⟩):=h3
    have hM:M id=some blk:=by rw[hrd id (by simp)]; exact hm
    have hbr:=hs.mem id blk hM
    unfold BR at hbr
    rw[hk] at hbr
    obtain⟨g,cur,e,q1,q2,q3,q4,q5,q6,rfl⟩:=hbr
    rw[q1] at h1
    simp only[blk?,Option.some.injEq] at h1
    subst h1
    rw[q4,hpa] at h2
    cases h2
    have hshp:C.w.shape? g=some (e,cur.size):=by unfold World.shape?; rw[q3]
    have hr:=run_from_unsafe (P:=P) C.w ⟨g,off0,none⟩ hs' hd hu hshp (by rw[q5]; exact hlies)
    exact⟨.pointer (some ⟨g,off0,none⟩),by simp [execOp,ho,h3',hr],by rw[←h3']; exact h00⟩
omit [Gl] in
theorem equal_ptr_same {w:World}{tp te:TypeId}{j:TypeInfo}(a:Addr) (hp:P.underlying tp=some (.pointer te)) (hte:P.info? te=some j):(Op.equal tp (.pointer (some a)) (.pointer (some a))).run P w=.ok true w:=by
  have h:∀ d:Nat,(Op.equalIn (d + 1) tp (.pointer (some a)) (.pointer (some a))).run P w=.ok true w:=fun d=>by
    simp [Op.equalIn,run_underlying hp,sizeOf,typeInfo,hte,run_sameAddr_same]
  simp [Op.equal,Op.maxDepth,h 9999]
theorem sem_ptrEq {op:BinOp}{tp te t':TypeId}{x y:Operand}{id:Nat}{p:List Step}{s:Shape}{j:TypeInfo}(ho:o.op=.binOp op tp x y t') (hop:op=.eql∨op=.neq) (hx:ρ x=.ptr id p s) (hy:ρ y=.ptr id p s) (hp:P.underlying tp=some (.pointer te)) (hte:P.info? te=some j) :
    OpSem P B o ρ m n (pureE (.bool (match op with | .eql=>true | _=>false))) :=
  OpSem.pure fun C M ρc hs hrd hrel=>by
    have h0:=hrel x (by simp [ho,Op.operands])
    have h0':=hrel y (by simp [ho,Op.operands])
    rw[hx] at h0; rw[hy] at h0'
    obtain⟨hal,b,off,h1,h2,h3⟩:=h0
    obtain⟨_,b',off',h1',h2',h3'⟩:=h0'
    rw[h1] at h1'; cases h1'
    rw[h2] at h2'; cases h2'
    have h3:ρc x=.pointer (some ⟨b,off,none⟩):=h3
    have h3':ρc y=.pointer (some ⟨b,off,none⟩):=h3'
    have he:=equal_ptr_same (P:=P) (w:=C.w) ⟨b,off,none⟩ hp hte
    rcases hop with rfl | rfl
    · exact⟨.bool true,by simp [execOp,ho,h3,h3',eqGuard,binOp,he],rfl⟩
    · exact⟨.bool false,by simp [execOp,ho,h3,h3',eqGuard,binOp,he],rfl⟩
def NoEsc (P:Program) (f:FuncId):Prop:=∃ fn,P.funcs[f]?=some fn∧(fn.name == "runtime.NumGoroutine")=false∧fn.body.isNone=true∧Extern.findNext fn=none∧Extern.find fn=some Extern.AbiNoEscape.same
theorem sem_noEsc {f:Operand}{fid:FuncId}{x:Operand}{ts:Array TypeId}(ho:o.op=.call ⟨.value f,#[x],ts⟩) (hf:ρ f=.fn fid .nl) (hlt:fid < 1073741824) (hn:NoEsc P fid):OpSem P B o ρ m n (pureE (ρ x)) :=
  OpSem.pure fun C M ρc hs hrd hrel=>by
    have h0:=hrel f (by simp [ho,Op.operands,Call.operands])
    have h1:=hrel x (by simp [ho,Op.operands,Call.operands])
    rw[hf] at h0
    obtain⟨cs,h2,h3⟩:=R.fn0 hlt h0
    have hcs:cs=#[]:=by
      have:cs.toList=[]:=h3
      exact Array.toList_eq_nil_iff.1 this
    subst hcs
    obtain⟨fn,q1,q2,q3,q4,q5⟩:=hn
    have hr:=run_callFunc_extern (w:=C.w) (args:=#[ρc x]) q1 q2 q3 q4 q5
    refine⟨ρc x,?_,h1⟩
    simp [execOp,ho,resolve,Deferred.ofValue,invoke,h2,hr,run_noEscape]
end
end Go.Ab
