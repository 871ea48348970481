/- More single operations: what slices.Grow does: zeros appended to nil, a row that is cut to nothing. No condition. -/
import Derived.Test.YtfpmealbbibhpaaGreatDoorB20
import Derived.Test.YtfpmealbbibhpaaGreatDoorB16
import Derived.Lib.AppendZeros
set_option linter.unusedVariables false
set_option linter.unusedSimpArgs false
namespace Go.Ab
open Go.RowKit
variable [Gl]
section
variable {P:Program}{B:Nat}{o:Oper}{ρ:Operand→V}{m:Mem}{n:Nat}
omit [Gl] in
theorem zeroCells_get (z:Array Value) (n j q:Nat) (hj:j < n) (hq:q < z.size):(Builtin.zeroCells z n).toList[j * z.size + q]?=z[q]?:=by
  have h1:j * z.size + q < n * z.size:=by
    have:(j + 1) * z.size≤n * z.size:=Nat.mul_le_mul_right _ hj
    rw[Nat.add_mul] at this
    omega
  have h2:(j * z.size + q) % z.size=q:=by rw[Nat.mul_comm,Nat.mul_add_mod,Nat.mod_eq_of_lt hq]
  unfold Builtin.zeroCells
  rw[Array.getElem?_toList,Array.getElem?_map,Array.getElem?_range,if_pos h1]
  simp [h2,hq]
theorem sem_trunc {t el et:TypeId}{x:Operand}{lo hi':Option Operand}{id len:Nat}{e:Shape}{i:TypeInfo}{blk:Blk}{f:Nat→V}(ho:o.op=.slice t x lo hi' none) (hx:ρ x=.row id e len)
    (hm:m id=some blk) (hk:blk.k=.row et) (hid:id < n) (hu:P.underlying t=some (.slice el)) (hi:P.info? el=some i) (hz:i.size=e.size) (hb:Bds ρ lo hi' none len 0 0 none) :
    OpSem P B o ρ m n ⟨.row n e 0,[(id,⟨.dead,blk.sh,.unk⟩)],[⟨.row et,.arr 0 e,.arr 0 f⟩],[]⟩:=by
  intro C M ρc hs hrd hup hn hrel
  have h0:=hrel x (by simp [ho,Op.operands])
  rw[hx] at h0
  obtain⟨hal,⟨a,c,h1⟩,h2,h3⟩:=h0
  have h1':ρc x=.slice a len c:=by rw[←h1]; exact h3
  have hM:M id=some blk:=by
    have:=hup (id,⟨.dead,blk.sh,.unk⟩) (by simp)
    simp only at this
    rw[this]; exact hm
  have hbr:=hs.mem id blk hM
  unfold BR at hbr
  rw[hk] at hbr
  obtain⟨n2,s2,cells,q1,q2,q3,q4⟩:=hbr
  have hs2:n2=len∧s2=e:=by
    rw[q1,q2] at h2
    cases h2
    exact⟨rfl,rfl⟩
  obtain⟨e1,e2⟩:=hs2
  subst e1
  subst e2
  have hn':¬ C.al n:=by simpa using hn 0 (by simp)
  obtain⟨p1,p2,p3,p4,p5⟩:=hb.rel (M:=M) ho hrel
  rw[h1] at q3
  have hlc:n2≤c∧C.w.ownsRow B et s2.size (.slice a 0 c) 0 []∧blkL? (.slice a 0 c)=blkL? (.slice a n2 c):=by
    rcases q3.2 with ⟨g1,g2⟩ | ⟨g,cap,cur,g1,g2,g3,g4,g5,g6,g7⟩
    · cases g1
      exact⟨Nat.le_refl _,⟨by simp,.inl ⟨rfl,rfl⟩⟩,rfl⟩
    · cases g1
      exact⟨g4,⟨by simp,.inr ⟨g,c,cur,rfl,g2,g3,Nat.zero_le _,g5,g6,by simp⟩⟩,rfl⟩
  obtain⟨hlc,hown,hbk⟩:=hlc
  obtain⟨p5,p6⟩:=p5 c hlc
  have hrun:=run_slice_core (a:=a) (len:=n2) (c:=c) hu hi p1 p2 p3 p4 hb.l0 hb.lh p5 p6 C.w
  have hsl:sliced a (0:Int).toNat (0:Int).toNat ((none:Option Int).getD c).toNat i.size=.slice a 0 c:=by
    unfold sliced
    simp
    intro _
    cases a<;>simp [Addr.add]
  rw[hsl] at hrun
  exact does_rerow (old:=some (id,blk)) hs hn' (fun x hx=>by cases hx; exact⟨hM,Blk.lv (by unfold Blk.alive; rw[hk])⟩) (fun x hx=>by cases hx; exact Nat.ne_of_lt hid) (v':=.slice a 0 c) (w':=C.w)
    (by simp only[execOp,ho,h1']; simp only[Option.map_none] at hrun; simp only[Sem.run_bind,Option.map_none,hrun,Result.andThen_ok]; rfl) hown ⟨rfl,rfl,rfl,Nat.le_refl _,fun _ _ _=>rfl⟩
    (.inl (by show blkL? (Value.slice a 0 c)=blkL? (C.sv id); rw[h1]; exact hbk)) fun C' _=>⟨s2,rfl,fun i hi=>absurd hi (Nat.not_lt_zero i)⟩
omit [Gl] in
theorem append_run2 {C:Ctx}{x y:Operand}{t u:TypeId}{ρc:Operand→Value}{v:Value}{w':World}(ho:o.op=.call ⟨.builtin .append,#[x,y],#[t,u]⟩) (h:(Builtin.append_ #[t,u] o.type #[ρc x,ρc y]).run P C.w=.ok v w'):(execOp ρc o).run P C.w=.ok (.value v) w':=by
  simp [execOp,ho,resolve,invoke,builtin,h]
theorem sem_append_zeros {t u et:TypeId}{x y:Operand}{i:TypeInfo}{s:Shape}{z:V}{k:Nat}{kn kk:IntKind}(ho:o.op=.call ⟨.builtin .append,#[x,y],#[t,u]⟩) (hu:P.underlying t=some (.slice et)) (hu2:P.underlying u=some (.int kn)) (hz:zero? P et=some (s,z))
    (hi:P.info? et=some i) (hby:i.bytes≤1048576) (hpos:0 < s.size) (hx:ρ x=.nils) (hy:ρ y=.int kk (.ofNat k)) (hk:0 < k) (hb:k≤134217728) :
    OpSem P B o ρ m n ⟨.row n s k,[],[⟨.row et,.arr k s,.arr k fun _=>z⟩],[]⟩:=by
  intro C M ρc hs hrd hup hn hrel
  obtain⟨i',zv,hi',hzv,hsz,hcz,hzr⟩:=zero_of hz
  rw[hi] at hi'; cases hi'
  obtain⟨rx,ry⟩:=two_rel (ρ:=ρ) ho hrel
  rw[hx] at rx
  rw[hy] at ry
  have rx':ρc x=.slice none 0 0:=rx
  have ry':ρc y=.int kk (k:Int):=ry
  have hn':¬ C.al n:=by simpa using hn 0 (by simp)
  have hmb:k * i.bytes≤281474976710656:=by
    have:k * i.bytes≤134217728 * 1048576:=Nat.mul_le_mul hb hby
    omega
  have hr:=Go.Lib.run_append_nil_zeros (P:=P) C.w t u o.type et i zv kk kn hu hu2 hi hzv k hk (by omega) (by omega) hmb
  rw[←rx',←ry'] at hr
  have hge:=grownCap_ge C.w k 0 et
  have hown:(C.w.drew.alloc (.cells (Builtin.zeroCells zv.cells k++Builtin.zeroCells zv.cells (grownCap C.w k 0 et - k)) et)).ownsRow B et s.size (.slice (some ⟨C.w.heap.size,0,none⟩) k (grownCap C.w k 0 et)) k (Builtin.zeroCells zv.cells k).toList:=by
    refine⟨by rw[Array.length_toList,size_zeroCells,hcz],.inr ⟨C.w.heap.size,_,_,rfl,hs.base,heap_alloc_new C.w.drew _,by omega,grownCap_le_maxLen C.w k 0 et (by unfold maxLen; omega),?_,?_⟩⟩
    · rw[Array.size_append,size_zeroCells,size_zeroCells,hcz,←Nat.add_mul]
      congr 1; omega
    · rw[Array.toList_append,←hcz,←size_zeroCells,←Array.length_toList]
      exact List.take_left
  exact does_rerow (old:=none) hs hn' (fun x h=>by cases h) (fun x h=>by cases h) (append_run2 ho hr) hown ⟨rfl,rfl,rfl,by simp,fun k hk _=>Below.heap_alloc C.w.drew _ k hk⟩ (.inr ⟨_,rfl,Nat.le_refl _⟩) fun C' hk'=>⟨s,rfl,fun j hj=>by
    refine R.shift _ (hzr C') fun q hq=>?_
    rw[←hcz,Nat.zero_add,Nat.zero_add]
    exact zeroCells_get _ _ _ _ hj (by rw[hcz]; exact hq)⟩
omit [Gl] in
theorem clear_run {C:Ctx}{x:Operand}{t:TypeId}{ρc:Operand→Value}{w':World}(ho:o.op=.call ⟨.builtin .clear,#[x],#[t]⟩) (h:(Builtin.clear_ #[t] o.type #[ρc x]).run P C.w=.ok (.tuple #[]) w'):(execOp ρc o).run P C.w=.ok (.value (.tuple #[])) w':=by
  simp [execOp,ho,resolve,invoke,builtin,h]
theorem sem_clear0 {t:TypeId}{x:Operand}(ho:o.op=.call ⟨.builtin .clear,#[x],#[t]⟩) (hu:∃ et,P.underlying t=some (.slice et)) (hx:ρ x=.nils∨∃ id p e off cap,ρ x=.sl id p e off 0 cap):OpSem P B o ρ m n (pureE (.tup .nl)) :=
  OpSem.pure fun C M ρc hs hr hrel=>by
    have h0:=hrel x (by simp [ho,Op.operands,Call.operands])
    obtain⟨et,hu⟩:=hu
    have hv:∃ a c,ρc x=.slice a 0 c:=by
      rcases hx with hx | ⟨id,p,e,off,cap,hx⟩
      · rw[hx] at h0; exact⟨none,0,h0⟩
      · rw[hx] at h0
        obtain⟨_,ad,c2,_,_,h3,_⟩:=h0
        exact⟨ad,c2,h3⟩
    obtain⟨a,c,hv⟩:=hv
    refine⟨.tuple #[],clear_run ho ?_,⟨#[],rfl,rfl⟩⟩
    rw[hv]
    cases a<;>simp [Builtin.clear_,run_underlying hu]
theorem sem_clear {t et:TypeId}{x:Operand}{id off len N:Nat}{p:List Step}{cap:Option Nat}{e:Shape}{blk:Blk}{f0:Nat→V}{z:V}(ho:o.op=.call ⟨.builtin .clear,#[x],#[t]⟩) (hx:ρ x=.sl id p e off len cap)
    (hm:m id=some blk) (ha:blk.alive=true) (hv0:blk.v.path p=.arr N f0) (hu:P.underlying t=some (.slice et)) (hz:zero? P et=some (e,z)) (hl:0 < len) :
    OpSem P B o ρ m n ⟨.tup .nl,[(id,⟨blk.k,blk.sh,V.set p (.arr N (cpF off len f0 fun _=>z)) blk.v⟩)],[],[]⟩:=by
  intro C M ρc hs hrd hup _ hrel
  have rx:=hrel x (by simp [ho,Op.operands,Call.operands])
  obtain⟨i,zv,hi,hzv,hsz,hcz,hzr⟩:=zero_of hz
  rw[hx] at rx
  obtain⟨hal,ad,c2,o1,n2,h3,h4,h5,h2,h8,h6⟩:=rx
  have h3':ρc x=.slice ad len c2:=h3
  have hM:M id=some blk:=by
    have:=hup (id,⟨blk.k,blk.sh,V.set p (.arr N (cpF off len f0 fun _=>z)) blk.v⟩) (by simp)
    simp only at this
    rw[this]; exact hm
  rw[put_up]
  have hshp:C.shp id=blk.sh∧∃ g,R C blk.v (.cel blk.sh g 0):=by
    have hb:=hs.mem id blk hM
    unfold BR at hb; unfold Blk.alive at ha
    cases hkd:blk.k<;>simp only[hkd] at hb ha
    · obtain⟨g,cur,e',_,_,_,h4,_,h6,_⟩:=hb; exact⟨h4,_,h6⟩
    · obtain⟨n1,s1,cells,h1,_,_,h4⟩:=hb; exact⟨h1,_,h4⟩
    · simp at ha
    · simp at ha
    · simp at ha
  have hN:n2=N:=by
    obtain⟨h9,g,h10⟩:=hshp
    rw[h9] at h2
    have h11:=R.path p h10 h2
    rw[hv0] at h11
    obtain⟨e',q1,_⟩:=h11
    cases q1; rfl
  subst hN
  rcases h6 with h6 | ⟨b,h1,h6⟩
  · omega
  subst h6
  have hnl:(Builtin.zeroCells zv.cells len).toList.length=len * e.size:=by rw[Array.length_toList,size_zeroCells,hcz]
  have hone:∀ u∈(Builtin.zeroCells zv.cells len).toList,u.oneCell'=true:=by
    have hRj:∀ j,j < len→R C z (.cel e (fun i=>(Builtin.zeroCells zv.cells len).toList[i]?) (0 + j * e.size)):=fun j hj=>by
      refine R.shift _ (hzr C) fun q hq=>?_
      rw[←hcz,Nat.zero_add,Nat.zero_add]
      exact zeroCells_get _ _ _ _ hj (by rw[hcz]; exact hq)
    obtain⟨cs,c1,c2,c3⟩:=cells_list (f:=fun _=>z) len hRj
    have:(Builtin.zeroCells zv.cells len).toList=cs:=by
      apply List.ext_getElem?
      intro j
      rcases Nat.lt_or_ge j (len * e.size) with hj | hj
      · rw[c2 j hj,Nat.zero_add]
      · rw[List.getElem?_eq_none (by rw[hnl]; exact hj),List.getElem?_eq_none (by rw[c1]; exact hj)]
    rw[this]
    exact c3
  refine does_over hs hM ha h1 h2 hv0 h8 hnl hone (fun j hj=>?_) (v:=.tuple #[]) (fun _ _=>⟨#[],rfl,rfl⟩) fun w' hw=>clear_run ho ?_
  · refine R.shift _ (hzr C) fun q hq=>?_
    rw[←hcz,Nat.zero_add]
    exact zeroCells_get _ _ _ _ hj (by rw[hcz]; exact hq)
  · rw[h3']
    have hlen:len≠0:=by omega
    obtain⟨k,rfl⟩:∃ k,len=k + 1:=⟨len - 1,by omega⟩
    simp [Builtin.clear_,run_underlying hu,zeroValue,typeInfo,hi,hzv,hw]
end
end Go.Ab
