/- Maps of a function's own: new ones, what is found in them, what is put there. -/
import Derived.Test.YtfpmealbbibhpaaGreatDoorB8
import Derived.MapKept
import Derived.Maps.Keyed
set_option linter.unusedVariables false
set_option linter.unusedSimpArgs false
namespace Go.Ab
open Go.RowKit
variable [Gl]
variable {P:Program}{B:Nat}{o:Oper}{ρ:Operand→V}{m:Mem}{n:Nat}
omit [Gl] in
theorem run_check (C:Ctx) (w:World) (em:Bool):∀(d D:Nat) (t:TypeId) (v:V) (x:Value),d≤D→lay P d t=true→eqT P d t v v=true→v.fits (shp P d t)=true→R C v (.val x)→(Instr.checkKey em D t x).run P w=.ok () w:=by
  intro d
  induction d with
  | zero=>intro D t v x _ h; simp [lay] at h
  | succ d ih =>
    intro D t v x hD hl he hf hx
    obtain⟨D,rfl⟩:∃ D',D=D' + 1:=⟨D - 1,by omega⟩
    unfold eqT at he
    cases hu:P.underlying t with
    | none=>rw[hu] at he; simp at he
    | some desc =>
      rw[hu] at he
      rw[Instr.checkKey]
      simp only[Sem.run_bind,run_underlying hu,Result.andThen_ok]
      cases desc<;>simp only at he<;>first
        | (cases he; done)
        | skip
      case bool=>simp
      case int k0=>simp
      case string=>simp
      case array k e =>
        cases v<;>first
          | (cases he; done)
          | skip
        · rename_i a f
          simp only[Bool.and_eq_true,beq_iff_eq] at he
          obtain⟨⟨rfl,hab⟩,he⟩:=he
          have hsh:shp P (d + 1) t=.arr k (shp P d e):=by simp only[shp,hu]
          rw[hsh] at hf
          obtain⟨s1,cs,rfl,hz1,_,h1⟩:=R.agg_at hx rfl
          have h1':=R.fits _ h1 hf
          obtain⟨e1,q1,h1'⟩:=h1'
          simp only[Shape.arr.injEq,true_and] at q1
          subst q1
          simp only[V.fits,beq_self_eq_true,Bool.true_and,List.all_eq_true,List.mem_range] at hf
          simp only[List.all_eq_true,List.mem_range] at he
          unfold lay at hl
          rw[hu] at hl
          simp only[Bool.and_eq_true] at hl
          obtain⟨hl1,hl2⟩:=hl
          obtain⟨ed,hed⟩:=lay_underlying hl2
          cases hie:P.info? e with
          | none=>rw[hie] at hl1; simp at hl1
          | some ie =>
            rw[hie] at hl1
            have hsz:ie.size=(shp P d e).size:=by simpa using hl1
            have hd:(shp P d e).isSc = !agg? P e:=by
              cases d with
              | zero=>simp [lay] at hl2
              | succ d=>exact shp_agg
            simp only[Std.Legacy.Range.forIn_eq_forIn_range',Std.Legacy.Range.size,Nat.sub_zero,Nat.add_one_sub_one,Nat.div_one]
            have hall:∀ i∈List.range' 0 k,i < k:=fun i hi=>by simpa using hi
            generalize List.range' 0 k=is at hall
            induction is with
            | nil=>simp
            | cons j is ih2 =>
              have hj:=hall j (by simp)
              obtain⟨a,p1,r1⟩:=run_part hie hsz hd hed (by simpa using h1' j hj) w
              have p2:=ih D e (f j) a (by omega) hl2 (he j hj) (hf j hj) r1
              have hc:P.cellsOf e=(shp P d e).size:=by simp [Program.cellsOf,hie,hsz]
              have p3:=ih2 (fun y hy=>hall y (by simp [hy]))
              simp only[Sem.run_bind] at p3
              simp only[List.forIn_cons,Sem.run_bind,run_sizeOf w hie,hc,Result.andThen_ok,p1,p2,Sem.run_pure]
              exact p3
      case struct fs =>
        simp only[Bool.and_eq_true,Bool.not_eq_true'] at he
        obtain⟨hst,he⟩:=he
        have hsh:shp P (d + 1) t=fs.toList.foldr (fun f acc=>.cons (shp P d f.type) acc) .nl:=by simp only[shp,hu]
        rw[hsh] at hf
        unfold lay at hl
        rw[hu] at hl
        simp only at hl
        have hag:v.isAgg=true:=by
          cases hfs:fs.toList<;>rw[hfs] at he<;>cases v<;>first
            | rfl
            | (simp [eqFs] at he; done)
        obtain⟨s1,cs,rfl,hz1,_,h1⟩:=R.agg_at hx hag
        have h1':=R.fits _ h1 hf
        simp only[]
        rw[←Array.forIn_toList]
        clear hx hsh h1 hag
        generalize 0=off at hl h1'
        generalize fs.toList=L at hl he hf h1'
        induction L generalizing v off with
        | nil=>simp
        | cons f L ih2 =>
          cases v<;>first
            | (simp [eqFs] at he; done)
            | skip
          rename_i h t'
          simp only[eqFs,Bool.and_eq_true] at he
          obtain⟨⟨hn,he1⟩,he2⟩:=he
          simp only[layFs,Bool.and_eq_true,beq_iff_eq] at hl
          obtain⟨⟨⟨ho,hi⟩,hl1⟩,hl2⟩:=hl
          simp only[List.foldr_cons,V.fits,Bool.and_eq_true] at hf
          simp only[List.foldr_cons] at h1'
          obtain⟨a,b,q1,x1,x2⟩:=h1'
          simp only[Shape.cons.injEq] at q1
          obtain⟨rfl,rfl⟩:=q1
          obtain⟨de,hde⟩:=lay_underlying hl1
          cases hie:P.info? f.type with
          | none=>rw[hie] at hi; simp at hi
          | some ie =>
            rw[hie] at hi
            have hsz:ie.size=(shp P d f.type).size:=by simpa using hi
            have hsc:(shp P d f.type).isSc = !agg? P f.type:=by
              cases d with
              | zero=>simp [lay] at hl1
              | succ d=>exact shp_agg
            obtain⟨x,p1,r1⟩:=run_part hie hsz hsc hde x1 w
            have p2:=ih D f.type h x (by omega) hl1 he1 hf.1 r1
            have hn':f.name ≠ "_" := by simpa using hn
            simp only[List.forIn_cons,Sem.run_bind,hn',ne_eq,not_false_eq_true,if_true,ho,Result.andThen_ok,p1,p2,Sem.run_pure]
            have p3:=ih2 t' _ hl2 he2 hf.2 x2
            simp only[Sem.run_bind,ne_eq] at p3
            exact p3
def findV (k:V):V→Nat→Option (Nat×V)
  | .cons k' (.cons v r),i=>if eqV k k' then some (i,v) else findV k r (i + 1)
  | _,_=>none
def keysV (P:Program) (kt:TypeId) (k:V):V→Bool
  | .cons k' (.cons _ r)=>eqT P 12 kt k k'&&k'.fits (shp P 12 kt)&&keysV P kt k r
  | .nl=>true
  | _=>false
def FS (C:Ctx) (es:List MapEntry) (i0:Nat):Option (Nat×V)→Option (Nat×Value)→Prop
  | some (i,v),some (j,x)=>i=j∧R C v (.val x)∧∃ e,i0≤i∧es[i - i0]?=some e∧e.val=x
  | none,none=>True
  | _,_=>False
omit [Gl] in
theorem list_cons {C:Ctx}{a b:V}{e:MapEntry}{es:List MapEntry}{k v r:V}(h:R C (.cons k (.cons v r)) (.list (ents (e::es)))):R C k (.val e.key)∧R C v (.val e.val)∧R C r (.list (ents es)):=by
  obtain⟨x,xs,h1,h2,y,ys,h3,h4,h5⟩:=h
  simp only[ents,List.cons.injEq] at h1
  obtain⟨rfl,rfl⟩:=h1
  simp only[List.cons.injEq] at h3
  obtain⟨rfl,rfl⟩:=h3
  exact⟨h2,h4,h5⟩
omit [Gl] in
theorem FS.up {C:Ctx}{es:List MapEntry}{e:MapEntry}{i:Nat}{a:Option (Nat×V)}{b:Option (Nat×Value)}(h:FS C es (i + 1) a b):FS C (e::es) i a b:=by
  rcases a with _ | ⟨p,v⟩<;>rcases b with _ | ⟨q,x⟩<;>simp only[FS] at h ⊢
  obtain⟨h1,h2,e',h3,h4,h5⟩:=h
  refine⟨h1,h2,e',by omega,?_,h5⟩
  rw[show p - i=(p - (i + 1)) + 1 by omega]
  simpa using h4
omit [Gl] in
theorem run_ask (C:Ctx) (w:World) {kt:TypeId}{k:V}{x:Value}(hl:lay P 12 kt=true) (hf:k.fits (shp P 12 kt)=true) (hx:R C k (.val x)) :
    ∀(es:List MapEntry) (l:V) (i:Nat),keysV P kt k l=true→R C l (.list (ents es))→∃ r,(Instr.findAsking kt x es i).run P w=.ok r w∧FS C es i (findV k l i) r
  | [],l,i,hk,hr=>by
    refine⟨none,by simp [Instr.findAsking],?_⟩
    cases l<;>first
      | (simp only[keysV,Bool.false_eq_true] at hk; done)
      | skip
    · simp [findV,FS]
    · obtain⟨x,xs,h1,_⟩:=hr
      simp [ents] at h1
  | e::es,l,i,hk,hr=>by
    cases l with
    | nl=>simp [R,RR,ents] at hr
    | cons k' l =>
      cases l with
      | cons v r =>
        simp only[keysV,Bool.and_eq_true] at hk
        obtain⟨⟨h1,h2⟩,h3⟩:=hk
        obtain⟨r1,r2,r3⟩:=list_cons (a:=.nl) (b:=.nl) hr
        have p:=run_eqIn (P:=P) C w 12 10000 kt k k' x e.key (by omega) hl h1 hf h2 hx r1
        have p':(Op.equal kt x e.key).run P w=.ok (eqV k k') w:=p
        simp only[Instr.findAsking,Sem.run_bind,p',Result.andThen_ok,findV]
        cases hq:eqV k k' with
        | true=>exact⟨some (i,e.val),by simp,rfl,r2,e,Nat.le_refl _,by simp,rfl⟩
        | false =>
          obtain⟨q,q1,q2⟩:=run_ask C w hl hf hx es r (i + 1) h3 r3
          exact⟨q,by simpa using q1,q2.up⟩
      | _=>simp only[keysV,Bool.false_eq_true] at hk
    | _=>simp only[keysV,Bool.false_eq_true] at hk
omit [Gl] in
theorem now_spec (C:Ctx) {kt:TypeId}{kd:TypeDesc}{k:V}{x:Value}(hu:P.underlying kt=some kd) (hx:R C k (.val x)) :
    ∀(es:List MapEntry) (l:V) (i:Nat) (r:Option (Nat×Value)),keysV P kt k l=true→R C l (.list (ents es))→Instr.findNow kd x es i=some r→FS C es i (findV k l i) r
  | [],l,i,r,hk,hr,h=>by
    simp only[Instr.findNow,Option.some.injEq] at h
    subst h
    cases l<;>first
      | (simp only[keysV,Bool.false_eq_true] at hk; done)
      | skip
    · simp [findV,FS]
    · obtain⟨x,xs,h1,_⟩:=hr
      simp [ents] at h1
  | e::es,l,i,r,hk,hr,h=>by
    cases l with
    | nl=>simp [R,RR,ents] at hr
    | cons k' l =>
      cases l with
      | cons v rs =>
        simp only[keysV,Bool.and_eq_true] at hk
        obtain⟨⟨h1,h2⟩,h3⟩:=hk
        obtain⟨r1,r2,r3⟩:=list_cons (a:=.nl) (b:=.nl) hr
        have key:∀ b,Instr.sameNow kd x e.key=some b→b=eqV k k':=by
          intro b hb
          unfold eqT at h1
          rw[hu] at h1
          cases kd<;>simp only[Instr.sameNow] at hb h1<;>first
            | (cases hb; done)
            | skip
          case bool =>
            split at h1
            · rename_i a b'
              obtain rfl:x=.bool a:=hx
              have hke:e.key=.bool b':=r1
              rw[hke] at hb
              simpa [eqV] using hb.symm
            · cases h1
          case int k0 =>
            split at h1
            · rename_i q a q' b'
              obtain rfl:x=.int q a:=hx
              have hke:e.key=.int q' b':=r1
              rw[hke] at hb
              simp only at hb
              split at hb
              · simpa [eqV] using hb.symm
              · cases hb
            · cases h1
          case string =>
            split at h1
            · rename_i a b'
              obtain rfl:x=.string a:=hx
              have hke:e.key=.string b':=r1
              rw[hke] at hb
              simp only[Option.some.injEq] at hb
              rw[←hb,eqV,beq_toListBytes]
            · cases h1
        simp only[Instr.findNow] at h
        cases hs:Instr.sameNow kd x e.key with
        | none=>rw[hs] at h; cases h
        | some b =>
          rw[hs] at h
          have hb:=key b hs
          simp only[findV]
          cases b with
          | true =>
            simp only[Option.some.injEq] at h
            subst h
            rw[←hb]
            exact⟨rfl,r2,e,Nat.le_refl _,by simp,rfl⟩
          | false =>
            simp only at h
            rw[←hb]
            exact (now_spec C hu hx es rs (i + 1) r h3 r3 h).up
      | _=>simp only[keysV,Bool.false_eq_true] at hk
    | _=>simp only[keysV,Bool.false_eq_true] at hk
omit [Gl] in
theorem run_find (C:Ctx) (w:World) {kt:TypeId}{k:V}{x:Value}{es:List MapEntry}{l:V}(hl:lay P 12 kt=true) (hf:k.fits (shp P 12 kt)=true) (hx:R C k (.val x)) (hk:keysV P kt k l=true) (hr:R C l (.list (ents es))) :
    ∃ r,(Instr.findKey kt x es).run P w=.ok r w∧FS C es 0 (findV k l 0) r:=by
  obtain⟨kd,hu⟩:=lay_underlying hl
  simp only[Instr.findKey,Sem.run_bind,run_underlying hu,Result.andThen_ok]
  cases hn:Instr.findNow kd x es 0 with
  | some r=>exact⟨r,by simp,now_spec C hu hx es l 0 r hk hr hn⟩
  | none=>exact run_ask C w hl hf hx es l 0 hk hr
def zfit (z:Value) (s:Shape):Bool:=match z with | .agg _=>!s.isSc | _=>s.isSc
def zeroV? (P:Program) (t:TypeId):Option V :=
  match zero? P t,P.info? t with
  | some (s,v),some i=>match i.zero with
    | some z=>if zfit z s=true then some v else none
    | none=>none
  | _,_=>none
omit [Gl] in
theorem zeroV?_spec {t:TypeId}{v:V}(h:zeroV? P t=some v):∃ z,(∀ w,(zeroValue t).run P w=.ok z w)∧∀ C,R C v (.val z):=by
  unfold zeroV? at h
  split at h
  · rename_i s v' i h1 h2
    obtain⟨_,z,h3,h4,h5⟩:=zero?_spec h1
    split at h
    · rename_i z' hz
      have hzz:z'=z:=by
        have:=h3 default
        simpa [zeroValue,typeInfo,h2,hz] using this
      subst hzz
      by_cases hc:zfit z' s=true
      · rw[if_pos hc] at h
        obtain rfl:=Option.some.inj h
        refine⟨z',h3,fun C=>?_⟩
        have h6:=h5 C
        cases z' with
        | agg cs=>exact R.agg_val (s:=s) h6 (by rintro rfl; simp [zfit,Shape.isSc] at hc) (by simpa [Value.cells] using h4)
        | _ =>
          cases s<;>simp [zfit,Shape.isSc] at hc
          exact R.sc_val h6 (by simp [Value.cells])
      · rw[if_neg hc] at h; cases h
    · cases h
  · cases h
def lookV (ok:Bool) (z:V):Option (Nat×V)→V
  | some (_,v)=>if ok then .tup (.cons v (.cons (.bool true) .nl)) else v
  | none=>if ok then .tup (.cons z (.cons (.bool false) .nl)) else z
omit [Gl] in
theorem BR.map {C:Ctx}{id:Nat}{blk:Blk}(h:BR B C id blk) (hk:blk.k=.mp):∃ g es clk,C.sv id=.map (some g)∧B≤g∧C.w.heap[g]?=some (.map es clk)∧R C blk.v (.list (ents es.toList)):=by
  unfold BR at h; simpa only [hk] using h
theorem sem_lookup {t kt et:TypeId}{x k:Operand}{ok:Bool}{id:Nat}{blk:Blk}{z:V}(ho:o.op=.lookup t x k ok) (hx:ρ x=.yld id) (hm:m id=some blk) (hk:blk.k=.mp) (hu:P.underlying t=some (.map kt et))
    (hl:lay P 12 kt=true) (he:eqT P 12 kt (ρ k) (ρ k)=true) (hf:(ρ k).fits (shp P 12 kt)=true) (hks:keysV P kt (ρ k) blk.v=true) (hz:zeroV? P et=some z) :
    OpSem P B o ρ m n ⟨lookV ok z (findV (ρ k) blk.v 0),[],[],[id]⟩ :=
  OpSem.pure fun C M ρc hs hr hrel=>by
    have h0:=hrel x (by simp [ho,Op.operands])
    have h1:=hrel k (by simp [ho,Op.operands])
    rw[hx] at h0
    obtain⟨hal,_,h0⟩:=h0
    have h0':ρc x=C.sv id:=h0
    have hM:M id=some blk:=by rw[hr id (by simp),hm]
    obtain⟨g,es,clk,hsv,hg,hh,hR⟩:=(hs.mem id blk hM).map hk
    rw[hsv] at h0'
    obtain⟨zv,hz1,hz2⟩:=zeroV?_spec hz
    obtain⟨r,hr1,hr2⟩:=run_find (P:=P) C C.w hl hf h1 hks hR
    have hc:=run_check (P:=P) C C.w es.isEmpty 12 10000 kt _ _ (by omega) hl he hf h1
    rcases hfv:findV (ρ k) blk.v 0 with _ | ⟨i,v⟩<;>rw[hfv] at hr2<;>rcases r with _ | ⟨j,xv⟩<;>simp only[FS] at hr2
    · refine⟨if ok then .tuple #[zv,.bool false] else zv,by simp [execOp,ho,h0',Instr.lookup,run_underlying hu,MapKept.run_getObj_map hh,hc,hr1,hz1,Result.andThen],?_⟩
      cases ok
      · exact hz2 C
      · exact⟨_,rfl,_,_,rfl,hz2 C,_,_,rfl,rfl,rfl⟩
    · obtain⟨_,h3,_⟩:=hr2
      refine⟨if ok then .tuple #[xv,.bool true] else xv,by simp [execOp,ho,h0',Instr.lookup,run_underlying hu,MapKept.run_getObj_map hh,hc,hr1,Result.andThen],?_⟩
      cases ok
      · exact h3
      · exact⟨_,rfl,_,_,rfl,h3,_,_,rfl,rfl,rfl⟩
theorem SR.allocO {C:Ctx}{m:Mem}(h:SR B C m) {n:Nat}(hn:¬ C.al n) (ob:Obj) (blk:Blk) (sv:Value) (hsv:blkL? sv=some C.w.heap.size)
    (hbr:∀ C':Ctx,Keep C C'→C'.sv n=sv→C'.shp n=blk.sh→C'.w=C.w.alloc ob→BR B C' n blk) :
    let C':Ctx:={ C with al:=fun i=>C.al i∨i=n,sv:=upd C.sv n sv,shp:=upd C.shp n blk.sh,w:=C.w.alloc ob }
    SR B C' (upd m n (some blk))∧Kp B C C':=by
  intro C'
  have hne:∀ id,C.al id→id≠n:=fun id hid e=>hn (e▸hid)
  have hk:Kp B C C':=⟨⟨fun _ h=>.inl h,fun id hid=>upd_other _ _ (hne id hid),fun id hid=>upd_other _ _ (hne id hid),fun _ _ h=>h,fun u b hb'=>Below.heap_alloc C.w _ b (h.okLt u b hb')⟩,
    (Below.refl B C.w).alloc h.base _,fun _ _ h=>.inl (.inl h)⟩
  refine⟨h.next hk (fun id=>id=n) (fun id hid=>upd_other _ _ hid) (fun id blk b _ hm ha hbb=>Below.heap_alloc C.w _ b (h.lt hm ha hbb).2) ?_ ?_ ?_ ?_,hk⟩
  · intro id blk' hid hm
    subst hid
    simp only[upd_same,Option.some.injEq] at hm
    subst hm
    exact⟨.inr rfl,hbr C' hk.toKeep (by simp [C']) (by simp [C']) rfl⟩
  · intro u b hb'
    have:=h.okLt u b hb'
    show b < (C.w.alloc _).heap.size
    simp; omega
  · intro id id' blk1 blk2 b h1 h2 h3 h4 hid h5 h6
    subst hid
    simp only[C',upd_same] at h5
    rw[hsv] at h5
    simp only[Option.some.injEq] at h5
    subst h5
    by_cases hid':id'=id
    · exact hid'.symm
    · exfalso
      rw[upd_other _ _ hid'] at h3
      simp only[C',upd_other _ _ hid'] at h6
      have:=(h.lt h3 h4 h6).2
      omega
  · intro id blk1 b h1 h2 h3 u hok
    by_cases hid:id=n
    · subst hid
      simp only[C',upd_same] at h3
      rw[hsv] at h3
      simp only[Option.some.injEq] at h3
      subst h3
      have:=h.okLt _ _ hok
      omega
    · rw[upd_other _ _ hid] at h1
      simp only[C',upd_other _ _ hid] at h3
      exact h.own id blk1 b h1 h2 h3 u hok
theorem sem_makeMap {t:TypeId}(ho:o.op=.makeMap t none):OpSem P B o ρ m n ⟨.yld n,[],[⟨.mp,.nl,.nl⟩],[]⟩:=by
  intro C M ρc hs _ _ hn _
  have hn0:¬ C.al n:=by simpa using hn 0 (by simp)
  obtain⟨h1,h2⟩:=hs.allocO hn0 (.map #[] 0) ⟨.mp,.nl,.nl⟩ (.map (some C.w.heap.size)) rfl (by
    intro C' hk h3 h4 h5
    refine⟨C.w.heap.size,#[],0,h3,hs.base,by rw[h5]; exact heap_alloc_new C.w _,?_⟩
    simp [R,RR,ents])
  unfold Does
  have hrun:(execOp ρc o).run P C.w=.ok (.value (.map (some C.w.heap.size))) (C.w.alloc (.map #[] 0)):=by
    simp [execOp,ho,Instr.makeMap]
  rw[hrun,put_new]
  refine⟨_,rfl,⟨Or.inr rfl,?_,?_⟩,h2,h1,fun id h=>?_⟩
  · exact .inr ⟨C.w.heap.size,by simp⟩
  · show _=upd _ _ _ _
    simp
  · rcases h with h | h
    · exact .inl h
    · exact .inr ⟨by omega,by simp; omega⟩
def sameV:V→V→Bool
  | .int k a,.int k' b=>k==k'&&a==b
  | .bool a,.bool b=>a==b
  | .str a,.str b=>a.toList==b.toList
  | .nl,.nl=>true
  | .cons h t,.cons h' t'=>sameV h h'&&sameV t t'
  | .arr n f,.arr k g=>n==k&&(List.range n).all fun i=>sameV (f i) (g i)
  | _,_=>false
omit [Gl] in
theorem same_cells {C:Ctx}:∀(v v':V) {s:Shape}{g g':Nat→Option Value}{a a':Nat},sameV v v'=true→R C v (.cel s g a)→R C v' (.cel s g' a') →
    ∀ j,j < s.size→∃ x y,g (a + j)=some x∧g' (a' + j)=some y∧∀ n,Instr.sameBits n x y=true:=by
  intro v
  induction v with
  | int k z =>
    intro v' s g g' a a' h h1 h2 j hj
    cases v'<;>simp [sameV] at h
    obtain⟨rfl,rfl⟩:=h
    obtain⟨rfl,h1⟩:=h1
    obtain⟨_,h2⟩:=h2
    simp only[Shape.size] at hj
    obtain rfl:j=0:=by omega
    exact⟨_,_,h1,h2,fun n=>by cases n<;>simp [Instr.sameBits]⟩
  | bool z =>
    intro v' s g g' a a' h h1 h2 j hj
    cases v'<;>simp [sameV] at h
    obtain rfl:=h
    obtain⟨rfl,h1⟩:=h1
    obtain⟨_,h2⟩:=h2
    simp only[Shape.size] at hj
    obtain rfl:j=0:=by omega
    exact⟨_,_,h1,h2,fun n=>by cases n<;>simp [Instr.sameBits]⟩
  | str z =>
    intro v' s g g' a a' h h1 h2 j hj
    cases v'<;>simp only[sameV,Bool.false_eq_true] at h
    obtain⟨rfl,h1⟩:=h1
    obtain⟨_,h2⟩:=h2
    simp only[Shape.size] at hj
    obtain rfl:j=0:=by omega
    exact⟨_,_,h1,h2,fun n=>by cases n<;>simp only[Instr.sameBits,beq_toListBytes,h]⟩
  | nl =>
    intro v' s g g' a a' h h1 h2 j hj
    obtain rfl:s=.nl:=h1
    simp [Shape.size] at hj
  | cons x t ih1 ih2 =>
    intro v' s g g' a a' h h1 h2 j hj
    cases v'<;>simp only[sameV,Bool.false_eq_true,Bool.and_eq_true] at h
    obtain⟨p,q,rfl,h3,h4⟩:=h1
    obtain⟨p',q',e,h5,h6⟩:=h2
    simp only[Shape.cons.injEq] at e
    obtain⟨rfl,rfl⟩:=e
    simp only[Shape.size] at hj
    by_cases hlt:j < p.size
    · exact ih1 _ h.1 h3 h5 j hlt
    · obtain⟨x,y,e1,e2,e3⟩:=ih2 _ h.2 h4 h6 (j - p.size) (by omega)
      rw[show a + p.size + (j - p.size)=a + j by omega] at e1
      rw[show a' + p.size + (j - p.size)=a' + j by omega] at e2
      exact⟨x,y,e1,e2,e3⟩
  | arr n f ih =>
    intro v' s g g' a a' h h1 h2 j hj
    cases v'<;>simp only[sameV,Bool.false_eq_true,Bool.and_eq_true,beq_iff_eq,List.all_eq_true,List.mem_range] at h
    obtain⟨rfl,h⟩:=h
    obtain⟨e,rfl,h3⟩:=h1
    obtain⟨e',q,h4⟩:=h2
    simp only[Shape.arr.injEq,true_and] at q
    subst q
    simp only[Shape.size] at hj
    have hz:0 < e.size:=by
      rcases Nat.eq_zero_or_pos e.size with h0 | h0
      · rw[h0] at hj; simp at hj
      · exact h0
    have hi:j / e.size < n:=by
      rw[Nat.div_lt_iff_lt_mul hz]; exact hj
    have hm:=Nat.mod_lt j hz
    have hdm:=Nat.div_add_mod j e.size
    obtain⟨x,y,e1,e2,e3⟩:=ih (j / e.size) _ (h _ hi) (h3 _ hi) (h4 _ hi) (j % e.size) hm
    have hc:j / e.size * e.size=e.size * (j / e.size):=Nat.mul_comm _ _
    rw[show a + j / e.size * e.size + j % e.size=a + j by omega] at e1
    rw[show a' + j / e.size * e.size + j % e.size=a' + j by omega] at e2
    exact⟨x,y,e1,e2,e3⟩
  | _=>intro v' s g g' a a' h; simp [sameV] at h
omit [Gl] in
theorem same_bits {C:Ctx}{v v':V}{s:Shape}{x y:Value}(h:sameV v v'=true) (hf:v.fits s=true) (hf':v'.fits s=true) (h1:R C v (.val x)) (h2:R C v' (.val y)):Instr.sameBits 10000 x y=true:=by
  by_cases ha:v.isAgg=true
  · have ha':v'.isAgg=true:=by cases v<;>simp [V.isAgg] at ha<;>cases v'<;>first | rfl | (simp [sameV] at h; done)
    obtain⟨s1,cs,rfl,hz1,_,h3⟩:=R.agg_at h1 ha
    obtain⟨s2,ds,rfl,hz2,_,h4⟩:=R.agg_at h2 ha'
    have e1:=R.sizes _ h3 (R.fits _ h3 hf)
    have e2:=R.sizes _ h4 (R.fits _ h4 hf')
    have k:=same_cells v v' h (R.fits _ h3 hf) (R.fits _ h4 hf')
    have hcs:cs.size=s.size:=by omega
    have hds:ds.size=s.size:=by omega
    show Instr.sameBits (9999 + 1) _ _=true
    simp only[Instr.sameBits,Bool.and_eq_true,beq_iff_eq,List.all_eq_true]
    refine⟨by omega,fun⟨p,q⟩ hpq=>?_⟩
    obtain⟨j,hj⟩:=List.getElem?_of_mem hpq
    rw[List.getElem?_zip_eq_some] at hj
    obtain⟨j1,j2⟩:=hj
    simp only[Array.getElem?_toList] at j1 j2
    have hlt:j < s.size:=by
      have:=(Array.getElem?_eq_some_iff.1 j1).1
      omega
    obtain⟨x,y,q1,q2,q3⟩:=k j hlt
    rw[Nat.zero_add,j1] at q1
    rw[Nat.zero_add,j2] at q2
    cases q1; cases q2
    exact q3 _
  · cases v<;>cases v'<;>simp only[sameV,Bool.false_eq_true,Bool.and_eq_true,beq_iff_eq] at h<;>first
      | (simp [V.isAgg] at ha; done)
      | skip
    · obtain⟨rfl,rfl⟩:=h
      obtain rfl:x=_:=h1
      obtain rfl:y=_:=h2
      simp [Instr.sameBits]
    · obtain rfl:=h
      obtain rfl:x=_:=h1
      obtain rfl:y=_:=h2
      simp [Instr.sameBits]
    · obtain rfl:x=_:=h1
      obtain rfl:y=_:=h2
      simp only[Instr.sameBits,beq_toListBytes,beq_iff_eq]
      exact h
def snocV (k x:V):V→V
  | .cons k' (.cons v r)=>.cons k' (.cons v (snocV k x r))
  | _=>.cons k (.cons x .nl)
def setKV (k x:V):Nat→V→V
  | 0,.cons _ (.cons _ r)=>.cons k (.cons x r)
  | i + 1,.cons k' (.cons v r)=>.cons k' (.cons v (setKV k x i r))
  | _,l=>l
def keyAt:Nat→V→V
  | 0,.cons k _=>k
  | i + 1,.cons _ (.cons _ r)=>keyAt i r
  | _,_=>.unk
omit [Gl] in
theorem list_shape {C:Ctx}{kt:TypeId}{k l:V}{es:List MapEntry}(h:R C l (.list (ents es))) (hk:keysV P kt k l=true):(es=[]∧l=.nl)∨∃ e es' k' v r,es=e::es'∧l=.cons k' (.cons v r):=by
  cases l with
  | nl =>
    cases es with
    | nil=>exact .inl ⟨rfl,rfl⟩
    | cons e es=>simp [R,RR,ents] at h
  | cons k' l =>
    cases l with
    | cons v r =>
      cases es with
      | nil=>obtain⟨x,xs,h1,_⟩:=h; simp [ents] at h1
      | cons e es=>exact .inr ⟨e,es,k',v,r,rfl,rfl⟩
    | _=>simp only[keysV,Bool.false_eq_true] at hk
  | _=>simp only[keysV,Bool.false_eq_true] at hk
omit [Gl] in
theorem R.snoc {C:Ctx}{kt:TypeId}{k0 k x:V}{kv xv:Value}{b:Nat}(hk:R C k (.val kv)) (hx:R C x (.val xv)) :
    ∀(es:List MapEntry) (l:V),keysV P kt k0 l=true→R C l (.list (ents es))→R C (snocV k x l) (.list (ents (es++[⟨kv,xv,b⟩])))
  | [],l,hl,h=>by
    rcases list_shape h hl with ⟨_,rfl⟩ | ⟨e,es',k',v,r,h1,_⟩
    · exact⟨kv,[xv],rfl,hk,xv,[],rfl,hx,rfl⟩
    · cases h1
  | e::es,l,hl,h=>by
    rcases list_shape h hl with ⟨h1,_⟩ | ⟨e',es',k',v,r,h1,rfl⟩
    · cases h1
    · cases h1
      obtain⟨r1,r2,r3⟩:=list_cons (a:=.nl) (b:=.nl) h
      simp only[keysV,Bool.and_eq_true] at hl
      exact⟨_,_,rfl,r1,_,_,rfl,r2,R.snoc hk hx es r hl.2 r3⟩
omit [Gl] in
theorem R.keyAt {C:Ctx}{kt:TypeId}{k0:V}:∀(i:Nat) (es:List MapEntry) (l:V) (e:MapEntry),keysV P kt k0 l=true→R C l (.list (ents es))→es[i]?=some e→R C (keyAt i l) (.val e.key)∧(keyAt i l).fits (shp P 12 kt)=true
  | 0,es,l,e,hl,h,he=>by
    rcases list_shape h hl with ⟨rfl,_⟩ | ⟨e',es',k',v,r,rfl,rfl⟩
    · simp at he
    · obtain⟨r1,r2,r3⟩:=list_cons (a:=.nl) (b:=.nl) h
      simp only[keysV,Bool.and_eq_true] at hl
      simp only[List.getElem?_cons_zero,Option.some.injEq] at he
      subst he
      exact⟨r1,hl.1.2⟩
  | i + 1,es,l,e,hl,h,he=>by
    rcases list_shape h hl with ⟨rfl,_⟩ | ⟨e',es',k',v,r,rfl,rfl⟩
    · simp at he
    · obtain⟨r1,r2,r3⟩:=list_cons (a:=.nl) (b:=.nl) h
      simp only[keysV,Bool.and_eq_true] at hl
      exact R.keyAt i es' r e hl.2 r3 (by simpa using he)
omit [Gl] in
theorem R.setKV {C:Ctx}{kt:TypeId}{k0 k x:V}{kv xv:Value}(hk:R C k (.val kv)) (hx:R C x (.val xv)) :
    ∀(i:Nat) (es:List MapEntry) (l:V),keysV P kt k0 l=true→R C l (.list (ents es))→R C (setKV k x i l) (.list (ents (es.modify i fun e=>{ e with key:=kv,val:=xv })))
  | 0,es,l,hl,h=>by
    rcases list_shape h hl with ⟨rfl,rfl⟩ | ⟨e',es',k',v,r,rfl,rfl⟩
    · exact h
    · obtain⟨r1,r2,r3⟩:=list_cons (a:=.nl) (b:=.nl) h
      exact⟨kv,_,rfl,hk,xv,_,rfl,hx,r3⟩
  | i + 1,es,l,hl,h=>by
    rcases list_shape h hl with ⟨rfl,rfl⟩ | ⟨e',es',k',v,r,rfl,rfl⟩
    · exact h
    · obtain⟨r1,r2,r3⟩:=list_cons (a:=.nl) (b:=.nl) h
      simp only[keysV,Bool.and_eq_true] at hl
      exact⟨e'.key,_,rfl,r1,e'.val,_,rfl,r2,R.setKV hk hx i es' r hl.2 r3⟩
def putV (k x l:V):V :=
  match findV k l 0 with
  | some (i,_)=>setKV k x i l
  | none=>snocV k x l
def putOk (k l:V):Bool :=
  match findV k l 0 with
  | some (i,_)=>sameV (keyAt i l) k
  | none=>true
theorem SR.setO {C:Ctx}{m:Mem}(h:SR B C m) {id:Nat}{blk blk':Blk}{b:Nat}(hm:m id=some blk) (ha:blk.live=true) (hb:blkL? (C.sv id)=some b) (ob:Obj)
    (hbr:∀ C':Ctx,Keep C C'→C'.sv=C.sv→C'.w={ C.w with heap:=C.w.heap.setIfInBounds b ob }→BR B C' id blk') :
    let C':Ctx:={ C with w:={ C.w with heap:=C.w.heap.setIfInBounds b ob } }
    SR B C' (upd m id (some blk'))∧Kp B C C':=by
  intro C'
  have hlt:=h.lt hm ha hb
  have hot:∀ k,k≠b→C'.w.heap[k]?=C.w.heap[k]?:=fun k hk=>by simp [C',Array.getElem?_setIfInBounds_ne (Ne.symm hk)]
  have hk:Kp B C C':=⟨⟨fun _ h=>h,fun _ _=>rfl,fun _ _=>rfl,fun _ _ h=>h,fun u b' hb'=>hot b' (fun e=>h.own id blk b hm ha hb u (e▸hb'))⟩,
    ⟨rfl,rfl,rfl,by simp [C'],fun k hk=>hot k (by omega)⟩,fun _ _ h=>.inl (.inl h)⟩
  refine⟨h.next hk (fun i=>i=id) (fun i hi=>upd_other _ _ hi) ?_ ?_ ?_ ?_ ?_,hk⟩
  · intro i blk1 b1 hi hm1 ha1 hb1
    exact hot b1 (fun e=>hi (h.sep i id blk1 blk b hm1 ha1 hm ha (e▸hb1) hb))
  · intro i blk1 hi hm1
    subst hi
    simp only[upd_same,Option.some.injEq] at hm1
    subst hm1
    exact⟨h.al i blk hm,hbr C' hk.toKeep rfl rfl⟩
  · intro u b' hb'
    have:=h.okLt u b' hb'
    simpa [C'] using this
  · intro i i' blk1 blk2 b1 h1 h2 h3 h4 hi h5 h6
    subst hi
    by_cases hi':i'=i
    · exact hi'.symm
    · rw[upd_other _ _ hi'] at h3
      exact h.sep i i' blk blk2 b1 hm ha h3 h4 h5 h6
  · intro i blk1 b1 h1 h2 h3 u hok
    by_cases hi:i=id
    · subst hi; exact h.own i blk b1 hm ha h3 u hok
    · rw[upd_other _ _ hi] at h1
      exact h.own i blk1 b1 h1 h2 h3 u hok
theorem sem_mapPut {t kt et:TypeId}{a k x:Operand}{id:Nat}{blk:Blk}(ho:o.op=.mapUpdate t a k x∨o.op=.insert t a k x) (ha:ρ a=.yld id) (hm:m id=some blk) (hk:blk.k=.mp) (hu:P.underlying t=some (.map kt et))
    (hl:lay P 12 kt=true) (he:eqT P 12 kt (ρ k) (ρ k)=true) (hf:(ρ k).fits (shp P 12 kt)=true) (hks:keysV P kt (ρ k) blk.v=true) (hp:putOk (ρ k) blk.v=true) :
    OpSem P B o ρ m n ⟨.tup .nl,[(id,⟨.mp,blk.sh,putV (ρ k) (ρ x) blk.v⟩)],[],[]⟩:=by
  intro C M ρc hs _ hup _ hrel
  have h0:=hrel a (by rcases ho with ho | ho<;>simp [ho,Op.operands])
  have h1:=hrel k (by rcases ho with ho | ho<;>simp [ho,Op.operands])
  have h2:=hrel x (by rcases ho with ho | ho<;>simp [ho,Op.operands])
  rw[ha] at h0
  obtain⟨hal,_,h0⟩:=h0
  have h0':ρc a=C.sv id:=h0
  have hM:M id=some blk:=(hup _ (List.mem_singleton.2 rfl)).trans hm
  obtain⟨g,es,clk,hsv,hg,hh,hR⟩:=(hs.mem id blk hM).map hk
  rw[hsv] at h0'
  rw[put_up]
  obtain⟨r,hr1,hr2⟩:=run_find (P:=P) C C.w hl hf h1 hks hR
  have hc:=run_check (P:=P) C C.w false 12 10000 kt _ _ (by omega) hl he hf h1
  have hlive:blk.live=true:=by simp [Blk.live,hk]
  have hb:blkL? (C.sv id)=some g:=by rw[hsv]; rfl
  have key:∃ es' clk',(execOp ρc o).run P C.w=.ok .skip { C.w with heap:=C.w.heap.setIfInBounds g (.map es' clk') }∧R C (putV (ρ k) (ρ x) blk.v) (.list (ents es'.toList)):=by
    unfold putV; unfold putOk at hp
    rcases hfv:findV (ρ k) blk.v 0 with _ | ⟨i,v⟩<;>rw[hfv] at hr2 hp<;>rcases r with _ | ⟨j,xv⟩<;>simp only[FS] at hr2
    · refine⟨es.push ⟨ρc k,ρc x,clk⟩,clk + 1,?_,?_⟩
      · rcases ho with ho | ho<;>simp [execOp,ho,h0',Instr.mapUpdate,run_underlying hu,MapKept.run_getObj_map hh,hc,hr1,MapKept.run_setObj_map _ hh,Result.andThen]
      · rw[Array.toList_push]
        exact R.snoc h1 h2 es.toList blk.v hks hR
    · obtain⟨rfl,h3,e,_,h5,h6⟩:=hr2
      rw[Nat.sub_zero] at h5
      obtain⟨h7,h8⟩:=R.keyAt i es.toList blk.v e hks hR h5
      have hsb:=same_bits hp h8 hf h7 h1
      have hgd:((es[i]?).map (·.key)).getD (ρc k)=e.key:=by
        rw[←Array.getElem?_toList,h5]; rfl
      refine⟨es.modify i fun e=>{ e with key:=ρc k,val:=ρc x },clk,?_,?_⟩
      · rcases ho with ho | ho<;>simp [execOp,ho,h0',Instr.mapUpdate,run_underlying hu,MapKept.run_getObj_map hh,hc,hr1,hgd,Instr.keyThatStays,hsb,MapKept.run_setObj_map _ hh,Result.andThen]
      · rw[Array.toList_modify]
        exact R.setKV h1 h2 i es.toList blk.v hks hR
  obtain⟨es',clk',hrun,hR'⟩:=key
  obtain⟨h3,h4⟩:=hs.setO hM hlive hb (.map es' clk') (blk':=⟨.mp,blk.sh,putV (ρ k) (ρ x) blk.v⟩) (by
    intro C' hk' e1 e2
    have hlt:g < C.w.heap.size:=(Array.getElem?_eq_some_iff.1 hh).1
    exact⟨g,es',clk',by rw[e1]; exact hsv,hg,by rw[e2]; simp [hlt],R.keep hk' _ _ hR'⟩)
  unfold Does
  rw[hrun]
  exact⟨_,rfl,⟨#[],rfl,rfl⟩,h4,h3,fun i hi=>.inl hi⟩
def lenM:V→Nat
  | .cons _ (.cons _ r)=>lenM r + 1
  | _=>0
def pairsV:V→Bool
  | .cons _ (.cons _ r)=>pairsV r
  | .nl=>true
  | _=>false
omit [Gl] in
theorem lenM_of {C:Ctx}:∀(es:List MapEntry) (l:V),pairsV l=true→R C l (.list (ents es))→lenM l=es.length
  | [],l,hp,h=>by
    cases l with
    | nl=>rfl
    | cons k l=>obtain⟨x,xs,h1,_⟩:=h; simp [ents] at h1
    | _=>simp [pairsV] at hp
  | e::es,l,hp,h=>by
    cases l with
    | nl=>simp [R,RR,ents] at h
    | cons k l =>
      cases l with
      | cons v r =>
        obtain⟨_,_,r3⟩:=list_cons (a:=.nl) (b:=.nl) h
        simp only[pairsV] at hp
        simp [lenM,lenM_of es r hp r3]
      | _=>simp [pairsV] at hp
    | _=>simp [pairsV] at hp
theorem sem_len_map {t kt et:TypeId}{x:Operand}{id:Nat}{blk:Blk}(ho:o.op=.call { callee:=.builtin .len,args:=#[x],argTypes:=#[t] }) (hx:ρ x=.yld id) (hm:m id=some blk) (hk:blk.k=.mp) (hu:P.underlying t=some (.map kt et))
    (hp:pairsV blk.v=true):OpSem P B o ρ m n ⟨.int .i64 (lenM blk.v),[],[],[id]⟩ :=
  OpSem.pure fun C M ρc hs hr hrel=>by
    have h0:=hrel x (by simp [ho,Op.operands,Call.operands])
    rw[hx] at h0
    obtain⟨hal,_,h0⟩:=h0
    have h0':ρc x=C.sv id:=h0
    have hM:M id=some blk:=by rw[hr id (by simp),hm]
    obtain⟨g,es,clk,hsv,hg,hh,hR⟩:=(hs.mem id blk hM).map hk
    rw[hsv] at h0'
    have hl:=lenM_of es.toList blk.v hp hR
    exact⟨.int .i64 (lenM blk.v),by simp [execOp,ho,resolve,invoke,builtin,h0',Builtin.len_,run_underlying hu,MapKept.run_getObj_map hh,goInt,hl],rfl⟩
end Go.Ab
