/- Runs over open numbers beside closed ones: contracts may be handed from one to the other. No condition. -/
import Derived.Test.YtkllahedaiddgaaGreatDoorK10
set_option linter.unusedSimpArgs false
set_option linter.unusedVariables false
namespace Go.K
open Go.Ab Go.RowKit Go.Y
noncomputable section
variable [KGl]
section
variable {E:KEnv}{B:Nat}{run:RUN}
omit [KGl] in
theorem jt {α:Type}{a:Array α}{l:List α}(h:a.toList=l):a=⟨l⟩:=arr_of h
theorem zbS {o:Oper}{τ:Nat→KV}{lo:Nat}{zm:KZ}{nx:Nat}{K:KT}{b:Builtin}{args:Array Operand}{ts:Array TypeId}(ho:o.op=.call ⟨.builtin b,args,ts⟩) (h:ZA E.P lo τ b args.toList ts.toList zm nx K):Out E.P B o τ lo zm nx K:=by
 unfold ZA at h
 cases b with
 | len =>
  obtain⟨x,hx,h1⟩:=qI (show l1 (fun x=>l1 (fun t=>zhG E.P t (kev τ x) zm nx K) ts.toList) args.toList from h)
  obtain⟨t,ht,h2⟩:=qI h1
  rw[jt hx,jt ht] at ho
  exact zlP ho h2
 | cap =>
  obtain⟨x,hx,h1⟩:=qI (show l1 (fun x=>l1 (fun t=>zqC E.P t (kev τ x) zm nx K) ts.toList) args.toList from h)
  obtain⟨t,ht,h2⟩:=qI h1
  rw[jt hx,jt ht] at ho
  exact zqD ho h2
 | min =>
  obtain⟨x,y,hx,h1⟩:=qJ (show l2 (fun x y=>zqE (kev τ x) (kev τ y) zm nx K) args.toList from h)
  rw[jt hx] at ho
  exact zqF ho h1
 | max =>
  obtain⟨x,y,hx,h1⟩:=qJ (show l2 (fun x y=>zqG (kev τ x) (kev τ y) zm nx K) args.toList from h)
  rw[jt hx] at ho
  exact zqH ho h1
 | unsafeSliceData =>
  obtain⟨x,hx,h1⟩:=qI (show l1 (fun x=>zhW (kev τ x) zm nx K) args.toList from h)
  rw[jt hx] at ho
  exact zlY ho h1
 | unsafeString =>
  obtain⟨x,y,hx,h1⟩:=qJ (show l2 (fun x y=>l2 (fun pt _=>zhX E.P lo pt (kev τ x) (kev τ y) zm nx K) ts.toList) args.toList from h)
  obtain⟨t,t',ht,h2⟩:=qJ h1
  rw[jt hx,jt ht] at ho
  exact zlZ ho h2
 | append =>
  obtain⟨x,y,hx,h1⟩:=qJ (show l2 (fun x y=>l2 (fun t t'=>zgN lo E.P t t' (kev τ x) (kev τ y) zm nx K) ts.toList) args.toList from h)
  obtain⟨t,t',ht,h2⟩:=qJ h1
  rw[jt hx,jt ht] at ho
  exact zlo ho h2
 | copy =>
  obtain⟨x,y,hx,h1⟩:=qJ (show l2 (fun x y=>l2 (fun t _=>zhl lo E.P t (kev τ x) (kev τ y) zm nx K) ts.toList) args.toList from h)
  obtain⟨t,t',ht,h2⟩:=qJ h1
  rw[jt hx,jt ht] at ho
  exact zlx ho h2
 | clear =>
  obtain⟨x,hx,h1⟩:=qI (show l1 (fun x=>l1 (fun t=>zbL lo E.P t (kev τ x) zm nx K) ts.toList) args.toList from h)
  obtain⟨t,ht,h2⟩:=qI h1
  rw[jt hx,jt ht] at ho
  exact zgO ho h2
 | _=>exact (show BadN 178 from h).elim
omit [KGl] in
theorem zqv {p:List Step}(h:zva p=true):p=[]:=by
 cases p with
 | nil=>rfl
 | cons _ _=>cases h
theorem zvl {T PT fid:Nat}{o:Oper}{f:Operand}{args:Array Operand}{ts:Array TypeId}{τ:Nat→KV}{lo:Nat}{zm:KZ}{nx mx:Nat}{K:KO}(ha:zvt E.P fid T PT) (ho:o.op=.call ⟨.value f,args,ts⟩) (hf:kev τ f=.fn fid .nl) (hlt:fid < 1073741824)
  (h:asK E.P lo T PT (args.toList.map (kev τ)) zm nx mx K) (hmb:MB (am zm) nx) (hlo:lo≤nx):zfz E B o τ lo zm nx mx K:=by
 obtain⟨x,y,hl,h1⟩:=qJ h
 obtain⟨g,c,rfl,h2⟩:=(wG h1).resolve_right fun h=>(show BadN 388 from h.2).elim
 obtain⟨h3,h4⟩:=ze h2
 obtain⟨p,r,rfl,h5⟩:=(xh h4).resolve_right fun h=>(show BadN 387 from h.2).elim
 obtain⟨rfl,h6⟩:=(jc h5).resolve_right fun h=>(show BadN 386 from h.2).elim
 obtain⟨g2,d,rfl,h7⟩:=(wG h6).resolve_right fun h=>(show BadN 388 from h.2).elim
 obtain⟨h8,h9⟩:=ze h7
 obtain⟨q,r2,rfl,h10⟩:=(xh h9).resolve_right fun h=>(show BadN 387 from h.2).elim
 obtain⟨rfl,h11⟩:=(jc h10).resolve_right fun h=>(show BadN 386 from h.2).elim
 obtain⟨id,pth,s,rfl,h12⟩:=(xY h11).resolve_right fun h=>(show BadN 385 from h.2).elim
 obtain⟨s2,hs2,h13⟩:=xg h12
 obtain⟨kd,sh,v,hb,h14⟩:=xL h13
 cases kd with
 | box T2 =>
  obtain⟨h15,h16⟩:=ze (show chk _ 383 _ from h14)
  simp only[zd] at h15
  obtain⟨q1,q2,q3,q4,q5,q6⟩:=h15
  obtain rfl:=zI q1
  obtain rfl:=zqv q3
  obtain rfl:=Shape.eq_of_beq q4
  obtain rfl:=Shape.eq_of_beq q5
  obtain⟨q7,q8⟩:=j5 q6
  have hg:g=T2 + 2147483649:=zI h3
  have hg2:g2=PT + 2147483649:=zI h8
  rw[VX] at h16
  have hid:id < nx:=by
   rcases Nat.lt_or_ge id nx with q | q
   ·exact q
   ·have:=hmb id q; rw[zJ hb] at this; cases this
  have hcall:=ha.2 B (am zm) nx mx id sh p.v v.v (zJ hb) hs2 q7 q8
  have hfa:=FnArgs.plain (τ:=tv' τ) (f:=f) (args:=args) (fid:=fid) (caps:=V.nl) (by rw[←zK,hf]; rfl) hlt
  have hargs:args.toList.map (opv Gl.G (tv' τ))++unL V.nl=[.fn (T2 + 2147483649) (.cons p.v .nl),.fn (PT + 2147483649) (.cons (.ptr id [] sh) .nl)]:=by
   rw[←w0,hl,hg,hg2]; rfl
  rw[hargs] at hfa
  have hgop:=(xB ho hfa ha.1 hcall).op
  refine⟨.bool true,_,nx,mx,[id],[],false,h16,⟨fun i hi=>?_,Nat.le_refl _,Nat.le_refl _,fun i hi=>?_⟩,?_⟩
  ·rw[wA,zf _ _ (by omega)]; exact hmb i hi
  ·rw[wA,zf _ _ (by have:=Nat.le_of_ble_eq_true q2; omega)]
  ·rw[wA]; exact hgop
 | row _=>exact (show BadN 384 from h14).elim
 | dead=>exact (show BadN 384 from h14).elim
 | lp _ _ _ _=>exact (show BadN 384 from h14).elim
 | mp=>exact (show BadN 384 from h14).elim
theorem zdA (hE:KOk E) {o:Oper}{dr:Bool}{τ:Nat→KV}{lo:Nat}{zm:KZ}{nx mx:Nat}{K:KO}(h:kop o.op E run dr lo τ zm nx mx K) :
  (∃ f args ts fid caps,o.op=.call ⟨.value f,args,ts⟩∧kev τ f=.fn fid caps∧Zz E run dr lo (args.toList.map (kev τ)) zm nx mx K fid caps)∨(∃ f args ts id,o.op=.call ⟨.value f,args,ts⟩∧kev τ f=.yld id∧WH run dr lo (args.toList.map (kev τ)) zm nx mx K id)∨Out E.P B o τ lo zm nx (sK mx K)∨(dr=false∧(MB (am zm) nx→lo≤nx→zfz E B o τ lo zm nx mx K)):=by
 cases ho:o.op with
 | move x =>
  rw[ho] at h
  exact .inr (.inr (.inl (Out.pure (K:=sK mx K) (v:=kev τ x) h (zgF (e:=zk (kev τ x).v) (by rw[ho]; show (okE _).is _; rw[←zK]; rfl)) (EImp.refl _))))
 | assign x =>
  rw[ho] at h
  exact .inr (.inr (.inl (Out.pure (K:=sK mx K) (v:=kev τ x) h (zgF (e:=zk (kev τ x).v) (by rw[ho]; show (okE _).is _; rw[←zK]; rfl)) (EImp.refl _))))
 | pick c a b=>rw[ho] at h; exact .inr (.inr (.inl (zlC ho h)))
 | alloc t=>rw[ho] at h; exact .inr (.inr (.inl (zg4 ho h)))
 | box t v=>rw[ho] at h; exact .inr (.inr (.inl (zqq ho h)))
 | build t ps=>rw[ho] at h; exact .inr (.inr (.inl (zhR ho h)))
 | buildSlice t n ps=>rw[ho] at h; exact .inr (.inr (.inl (zvK ho h)))
 | load t a=>rw[ho] at h; exact .inr (.inr (.inl (zlw ho h)))
 | store t a v=>rw[ho] at h; exact .inr (.inr (.inl (zg7 ho h)))
 | nilCheck x=>rw[ho] at h; exact .inr (.inr (.inl (zqr ho h)))
 | binOp op t x y t2=>rw[ho] at h; exact .inr (.inr (.inl (zl1 ho h)))
 | makeInterface t x=>rw[ho] at h; exact .inr (.inr (.inl (zqP ho h)))
 | unOp op t x=>rw[ho] at h; exact .inr (.inr (.inl (zvI ho h)))
 | convert s d x=>rw[ho] at h; exact .inr (.inr (.inl (zhZ ho h)))
 | sliceToArrayPointer d x=>rw[ho] at h; exact .inr (.inr (.inl (zq7 ho h)))
 | makeFunc f a c=>rw[ho] at h; exact .inr (.inr (.inl (zaF ho h)))
 | makeMap t r=>rw[ho] at h; exact .inr (.inr (.inl (zfF ho h)))
 | lookup t x i c=>rw[ho] at h; exact .inr (.inr (.inl (zlO ho h)))
 | mapUpdate t m k v=>rw[ho] at h; exact .inr (.inr (.inl (zhF (.inl ho) h)))
 | insert t m k v=>rw[ho] at h; exact .inr (.inr (.inl (zhF (.inr ho) h)))
 | makeSlice t l c=>rw[ho] at h; exact .inr (.inr (.inl (zlU ho h)))
 | slice t x l h' m=>rw[ho] at h; exact .inr (.inr (.inl (zfp ho h)))
 | fieldAddr t x f=>rw[ho] at h; exact .inr (.inr (.inl (zg9 ho h)))
 | field t x f=>rw[ho] at h; exact .inr (.inr (.inl (zfI ho h)))
 | indexAddr t x i=>rw[ho] at h; exact .inr (.inr (.inl (zhc ho h)))
 | index t x i=>rw[ho] at h; exact .inr (.inr (.inl (zfH ho h)))
 | extract x k=>rw[ho] at h; exact .inr (.inr (.inl (zbV ho h)))
 | call c =>
  obtain⟨cl,args,ts⟩:=c
  rw[ho] at h
  cases cl with
  | value f =>
   rcases wG (show zaQ (zn3 E run dr lo (args.toList.map (kev τ)) zm nx mx K) (zh2 (WH run dr lo (args.toList.map (kev τ)) zm nx mx K) (BadV (.call ⟨.value f,args,ts⟩)) (kev τ f)) (kev τ f) from h) with ⟨fid,caps,hf,h1⟩ | ⟨_,h1⟩
   ·replace h1:@Bool.rec (fun _=>Prop) (@Option.rec (Nat×Nat) (fun _=>Prop) (Zz E run dr lo (args.toList.map (kev τ)) zm nx mx K fid caps) (pr fun T PT=>asC E run dr lo (args.toList.map (kev τ)) zm nx mx K fid caps T PT) (E.as fid)) (zu9 fid caps (args.toList.map (kev τ)) zm nx mx K) (E.ex fid):=h1
    cases hx:E.ex fid with
    | false =>
     rw[hx] at h1
     replace h1:@Option.rec (Nat×Nat) (fun _=>Prop) (Zz E run dr lo (args.toList.map (kev τ)) zm nx mx K fid caps) (pr fun T PT=>asC E run dr lo (args.toList.map (kev τ)) zm nx mx K fid caps T PT) (E.as fid):=h1
     cases ha:E.as fid with
     | none=>rw[ha] at h1; exact .inl ⟨f,args,ts,fid,caps,rfl,hf,h1⟩
     | some TT =>
      obtain⟨T,PT⟩:=TT
      rw[ha] at h1
      replace h1:@Bool.rec (fun _=>Prop) (@Bool.rec (fun _=>Prop) (chk (Nat.blt fid 1073741824) 371 (Qc (asK E.P lo T PT (args.toList.map (kev τ)) zm nx mx K) (BadN 372) caps)) (BadN 380) dr) (Zz E run dr lo (args.toList.map (kev τ)) zm nx mx K fid caps) (zqo (args.toList.map (kev τ))):=h1
      cases hn:zqo (args.toList.map (kev τ)) with
      | true=>rw[hn] at h1; exact .inl ⟨f,args,ts,fid,caps,rfl,hf,h1⟩
      | false =>
       rw[hn] at h1
       cases dr with
       | true=>exact (show BadN 380 from h1).elim
       | false =>
        obtain⟨h2,h3⟩:=ze (show chk (Nat.blt fid 1073741824) 371 _ from h1)
        rw[Nat.blt_eq] at h2
        obtain⟨rfl,h4⟩:=(jc h3).resolve_right fun h=>(show BadN 372 from h.2).elim
        exact .inr (.inr (.inr ⟨rfl,fun hmb hlo=>zvl (hE.as _ _ _ ha) ho hf h2 h4 hmb hlo⟩))
    | true =>
     rw[hx] at h1
     obtain⟨h2,h3⟩:=ze h1
     rw[Nat.blt_eq] at h2
     obtain⟨rfl,h4⟩:=(jc h3).resolve_right fun h=>(show BadN 372 from h.2).elim
     obtain⟨x',h5,h6⟩:=qI h4
     obtain⟨x,hxl,rfl⟩:∃ x,args.toList=[x]∧kev τ x=x':=by
      rcases hal:args.toList with _ | ⟨a,_ | ⟨b,r⟩⟩<;>rw[hal] at h5<;>simp at h5
      exact⟨a,rfl,h5⟩
     rw[jt hxl] at ho ⊢
     exact False.elim (hE.ex _ hx)
   ·rcases zfK h1 with ⟨id,hf,h2⟩ | ⟨_,h2⟩
    ·exact .inr (.inl ⟨f,args,ts,id,rfl,hf,h2⟩)
    ·exact h2.elim
  | invoke r m=>exact (show BadV _ from h).elim
  | builtin b=>exact .inr (.inr (.inl (zbS ho (show ZA E.P lo τ b args.toList ts.toList zm nx (sK mx K) from h))))
 | _=>rw[ho] at h; exact (show BadV _ from h).elim
theorem Ve (hr:jn E B run) (hE:KOk E) {o:Oper}{τ:Nat→KV}{lo:Nat}{zm:KZ}{nx mx:Nat}{K:KO}(h:kop o.op E run false lo τ zm nx mx K) (hmb:MB (am zm) nx) (hlo:lo≤nx):zfz E B o τ lo zm nx mx K:=by
 rcases zdA (B:=B) hE h with ⟨f,args,ts,fid,caps,ho,hf,h1⟩ | ⟨f,args,ts,id,ho,hf,h1⟩ | h1 | ⟨_,h1⟩
 ·exact zfB hr hE ho hf h1 hmb hlo
 ·exact zbY hr ho hf h1 hmb hlo
 ·exact h1.seq hmb hlo
 ·exact h1 hmb hlo
theorem zly (hr:jn E B run) (hE:KOk E) {o:Oper}{τ:Nat→KV}{lo:Nat}{zm:KZ}{nx mx:Nat}{K:KO}(h:kop o.op E run true lo τ zm nx mx K) (hmb:MB (am zm) nx) (hlo:lo≤nx):zlG E B o τ lo zm nx mx K:=by
 rcases zdA (B:=B) hE h with ⟨f,args,ts,fid,caps,ho,hf,h1⟩ | ⟨f,args,ts,id,ho,hf,h1⟩ | h1 | ⟨h1,_⟩
 ·exact zfC hr hE ho hf h1 hmb hlo
 ·exact (show BadN 208 from h1).elim
 ·exact h1.drw hmb hlo
 ·cases h1
theorem WS (hr:jn E B run) (hE:KOk E) {ops:Array Oper}{N lo:Nat}{tr:KTm}{K:(Nat→KV)→KZ→Nat→Nat→Prop} :
  ∀(l:List Oper) (i:Nat) (τ:Nat→KV) (zm:KZ) (nx mx:Nat),(∀ k,ops[i + k]?=l[k]?)→(∀ o∈l,dOk N o.dst=true)→zay E run ops.toList lo l τ zm nx mx K→MB (am zm) nx→lo≤nx→J6 ops.toList tr τ →
   ∃ τ' zm' nx' mx',K τ' zm' nx' mx'∧KFin lo zm nx mx zm' nx' mx'∧J6 ops.toList tr τ'∧GReg E.P B ops i l.length (tv' τ) (am zm) nx N (tv' τ') (am zm') nx' mx'
 | [],i,τ,zm,nx,mx,_,_,h,hmb,_,hl=>⟨τ,zm,nx,mx,h,⟨hmb,Nat.le_refl _,Nat.le_refl _,fun _ _=>rfl⟩,hl,GReg.nil⟩
 | o::l,i,τ,zm,nx,mx,hops,hD,h,hmb,hlo,hl=>by
  have hop:ops[i]?=some o:=by have:=hops 0; simpa using this
  have hops':∀ k,ops[i + 1 + k]?=l[k]?:=by
   intro k
   have:=hops (k + 1)
   simp only[List.getElem?_cons_succ] at this
   rw[←this]; congr 1; omega
  have hd:=hD o (by simp)
  have hD':∀ o∈l,dOk N o.dst=true:=fun o ho=>hD o (by simp [ho])
  have hmem:o∈ops.toList:=by
   obtain⟨hlt,he⟩:=Array.getElem?_eq_some_iff.1 hop
   rw[←he]; exact Array.getElem_mem_toList hlt
  have hleft:∀ τ1,(∀ t,o.dst=some t∨τ1 t=τ t)→J6 ops.toList tr τ1:=fun τ1 h1 t=>by
   rcases h1 t with h2 | h2
   ·exact .inl ⟨o,hmem,h2⟩
   ·rw[h2]; exact hl t
  have h0:zgS ops.toList o.guard τ (fun τ=>kop o.op E run false lo τ zm nx mx fun v zm nx mx _ _ _=>y3 o.dst v τ fun τ=>zay E run ops.toList lo l τ zm nx mx K) (fun τ=>y3 o.dst (.tup .nl) τ fun τ=>zay E run ops.toList lo l τ zm nx mx K):=h
  rcases zgP h0 with ⟨hw,h1⟩ | ⟨hw,h1⟩
  ·obtain⟨v,zm1,nx1,mx1,up,rd,al,h2,h3,h4⟩:=Ve hr hE h1 hmb hlo
   obtain⟨τ1,h5,h6,h7⟩:=yX h2
   obtain⟨τ',zm',nx',mx',h8,h9,h10,h11⟩:=WS hr hE l (i + 1) τ1 zm1 nx1 mx1 hops' hD' h5 h3.mb (by have:=h3.nx; omega) (hleft τ1 h7)
   rw[h6] at h11
   exact⟨τ',zm',nx',mx',h8,h3.trans h9,h10,GReg.op hop hw hd h4 h11 h3.nx h9.nx h9.mx⟩
  ·obtain⟨τ1,h5,h6,h7⟩:=yX h1
   obtain⟨τ',zm',nx',mx',h8,h9,h10,h11⟩:=WS hr hE l (i + 1) τ1 zm nx mx hops' hD' h5 hmb hlo (hleft τ1 h7)
   rw[h6] at h11
   exact⟨τ',zm',nx',mx',h8,h9,h10,GReg.skip hop hw hd h11⟩
def V1:List TE→List KTE→Prop
 | [],[]=>True
 | te::r,z::s=>V1 r s∧te.o=z.o∧te.n=z.lo∧te.n + te.e.nw.length=z.hi∧te.e.up.map (·.1)=z.up∧(z.all=false→te.e.rd=z.rd)∧(z.all=true→∀ id∈te.e.rd,id < te.n)∧z.i=r.length
 | _,_=>False
omit [KGl] in
theorem ZG {a b:Bool}:orB a b=true↔a=true∨b=true:=by cases a<;>cases b<;>simp [orB]
omit [KGl] in
theorem ZH {f:Nat→Bool}:∀ {l:List Nat},WI f l=true↔∃ x∈l,f x=true
 | []=>by
   constructor
   ·intro h; cases h
   ·rintro⟨x,hx,_⟩; cases hx
 | x::l=>by
  show orB (f x) (WI f l)=true↔_
  rw[ZG,ZH]
  simp
omit [KGl] in
theorem zbT {l:List Nat}(h:zqp l=true):l=[]:=by cases l with
 | nil=>rfl
 | cons _ _=>cases h
structure ZOf (te:TE) (z:KTE):Prop where
 n:te.n=z.lo
 hi:te.n + te.e.nw.length=z.hi
 up:te.e.up.map (·.1)=z.up
 rd:z.all=false→te.e.rd=z.rd
 al:z.all=true→∀ id∈te.e.rd,id < te.n
omit [KGl] in
theorem ZOf.wids {te:TE}{z:KTE}(h:ZOf te z) {id:Nat}(hi:id∈wids te):id∈z.up∨(z.lo≤id∧id < z.hi):=by
 unfold Ab.wids at hi
 rcases List.mem_append.1 hi with h1 | h1
 ·left; rw[←h.up]; exact h1
 ·right
  have:=List.mem_range'_1.1 h1
  have:=h.n; have:=h.hi
  omega
omit [KGl] in
theorem ZOf.kin {te:TE}{z:KTE}(h:ZOf te z) {id:Nat}(hi:id∈Ab.wids te):K.kin z id=true:=by
 unfold K.kin
 rw[ZG,ZH]
 rcases h.wids hi with h1 | h1
 ·exact .inl ⟨id,h1,Nat.beq_refl id⟩
 ·right
  unfold zft
  rw[zd]
  exact⟨Nat.ble_eq_true_of_le h1.1,Nat.ble_eq_true_of_le h1.2⟩
omit [KGl] in
theorem zlz {te te':TE}{z w:KTE}(hz:ZOf te z) (hw:ZOf te' w) (h:Xl z w=false):jK te te'=false:=by
 rw[←Bool.not_eq_true] at h ⊢
 intro hc
 apply h
 unfold jK at hc
 rw[Bool.or_eq_true] at hc
 unfold Xl
 simp only[ZG,ZH,zd,xZ]
 rcases hc with hc | hc
 ·obtain⟨id,h1,h2⟩:=List.any_eq_true.1 hc
  rw[Bool.or_eq_true,List.contains_iff_mem,List.contains_iff_mem] at h2
  rcases hw.wids h1 with h3 | h3
  ·left
   refine⟨id,h3,?_⟩
   rcases h2 with h2 | h2
   ·exact .inl (hz.kin h2)
   ·right
    unfold krd
    rw[ZG,ZH]
    cases ha:z.all with
    | false=>left; rw[hz.rd ha] at h2; exact⟨id,h2,Nat.beq_refl id⟩
    | true =>
     right
     have:=hz.al ha id h2
     have:=hz.n
     rw[zd,xZ]
     exact⟨rfl,by omega⟩
  ·have hkn:zft w id=true:=by
    unfold zft; rw[zd]
    exact⟨Nat.ble_eq_true_of_le h3.1,Nat.ble_eq_true_of_le h3.2⟩
   rcases h2 with h2 | h2
   ·rcases hz.wids h2 with h4 | h4
    ·exact .inr (.inr (.inl ⟨id,h4,hkn⟩))
    ·exact .inr (.inr (.inr (.inr (.inl ⟨Nat.ble_eq_true_of_le (by omega),Nat.ble_eq_true_of_le (by omega)⟩))))
   ·cases ha:z.all with
    | false=>rw[hz.rd ha] at h2; exact .inr (.inr (.inr (.inl ⟨id,h2,hkn⟩)))
    | true =>
     have:=hz.al ha id h2
     have:=hz.n
     exact .inr (.inr (.inr (.inr (.inr (.inl ⟨rfl,by omega,by omega⟩)))))
 ·obtain⟨id,h1,h2⟩:=List.any_eq_true.1 hc
  rw[List.contains_iff_mem] at h2
  cases ha:w.all with
  | false=>rw[hw.rd ha] at h1; exact .inr (.inl ⟨id,h1,hz.kin h2⟩)
  | true =>
   have h5:=hw.al ha id h1
   have h6:=hw.n
   rcases hz.wids h2 with h4 | h4
   ·exact .inr (.inr (.inr (.inr (.inr (.inr (.inl ⟨rfl,id,h4,by omega⟩))))))
   ·exact .inr (.inr (.inr (.inr (.inr (.inr (.inr ⟨rfl,by omega,by omega⟩))))))
omit [KGl] in
theorem ZOf.wids_nil {te:TE}{z:KTE}(h:ZOf te z) (hr:z.ro=true):Ab.wids te=[]:=by
 unfold KTE.ro at hr
 rw[zd] at hr
 have h1:=zbT hr.1
 have h2:=zI hr.2
 have:=h.n; have:=h.hi
 unfold Ab.wids
 rw[h.up,h1,show te.e.nw.length=0 by omega]; rfl
omit [KGl] in
theorem zBi {te te':TE}{z w:KTE}(hz:ZOf te z) (hw:ZOf te' w) (h1:z.ro=true) (h2:w.ro=true):jK te te'=false:=by
 unfold jK
 rw[hz.wids_nil h1,hw.wids_nil h2]
 simp
omit [KGl] in
theorem zlA {te te':TE}{z:KTE}(hz:ZOf te z) (h1:z.inact=true):jK te te'=false:=by
 unfold KTE.inact at h1
 simp only[zd,Bool.not_eq_true'] at h1
 unfold jK
 rw[hz.wids_nil h1.1,hz.rd h1.2.2,zbT h1.2.1]
 simp
omit [KGl] in
theorem zlB {te te':TE}{w:KTE}(hw:ZOf te' w) (h1:w.inact=true):jK te te'=false:=by
 unfold KTE.inact at h1
 simp only[zd,Bool.not_eq_true'] at h1
 unfold jK
 rw[hw.wids_nil h1.1,hw.rd h1.2.2,zbT h1.2.1]
 simp
omit [KGl] in
theorem zhm (ops:Array Oper) (o:Oper) (k:Nat):zaz ops o k=xT ops 6 o k:=by cases k<;>rfl
omit [KGl] in
theorem zhn {ops:Array Oper}{o:Oper}:∀ {r:List TE},agS ops o (r.map (·.o))=true→∀ l te' r',r=l++te'::r'→(xd o r'.length||!zbD o te'.o ops)=true
 | [],_,l,te',r',e=>by cases l<;>cases e
 | t::r,h,l,te',r',e=>by
  obtain⟨h1,h2⟩:=zd.1 (show nd (agS ops o (r.map (·.o))) (xd o (r.map (·.o)).length||!zbD o t.o ops)=true from h)
  cases l with
  | nil=>simp only[List.nil_append,List.cons.injEq] at e; obtain⟨rfl,rfl⟩:=e; rw[List.length_map] at h2; exact h2
  | cons x l=>simp only[List.cons_append,List.cons.injEq] at e; exact zhn h1 l te' r' e.2
omit [KGl] in
theorem j6 {ops:Array Oper}:∀ {tr:List TE},ww ops (tr.map (·.o))=true→Apart wrT (YQ ops) xH tr∧(∀ l te r,tr=l++te::r→∀ k,xH te k=true→k < r.length)
 | [],_=>⟨trivial,fun l te r e=>by cases l<;>cases e⟩
 | te::r,h=>by
  obtain⟨q1,q2⟩:=zd.1 (show nd (ww ops (r.map (·.o))) (nd (te.o.after.all fun e=>!(Region.binds .any e)||decide (e.on < (r.map (·.o)).length)) (agS ops te.o (r.map (·.o))))=true from h)
  obtain⟨q3,q4⟩:=zd.1 q2
  rw[List.length_map] at q3
  obtain⟨h1,h3⟩:=j6 q1
  refine⟨⟨h1,fun l te' r' e ⟨k,hk⟩=>?_⟩,?_⟩
  ·have:=zhn q4 l te' r' e
   cases hed:xH te r'.length with
   | true=>rfl
   | false =>
    exfalso
    have hed':xd te.o r'.length=false:=hed
    simp only[hed',Bool.false_or,Bool.not_eq_true'] at this
    have hc:zgn te te' ops=false:=this
    unfold zgn at hc
    rcases hk with ⟨hw,hk⟩ | ⟨hu,hw⟩
    ·rw[Vs hw] at hc
     simp only[Bool.or_eq_false_iff] at hc
     rcases hk with hk | hk
     ·rw[Vs hk] at hc; simp at hc
     ·have h5:(te.o.looksAt ops).contains k=true:=List.contains_iff_mem.2 hk
      simp only[h5] at hc; simp at hc
    ·rw[Vs hw] at hc
     have h5:(te'.o.looksAt ops).contains k=true:=List.contains_iff_mem.2 hu
     simp only[h5] at hc; simp at hc
  ·intro l te' r' e k hk
   cases l with
   | nil =>
    simp only[List.nil_append,List.cons.injEq] at e
    obtain⟨rfl,rfl⟩:=e
    unfold xH at hk
    obtain⟨x,hx,hb⟩:=Array.any_eq_true'.1 hk
    simp only[Bool.and_eq_true,beq_iff_eq] at hb
    have:=Array.all_eq_true'.1 q3 x hx
    simp only[hb.1,Bool.not_true,Bool.false_or,decide_eq_true_eq] at this
    omega
   | cons x l=>simp only[List.cons_append,List.cons.injEq] at e; exact h3 l te' r' e.2 k hk
omit [KGl] in
theorem zho {ops:Array Oper}{te:TE}{z:KTE}(h0:te.o=z.o) (hz:ZOf te z):∀ {tr:List TE}{s:List KTE},V1 tr s→(z.inact=true∨agD ops z z.o s=true)→∀ l te' r',tr=l++te'::r'→edT ops te r'.length=true∨jK te te'=false
 | [],[],_,_,l,te',r',e=>by cases l<;>cases e
 | [],_::_,hc,_,_,_,_,_=>hc.elim
 | _::_,[],hc,_,_,_,_,_=>hc.elim
 | te1::r,w::s,hc,h2,l,te',r',e=>by
  obtain⟨k1,k2,k3,k4,k5,k6,k7,k8⟩:=hc
  have hw:ZOf te1 w:=⟨k3,k4,k5,k6,k7⟩
  have hm:(z.inact=true∨agD ops z z.o s=true)∧(edT ops te r.length=true∨jK te te1=false):=by
   rcases h2 with h2 | h2
   ·exact⟨.inl h2,.inr (zlA hz h2)⟩
   ·have hpd:@KTE.rec (fun _=>Bool) (fun k o' lo hi up rd all=>zdw ops z (.mk k o' lo hi up rd all) z.o k) w=zdw ops z w z.o w.i:=by cases w; rfl
    obtain⟨p1,p2⟩:=zd.1 (show nd (agD ops z z.o s) (@KTE.rec (fun _=>Bool) (fun k o' lo hi up rd all=>zdw ops z (.mk k o' lo hi up rd all) z.o k) w)=true from h2)
    rw[hpd] at p2
    have p2:@Bool.rec (fun _=>Bool) (@Bool.rec (fun _=>Bool) (orB (zaz ops z.o w.i) (!Xl z w)) true (nd z.ro w.ro)) true w.inact=true:=p2
    refine⟨.inr p1,?_⟩
    cases ha:w.inact with
    | true=>exact .inr (zlB hw ha)
    | false =>
     rw[ha] at p2
     have p2:@Bool.rec (fun _=>Bool) (orB (zaz ops z.o w.i) (!Xl z w)) true (nd z.ro w.ro)=true:=p2
     cases hro:nd z.ro w.ro with
     | true =>
      obtain⟨r1,r2⟩:=zd.1 hro
      exact .inr (zBi hz hw r1 r2)
     | false =>
      rw[hro] at p2
      rcases ZG.1 (show orB (zaz ops z.o w.i) (!Xl z w)=true from p2) with p3 | p3
      ·left; unfold edT; rw[zhm,k8] at p3; rw[h0]; exact p3
      ·right
       simp only[Bool.not_eq_true'] at p3
       exact zlz hz hw p3
  cases l with
  | nil=>simp only[List.nil_append,List.cons.injEq] at e; obtain⟨rfl,rfl⟩:=e; exact hm.2
  | cons x l=>simp only[List.cons_append,List.cons.injEq] at e; exact zho h0 hz k1 hm.1 l te' r' e.2
omit [KGl] in
theorem j7 {ops:Array Oper}:∀ {tr:List TE}{s:List KTE},V1 tr s→XN ops s=true→Apart wrM YR (edT ops) tr
 | [],[],_,_=>trivial
 | [],_::_,hc,_=>hc.elim
 | _::_,[],hc,_=>hc.elim
 | te::r,z::s,hc,h2=>by
  obtain⟨k1,k2,k3,k4,k5,k6,k7,k8⟩:=hc
  have hzd:@KTE.rec (fun _=>Bool) (fun i o lo hi up rd all=>@Bool.rec (fun _=>Bool) (agD ops (.mk i o lo hi up rd all) o s) true (KTE.inact (.mk i o lo hi up rd all))) z=@Bool.rec (fun _=>Bool) (agD ops z z.o s) true z.inact:=by cases z; rfl
  obtain⟨p1,p2⟩:=zd.1 (show nd (XN ops s) (@KTE.rec (fun _=>Bool) (fun i o lo hi up rd all=>@Bool.rec (fun _=>Bool) (agD ops (.mk i o lo hi up rd all) o s) true (KTE.inact (.mk i o lo hi up rd all))) z)=true from h2)
  rw[hzd] at p2
  have ha:z.inact=true∨agD ops z z.o s=true:=by
   cases hi:z.inact with
   | true=>exact .inl rfl
   | false=>rw[hi] at p2; exact .inr p2
  refine⟨j7 k1 p1,fun l te' r' e ⟨k,hk⟩=>?_⟩
  rcases zho k2 ⟨k3,k4,k5,k6,k7⟩ k1 ha l te' r' e with h | hc
  ·exact h
  ·exfalso
   unfold jK at hc
   simp only[Bool.or_eq_false_iff,List.any_eq_false] at hc
   rcases hk with ⟨hw,hk⟩ | ⟨hu,hw⟩
   ·have h4:=hc.1 k (Wg hw)
    simp only[Bool.or_eq_true,not_or] at h4
    rcases hk with hk | hk
    ·exact h4.1 (by simpa using Wg hk)
    ·exact h4.2 (List.contains_iff_mem.2 hk)
   ·exact hc.2 k hu (by simpa using Wg hw)
theorem ZI (hr:jn E B run) (hE:KOk E) {ops:Array Oper}{N lo:Nat}{tr:KTm}{τ0:Nat→V}{μ0:Mem}{nx0:Nat}{K:(Nat→KV)→KZ→Nat→Nat→List KTE→Prop} :
  ∀(l l0 l2:List Oper) (τ:Nat→KV) (zm:KZ) (nx mx:Nat) (ts:List TE) (zs:List KTE),ops.toList=l0++l++l2→ts.map (·.o)=l0.reverse→(∀ o∈l,dOk N o.dst=true)→GTr E.P B ops N τ0 μ0 nx0 (tv' τ) (am zm) nx ts→V1 ts zs→lo≤nx→J6 ops.toList tr τ →
   ZB E run ops.toList lo l ts.length τ zm nx mx zs K →
   ∃ τ' zm' nx' mx' ts' zs',K τ' zm' nx' mx' zs'∧KFin lo zm nx mx zm' nx' mx'∧J6 ops.toList tr τ'∧GTr E.P B ops N τ0 μ0 nx0 (tv' τ') (am zm') nx' ts'∧V1 ts' zs'∧ts'.map (·.o)=(l0++l).reverse
 | [],l0,l2,τ,zm,nx,mx,ts,zs,h1,h2,_,hg,hc,hlo,hl,h=>⟨τ,zm,nx,mx,ts,zs,h,⟨hg.mb,Nat.le_refl _,Nat.le_refl _,fun _ _=>rfl⟩,hl,hg,hc,by rw[h2,List.append_nil]⟩
 | o::l,l0,l2,τ,zm,nx,mx,ts,zs,h1,h2,hD,hg,hc,hlo,hl,h=>by
  have hlen:ts.length=l0.length:=by have:=congrArg List.length h2; simpa using this
  have hop:ops[ts.length]?=some o:=by
   rw[←Array.getElem?_toList,h1,hlen]; simp
  have hd:=hD o (by simp)
  have hD':∀ o∈l,dOk N o.dst=true:=fun o ho=>hD o (by simp [ho])
  have hmem:o∈ops.toList:=by rw[h1]; simp
  have hleft:∀ τ1,(∀ t,o.dst=some t∨τ1 t=τ t)→J6 ops.toList tr τ1:=fun τ1 h1 t=>by
   rcases h1 t with h2 | h2
   ·exact .inl ⟨o,hmem,h2⟩
   ·rw[h2]; exact hl t
  have h0:zgS ops.toList o.guard τ (fun τ=>kop o.op E run true lo τ zm nx mx fun v zm nx' mx up rd all=>y3 o.dst v τ fun τ=>zW (Nat.succ ts.length) fun i=>ZB E run ops.toList lo l i τ zm nx' mx (.mk ts.length o nx nx' up rd all::zs) K)
    (fun τ=>y3 o.dst (.tup .nl) τ fun τ=>zW (Nat.succ ts.length) fun i=>ZB E run ops.toList lo l i τ zm nx mx (.mk ts.length o nx nx [] [] false::zs) K):=h
  have h1':ops.toList=(l0++[o])++l++l2:=by rw[h1]; simp
  have hlr:(l0++[o]++l).reverse=(l0++o::l).reverse:=by simp
  rcases zgP h0 with ⟨hw,h3⟩ | ⟨hw,h3⟩
  ·obtain⟨v,zm1,nx1,mx1,up,rd,al,h4,h5,rd',e,h6,h7,h8⟩:=zly hr hE h3 hg.mb hlo
   obtain⟨τ1,h9,h10,h11⟩:=yX h4
   rw[zZ] at h9
   have hg1:=hg.op hop hw hd h6
   rw[←h10] at hg1
   have hc1:V1 (⟨o,e,nx,false⟩::ts) (.mk ts.length o nx nx1 up rd al::zs):=⟨hc,rfl,rfl,by show nx + e.nw.length=nx1; have:=h6.nxt; omega,h6.ups,fun ha=>by show e.rd=rd; rw[h6.rds]; exact h7 ha,fun ha id hid=>h8 ha id (by rw[←h6.rds]; exact hid),rfl⟩
   obtain⟨τ',zm',nx',mx',ts',zs',q1,q2,q3,q4,q5,q6⟩:=ZI hr hE l (l0++[o]) l2 τ1 zm1 nx1 mx1 (⟨o,e,nx,false⟩::ts) _ h1' (by simp [h2]) hD' hg1 hc1 (by have:=h5.nx; omega) (hleft τ1 h11) h9
   exact⟨τ',zm',nx',mx',ts',zs',q1,h5.trans q2,q3,q4,q5,by rw[←hlr]; exact q6⟩
  ·obtain⟨τ1,h9,h10,h11⟩:=yX h3
   rw[zZ] at h9
   have hg1:=hg.skip hop hw hd
   have h10':tv' τ1=v8 o.dst (.tup .nl) (tv' τ):=h10
   rw[←h10'] at hg1
   have hc1:V1 (⟨o,Zl,nx,true⟩::ts) (.mk ts.length o nx nx [] [] false::zs):=⟨hc,rfl,rfl,rfl,rfl,fun _=>rfl,fun ha=>(by cases ha),rfl⟩
   rw[←hlr]
   exact ZI hr hE l (l0++[o]) l2 τ1 zm nx mx (⟨o,Zl,nx,true⟩::ts) _ h1' (by simp [h2]) hD' hg1 hc1 hlo (hleft τ1 h11) h9
omit [KGl] in
theorem qM:∀ {l:List Oper}{o:Oper},QE l=some o→l=zO l++[o]
 | [],o,h=>by cases h
 | [x],o,h=>by cases h; rfl
 | x::y::l,o,h=>by
  have h1:QE (y::l)=some o:=by
   unfold QE at h ⊢
   rw[List.getLast?_cons_cons] at h
   exact h
  have:=qM h1
  unfold zO at this ⊢
  rw[List.dropLast_cons_cons,List.cons_append,←this]
omit [KGl] in
theorem QJ {ops:Array Oper}{o:Oper}{n:Nat}(h:qK ops o n=true):(∀ k,k < n→xT ops 6 o k=true)∧∀ k,xd o k=true→k < n:=by
 obtain⟨h1,h2⟩:=zd.1 h
 constructor
 ·clear h2 h
  induction n with
  | zero=>intro k hk; omega
  | succ n ih =>
   obtain⟨h3,h4⟩:=zd.1 (show nd (@Nat.rec (fun _=>Bool) true (fun k ih=>nd ih (xT ops 6 o k)) n) (xT ops 6 o n)=true from h1)
   intro k hk
   by_cases e:k=n
   ·subst e; exact h4
   ·exact ih h3 k (by omega)
 ·intro k hk
  unfold xd at hk
  obtain⟨x,hx,hb⟩:=Array.any_eq_true'.1 hk
  simp only[Bool.and_eq_true,beq_iff_eq] at hb
  have:=Array.all_eq_true'.1 h2 x hx
  simp only[hb.1,Bool.not_true,Bool.false_or,decide_eq_true_eq] at this
  rw[←hb.2]; exact this
theorem QK {c:Code}{mask lo N:Nat}{K:K3}:∀(n:Nat),(∀ m,m < n→jn E B (zj E m))→cOk N c=true→∀(tr:KTm) (zm:KZ) (nx mx:Nat),zj E n mask lo (.loop c) tr zm nx mx K→MB (am zm) nx→lo≤nx→INV mask tr →
  ∃ e tr' zm' nx' mx' k,K e tr' zm' nx' mx'∧KFin lo zm nx mx zm' nx' mx'∧INV mask tr'∧GLoop E.P B c N e (tv' (zn tr')) (am zm') nx' mx' k (tv' (zn tr)) (am zm) nx
 | 0,_,_,tr,zm,nx,mx,h,_,_,_=>BadN.elim (n:=15) h
 | n + 1,IH,hO,tr,zm,nx,mx,h,hmb,hlo,hi=>by
  obtain⟨e,tr1,zm1,nx1,mx1,h1,h2,h3,h4⟩:=IH n (by omega) mask lo c tr zm nx mx (zlv (zj E n) mask lo (.loop c) K) N h hO hmb hlo hi
  have out:e≠.normal→K e tr1 zm1 nx1 mx1→∃ e tr' zm' nx' mx' k,K e tr' zm' nx' mx'∧KFin lo zm nx mx zm' nx' mx'∧INV mask tr'∧GLoop E.P B c N e (tv' (zn tr')) (am zm') nx' mx' k (tv' (zn tr)) (am zm) nx :=
   fun he hk=>⟨e,tr1,zm1,nx1,mx1,1,hk,h2,h3,.out h4 he h2.nx⟩
  cases e with
  | normal =>
   obtain⟨e2,tr2,zm2,nx2,mx2,k,q1,q2,q3,q4⟩:=QK n (fun m hm=>IH m (by omega)) hO tr1 zm1 nx1 mx1 h1 h2.mb (by have:=h2.nx; omega) h3
   exact⟨e2,tr2,zm2,nx2,mx2,k + 1,q1,h2.trans q2,q3,.round h4 h2.nx q2.mx q4⟩
  | exit i=>exact out (by intro h; cases h) h1
  | goto i=>exact out (by intro h; cases h) h1
  | ret=>exact out (by intro h; cases h) h1
  | panic c=>exact out (by intro h; cases h) h1
  | outgrown=>exact out (by intro h; cases h) h1
theorem ZJ (hE:KOk E) (n:Nat):jn E B (zj E n):=by
 induction n using Nat.strongRecOn with
 | _ n IH =>
 cases n with
 | zero=>intro mask lo c tr zm nx mx K N h; exact BadN.elim (n:=15) h
 | succ n =>
  have ih:=IH n (by omega)
  have same:∀ {lo nx mx:Nat}{zm:KZ},MB (am zm) nx→KFin lo zm nx mx zm nx mx:=fun h=>⟨h,Nat.le_refl _,Nat.le_refl _,fun _ _=>rfl⟩
  intro mask lo c
  cases c with
  | skip=>intro tr zm nx mx K N h _ hmb hlo hi; exact⟨.normal,tr,zm,nx,mx,h,same hmb,hi,GRuns.skip⟩
  | label l=>intro tr zm nx mx K N h _ hmb hlo hi; exact⟨.normal,tr,zm,nx,mx,h,same hmb,hi,GRuns.label⟩
  | exit i=>intro tr zm nx mx K N h _ hmb hlo hi; exact⟨.exit i,tr,zm,nx,mx,h,same hmb,hi,GRuns.exit⟩
  | ret=>intro tr zm nx mx K N h _ hmb hlo hi; exact⟨.ret,tr,zm,nx,mx,h,same hmb,hi,GRuns.ret⟩
  | region id ops draw =>
   intro tr zm nx mx K N h hO hmb hlo hi
   have hD:∀ o∈ops.toList,dOk N o.dst=true:=List.all_eq_true.1 hO
   have hl0:J6 ops.toList tr (zn tr):=fun t=>.inr rfl
   cases draw with
   | false =>
    obtain⟨τ',zm',nx',mx',h1,h2,h3,h4⟩:=WS (ops:=ops) (tr:=tr) ih hE ops.toList 0 (zn tr) zm nx mx (by simp) hD (show zay E (zj E n) ops.toList lo ops.toList (zn tr) zm nx mx (fun τ zm nx mx=>js mask τ ops.toList tr fun tr=>K .normal tr zm nx mx) from h) hmb hlo hl0
    obtain⟨tr',h5,h6,h7⟩:=Vb h1 hi h3
    exact⟨.normal,tr',zm',nx',mx',h5,h2,h6,(GReg.runs h4).imp h7 (MImp.refl _) (Nat.le_refl _) (Nat.le_refl _)⟩
   | true =>
    have std:WJ ops E (zj E n) mask lo tr zm nx mx K→∃ e tr' zm' nx' mx',K e tr' zm' nx' mx'∧KFin lo zm nx mx zm' nx' mx'∧INV mask tr'∧GRuns E.P B (.region id ops true) (tv' (zn tr)) (am zm) nx N e (tv' (zn tr')) (am zm') nx' mx':=fun h=>by
     obtain⟨hS,h0⟩:=ze (show chk (zn4 ops) 180 (ZB E (zj E n) ops.toList lo ops.toList 0 (zn tr) zm nx mx [] fun τ zm nx mx zs=>chk (XN ops zs) 181 (js mask τ ops.toList tr fun tr=>K .normal tr zm nx mx)) from h)
     obtain⟨τ',zm',nx',mx',ts,zs,h1,h2,h3,h4,h5,h6⟩:=ZI (ops:=ops) (tr:=tr) (N:=N) ih hE ops.toList [] [] (zn tr) zm nx mx [] [] (by simp) rfl hD (GTr.nil hmb) trivial hlo hl0 h0
     rw[List.nil_append] at h6
     obtain⟨h7,h8⟩:=ze h1
     obtain⟨tr',h9,h10,h11⟩:=Vb h8 hi h3
     have hdr:=j6 (ops:=ops) (tr:=ts) (by rw[h6]; exact hS)
     have hdm:=j7 (ops:=ops) h5 h7
     have hlen:ts.length=ops.size:=by have:=congrArg List.length h6; simpa using this
     exact⟨.normal,tr',zm',nx',mx',h9,h2,h10,(GTr.runs hE.mixed h4 hlen hdr.1 hdm hdr.2).imp h11 (MImp.refl _) (Nat.le_refl _) (Nat.le_refl _)⟩
    have h:zg2 ops E (zj E n) mask lo tr zm nx mx K:=h
    unfold zg2 at h
    cases hla:QE ops.toList with
    | none=>rw[hla] at h; exact std h
    | some o =>
     rw[hla] at h
     have h:@Bool.rec (fun _=>CdK) (@Option.rec Oper (fun _=>CdK) (WJ ops) (fun p=>@Bool.rec (fun _=>CdK) (WJ ops) (WL ops p o) (QF ops p o (zO (zO ops.toList)).length)) (zg1 ops.toList)) (zn5 ops o) (nd (QD o) (qK ops o (zO ops.toList).length)) E (zj E n) mask lo tr zm nx mx K:=h
     cases hlv:nd (QD o) (qK ops o (zO ops.toList).length) with
     | false =>
      rw[hlv] at h
      have h:@Option.rec Oper (fun _=>CdK) (WJ ops) (fun p=>@Bool.rec (fun _=>CdK) (WJ ops) (WL ops p o) (QF ops p o (zO (zO ops.toList)).length)) (zg1 ops.toList) E (zj E n) mask lo tr zm nx mx K:=h
      cases hpe:zg1 ops.toList with
      | none=>rw[hpe] at h; exact std h
      | some p =>
       rw[hpe] at h
       have h:@Bool.rec (fun _=>CdK) (WJ ops) (WL ops p o) (QF ops p o (zO (zO ops.toList)).length) E (zj E n) mask lo tr zm nx mx K:=h
       cases hl2:QF ops p o (zO (zO ops.toList)).length with
       | false=>rw[hl2] at h; exact std h
       | true =>
        rw[hl2] at h
        obtain⟨hS1,h0⟩:=ze (show chk (ww ops (zO (zO ops.toList)).reverse) 180 (ZB E (zj E n) ops.toList lo (zO (zO ops.toList)) 0 (zn tr) zm nx mx [] fun τ zm nx mx zs=>chk (XN ops zs) 181 (kop p.op E (zj E n) false lo τ zm nx mx fun v zm nx mx _ _ _=>y3 p.dst v τ fun τ=>kop o.op E (zj E n) false lo τ zm nx mx fun v zm nx mx _ _ _=>y3 o.dst v τ fun τ=>js mask τ ops.toList tr fun tr=>K .normal tr zm nx mx)) from h)
        unfold QF at hl2
        simp only[zd] at hl2
        obtain⟨hlp,hgo,hS2,hed,hab2⟩:=hl2
        have hsplit1:ops.toList=zO ops.toList++[o]:=qM hla
        have hsplit2:zO ops.toList=zO (zO ops.toList)++[p]:=qM (by simpa [QE,zg1,zO] using hpe)
        have hsplit:ops.toList=zO (zO ops.toList)++[p,o]:=by
         have:zO (zO ops.toList)++[p,o]=(zO (zO ops.toList)++[p])++[o]:=by simp
         rw[this,←hsplit2]; exact hsplit1
        obtain⟨τ',zm',nx',mx',ts,zs,h1,h2,h3,h4,h5,h6⟩:=ZI (ops:=ops) (tr:=tr) (N:=N) ih hE (zO (zO ops.toList)) [] [p,o] (zn tr) zm nx mx [] [] (by simpa using hsplit) rfl (fun x hx=>hD x (by rw[hsplit]; simp [hx])) (GTr.nil hmb) trivial hlo hl0 h0
        rw[List.nil_append] at h6
        obtain⟨h7,h8⟩:=ze h1
        have hts:ts.length=(zO (zO ops.toList)).length:=by have:=congrArg List.length h6; simpa using this
        have hlen:ts.length + 2=ops.size:=by
         have:=congrArg List.length hsplit
         rw[List.length_append] at this
         simp only[Array.length_toList,List.length_cons,List.length_nil] at this
         omega
        have hdr:=j6 (ops:=ops) (tr:=ts) (by rw[h6]; exact hS1)
        have hdm:=j7 (ops:=ops) h5 h7
        have hol:ops[ts.length]?=some p:=by
         rw[←Array.getElem?_toList,hsplit,hts]; simp
        have ho2:ops[ts.length + 1]?=some o:=by
         rw[←Array.getElem?_toList,hsplit,hts]; simp
        have hg:p.guard=none:=by
         unfold QD at hlp
         split at hlp
         ·assumption
         ·cases hlp
        have hg2:o.guard=none:=by
         unfold zn6 at hgo
         split at hgo
         ·assumption
         ·cases hgo
        obtain⟨hal,hab⟩:=QJ hS2
        rw[←hts] at hal hab hed hab2
        have hb2:∀ k,xd o k=true→k < ts.length + 1:=fun k hk=>by
         unfold xd at hk
         obtain⟨x,hx,hb⟩:=Array.any_eq_true'.1 hk
         simp only[Bool.and_eq_true,beq_iff_eq] at hb
         have:=Array.all_eq_true'.1 hab2 x hx
         simp only[hb.1,Bool.not_true,Bool.false_or,decide_eq_true_eq] at this
         omega
        have hw:jl (tv' τ') ops p true:=⟨fun C a N ht=>by simp [Region.wanted,hg],by unfold yq; rw[hg]; rfl⟩
        have hdp:=hD p (by rw[hsplit]; simp)
        have hdo:=hD o (by rw[hsplit]; simp)
        obtain⟨v,zm1,nx1,mx1,up,rd,al,k2,k3,k4⟩:=Ve ih hE h8 h2.mb (by have:=h2.nx; omega)
        obtain⟨τ1,k5,k6,k7⟩:=yX k2
        obtain⟨v2,zm2,nx2,mx2,up2,rd2,al2,q2,q3,q4⟩:=Ve ih hE k5 k3.mb (by have:=h2.nx; have:=k3.nx; omega)
        obtain⟨τ2,q5,q6,q7⟩:=yX q2
        have hw2:jl (v8 p.dst v.v (tv' τ')) ops o true:=⟨fun C a N ht=>by simp [Region.wanted,hg2],by unfold yq; rw[hg2]; rfl⟩
        have hleft:J6 ops.toList tr τ2:=fun t=>by
         rcases q7 t with q | q
         ·exact .inl ⟨o,by rw[hsplit]; simp,q⟩
         ·rw[q]
          rcases k7 t with q | q
          ·exact .inl ⟨p,by rw[hsplit]; simp,q⟩
          ·rw[q]; exact h3 t
        obtain⟨tr',h9,h10,h11⟩:=Vb q5 hi hleft
        rw[q6,k6] at h11
        rw[k6] at q4
        exact⟨.normal,tr',zm2,nx2,mx2,h9,(h2.trans k3).trans q3,h10,(GTr.runsLL hE.mixed h4 hlen ho2 hed hb2 hw2 hdo q4 q3.nx q3.mx hol hal hab hw hdp k4 k3.nx hdr.1 hdm hdr.2).imp h11 (MImp.refl _) (Nat.le_refl _) (Nat.le_refl _)⟩
     | true =>
      rw[hlv] at h
      obtain⟨hS,h0⟩:=ze (show chk (nd (ww ops (zO ops.toList).reverse) (qK ops o (zO ops.toList).length)) 180 (ZB E (zj E n) ops.toList lo (zO ops.toList) 0 (zn tr) zm nx mx [] fun τ zm nx mx zs=>chk (XN ops zs) 181 (kop o.op E (zj E n) false lo τ zm nx mx fun v zm nx mx _ _ _=>y3 o.dst v τ fun τ=>js mask τ ops.toList tr fun tr=>K .normal tr zm nx mx)) from h)
      obtain⟨hS1,hS2⟩:=zd.1 hS
      have hsplit:ops.toList=zO ops.toList++[o]:=qM hla
      obtain⟨τ',zm',nx',mx',ts,zs,h1,h2,h3,h4,h5,h6⟩:=ZI (ops:=ops) (tr:=tr) (N:=N) ih hE (zO ops.toList) [] [o] (zn tr) zm nx mx [] [] (by simpa using hsplit) rfl (fun x hx=>hD x (by rw[hsplit]; simp [hx])) (GTr.nil hmb) trivial hlo hl0 h0
      rw[List.nil_append] at h6
      obtain⟨h7,h8⟩:=ze h1
      have hts:ts.length=(zO ops.toList).length:=by have:=congrArg List.length h6; simpa using this
      have hlen:ts.length + 1=ops.size:=by
       have:=congrArg List.length hsplit
       rw[List.length_append] at this
       simp only[Array.length_toList,List.length_cons,List.length_nil] at this
       omega
      have hdr:=j6 (ops:=ops) (tr:=ts) (by rw[h6]; exact hS1)
      have hdm:=j7 (ops:=ops) h5 h7
      have hol:ops[ts.length]?=some o:=by
       rw[←Array.getElem?_toList,hsplit,hts]; simp
      have hlv:=(zd.1 hlv).1
      have hg:o.guard=none:=by
       unfold QD at hlv
       split at hlv
       ·assumption
       ·cases hlv
      obtain⟨hal,hab⟩:=QJ hS2
      rw[←hts] at hal hab
      have hw:jl (tv' τ') ops o true:=⟨fun C a N ht=>by simp [Region.wanted,hg],by unfold yq; rw[hg]; rfl⟩
      have hdo:=hD o (by rw[hsplit]; simp)
      obtain⟨v,zm1,nx1,mx1,up,rd,al,k2,k3,k4⟩:=Ve ih hE h8 h2.mb (by have:=h2.nx; omega)
      obtain⟨τ1,k5,k6,k7⟩:=yX k2
      have hleft:J6 ops.toList tr τ1:=fun t=>by
       rcases k7 t with q | q
       ·exact .inl ⟨o,by rw[hsplit]; simp,q⟩
       ·rw[q]; exact h3 t
      obtain⟨tr',h9,h10,h11⟩:=Vb k5 hi hleft
      rw[k6] at h11
      exact⟨.normal,tr',zm1,nx1,mx1,h9,h2.trans k3,h10,(GTr.runsL hE.mixed h4 hlen hol hal hab hw hdo k4 k3.nx hdr.1 hdm hdr.2).imp h11 (MImp.refl _) (Nat.le_refl _) (Nat.le_refl _)⟩
  | seq x y =>
   intro tr zm nx mx K N h hO hmb hlo hi
   simp only[cOk,Bool.and_eq_true] at hO
   obtain⟨e,tr1,zm1,nx1,mx1,h1,h2,h3,h4⟩:=ih mask lo x tr zm nx mx (zlv (zj E n) mask lo y K) N h hO.1 hmb hlo hi
   have out:e≠.normal→K e tr1 zm1 nx1 mx1→∃ e tr' zm' nx' mx',K e tr' zm' nx' mx'∧KFin lo zm nx mx zm' nx' mx'∧INV mask tr'∧GRuns E.P B (.seq x y) (tv' (zn tr)) (am zm) nx N e (tv' (zn tr')) (am zm') nx' mx' :=
    fun he hk=>⟨e,tr1,zm1,nx1,mx1,hk,h2,h3,GRuns.seqX he h4⟩
   cases e with
   | normal =>
    obtain⟨e2,tr2,zm2,nx2,mx2,q1,q2,q3,q4⟩:=ih mask lo y tr1 zm1 nx1 mx1 K N h1 hO.2 h2.mb (by have:=h2.nx; omega) h3
    exact⟨e2,tr2,zm2,nx2,mx2,q1,h2.trans q2,q3,GRuns.seq h4 q4 h2.nx q2.nx q2.mx⟩
   | exit i=>exact out (by intro h; cases h) h1
   | goto i=>exact out (by intro h; cases h) h1
   | ret=>exact out (by intro h; cases h) h1
   | panic c=>exact out (by intro h; cases h) h1
   | outgrown=>exact out (by intro h; cases h) h1
  | cond c x y =>
   intro tr zm nx mx K N h hO hmb hlo hi
   simp only[cOk,Bool.and_eq_true] at hO
   obtain⟨b,tr1,hb,h1,hs⟩:=zlp (show zgU c tr (fun b tr=>@Bool.rec (fun _=>Prop) (zj E n mask lo y tr zm nx mx K) (zj E n mask lo x tr zm nx mx K) b) from h)
   have hi1:INV mask tr1:=fun t ht=>by rw[hs t]; exact hi t ht
   have hts:tv' (zn tr1)=tv' (zn tr):=by funext t; show (zn tr1 t).v=(zn tr t).v; rw[hs t]
   cases b with
   | true =>
    obtain⟨e,tr',zm',nx',mx',q1,q2,q3,q4⟩:=ih mask lo x tr1 zm nx mx K N h1 hO.1 hmb hlo hi1
    rw[hts] at q4
    exact⟨e,tr',zm',nx',mx',q1,q2,q3,GRuns.cond (b:=true) hb (by simpa using q4)⟩
   | false =>
    obtain⟨e,tr',zm',nx',mx',q1,q2,q3,q4⟩:=ih mask lo y tr1 zm nx mx K N h1 hO.2 hmb hlo hi1
    rw[hts] at q4
    exact⟨e,tr',zm',nx',mx',q1,q2,q3,GRuns.cond (b:=false) hb (by simpa using q4)⟩
  | block id x =>
   intro tr zm nx mx K N h hO hmb hlo hi
   obtain⟨e,tr',zm',nx',mx',q1,q2,q3,q4⟩:=ih mask lo x tr zm nx mx (zvd id K) N h hO hmb hlo hi
   cases e with
   | exit i =>
    have q1':@Bool.rec (fun _=>Prop) (K (.exit i) tr' zm' nx' mx') (K .normal tr' zm' nx' mx') (Nat.beq i id):=q1
    cases hb:Nat.beq i id with
    | true =>
     rw[hb] at q1'
     obtain rfl:=zI hb
     exact⟨.normal,tr',zm',nx',mx',q1',q2,q3,GRuns.blockE q4⟩
    | false =>
     rw[hb] at q1'
     exact⟨.exit i,tr',zm',nx',mx',q1',q2,q3,GRuns.blockX (fun h=>by injection h with h; subst h; rw[Nat.beq_refl] at hb; cases hb) q4⟩
   | normal=>exact⟨_,tr',zm',nx',mx',q1,q2,q3,GRuns.blockX (by intro h; cases h) q4⟩
   | goto i=>exact⟨_,tr',zm',nx',mx',q1,q2,q3,GRuns.blockX (by intro h; cases h) q4⟩
   | ret=>exact⟨_,tr',zm',nx',mx',q1,q2,q3,GRuns.blockX (by intro h; cases h) q4⟩
   | panic c=>exact⟨_,tr',zm',nx',mx',q1,q2,q3,GRuns.blockX (by intro h; cases h) q4⟩
   | outgrown=>exact⟨_,tr',zm',nx',mx',q1,q2,q3,GRuns.blockX (by intro h; cases h) q4⟩
  | scope x =>
   intro tr zm nx mx K N h hO hmb hlo hi
   obtain⟨e,tr',zm',nx',mx',q1,q2,q3,q4⟩:=ih mask lo x tr zm nx mx (zg0 K) N h hO hmb hlo hi
   cases e with
   | goto i=>exact BadN.elim (n:=11) q1
   | normal=>exact⟨_,tr',zm',nx',mx',q1,q2,q3,GRuns.scope (by intro i h; cases h) q4⟩
   | exit i=>exact⟨_,tr',zm',nx',mx',q1,q2,q3,GRuns.scope (by intro i h; cases h) q4⟩
   | ret=>exact⟨_,tr',zm',nx',mx',q1,q2,q3,GRuns.scope (by intro i h; cases h) q4⟩
   | panic c=>exact⟨_,tr',zm',nx',mx',q1,q2,q3,GRuns.scope (by intro i h; cases h) q4⟩
   | outgrown=>exact⟨_,tr',zm',nx',mx',q1,q2,q3,GRuns.scope (by intro i h; cases h) q4⟩
  | loop x =>
   intro tr zm nx mx K N h hO hmb hlo hi
   obtain⟨e,tr',zm',nx',mx',k,q1,q2,q3,q4⟩:=QK (c:=x) (n + 1) IH (show cOk N x=true from hO) tr zm nx mx h hmb hlo hi
   exact⟨e,tr',zm',nx',mx',q1,q2,q3,q4.runs⟩
  | rangeFunc f ps x y =>
   intro tr zm nx mx K N h hO hmb hlo hi
   obtain⟨gf,caps,hf,h1⟩:=(wG (show zaQ (zu8 E (zj E n) mask lo ps x y tr zm nx mx K) (BadN 12) (kev (zn tr) f) from h)).resolve_right fun h=>(show BadN 12 from h.2).elim
   obtain⟨hlt,h1⟩:=ze h1
   rw[Nat.blt_eq] at hlt
   obtain⟨cs,h2,h3⟩:=WX caps _ h1
   rw[xz,zU] at h2
   have hmb1:MB (am (set (some (⟨.lp mask ps x y,.nl,.cons .nl (.ar 0 .unk (zlu tr))⟩:KBlk)) (enc nx) zm)) (nx + 2):=fun i hi=>by
    rw[w6,zf _ _ (by omega)]; exact hmb i (by omega)
   obtain⟨⟨fn,q1,q2,q3⟩,v,zm2,nx2,mx2,q4,q5,q6⟩:=vY (B:=B) ih hE h2 hmb1 (show lo≤nx + 2 by omega)
   obtain⟨kd,sh,v2,hb,h5⟩:=xL q4
   have hn2:=q5.nx
   cases kd with
   | box=>exact (show BadN 202 from h5).elim
   | row e=>exact (show BadN 202 from h5).elim
   | dead=>exact (show BadN 202 from h5).elim
   | mp=>exact (show BadN 202 from h5).elim
   | lp mask' ps' x' y' =>
    obtain⟨st,w,rfl,h6⟩:=(xh h5).resolve_right fun h=>(show BadN 203 from h.2).elim
    obtain⟨e,h7,h8⟩:=zvw h6
    rw[xz] at h7
    have hτ:tv' (zn tr)=fun i=>(zlu tr).atv (enc i) .unk:=by funext i; exact (zqO (enc i) tr).symm
    refine⟨e,tr,_,nx2,mx2,h7,⟨fun i hi=>?_,Nat.le_trans (Nat.le_add_right nx 2) hn2,q5.mx,fun i hi=>?_⟩,hi,?_⟩
    ·rw[w5]
     by_cases e1:i=nx
     ·subst e1; rw[zp]
     ·rw[zf _ _ e1]; exact q5.mb i hi
    ·rw[w5,zf _ _ (by omega),q5.low i hi,w6,zf _ _ (by omega)]
    ·rw[w5]
     rw[w6] at q6
     refine GRuns.range (k0:=0) (mask:=mask) (sh:=.nl) (v:=v.v) (by rw[←zK,hf]; rfl) hlt q1 q2 q3 (fun t ht=>hi t ht) hO hmb ?_ hn2 (st:=st.v) (τ':=w.v) (zJ hb) h8
     rw[hτ]
     have hl:(KV.yld nx::cs).map KV.v=V.yld nx::unL caps.v:=by rw[List.map_cons,h3]; rfl
     rw[hl] at q6
     exact q6
  | goto l=>intro tr zm nx mx K N h; exact BadN.elim (n:=13) h
  | refuse w=>intro tr zm nx mx K N h; exact BadN.elim (n:=14) h
end
end
end Go.K
namespace Go.K
open Go.Ab Go.RowKit Go.Y
noncomputable section
variable [KGl]
theorem zlq {E:KEnv}(hE:KOk E) {n fid:Nat}{args:List KV}{v:KV}(h:zi E (zj E n) 0 fid args .e 0 0 fun r _ _ _=>tK (kvb r v)) (hv:zA v.v=true) :
  xX E.P fid { pre:=fun l=>@decide (l=args.map KV.v) (Classical.propDecidable _),res:=fun _=>v.v,fresh:=true }:=by
 have hme:MB (am (.e:KZ)) 0:=by rw[J8]; exact qg 0
 refine⟨(vY (B:=0) (ZJ hE n) hE h hme (Nat.le_refl 0)).1,fun C l vals hok hg hargs hpre=>?_⟩
 have hl:l=args.map KV.v:=@of_decide_eq_true _ (Classical.propDecidable _) hpre
 subst hl
 obtain⟨_,r,zm',nx',mx',h1,h2,h3⟩:=vY (B:=C.w.heap.size) (ZJ hE n) hE h hme (Nat.le_refl 0)
 obtain rfl:=vC (yg h1)
 have hz:GR C.w.heap.size (nx' + mx') C.pur (fun _=>none) (am .e) 0 :=
  ⟨⟨Nat.le_refl _,hok,(fun _ _ h=>(by cases h)),(fun _ _ h=>(by cases h)),(fun _ _ _ _ _ h=>(by cases h)),(fun _ _ _ h=>(by cases h)),hg⟩,(fun id b hb=>by rw[J8] at hb; cases hb),fun _ _ _ h=>h⟩
 refine (h3 (nx' + mx') C.pur (fun _=>none) vals (by omega) (by omega) hz hargs).mono ?_
 rintro e w' ⟨val,he,C',M',hw,hR,_,hc⟩
 subst hw
 exact⟨hc.kp.below,val,he,R.noref _ hv hR⟩
def yY (args:List KV) (v:KV):zh:=fun l K=>chk (WW l args) 190 (K v)
theorem WE {E:KEnv}(hE:KOk E) {n fid:Nat}{args:List KV}{v:KV}(h:zi E (zj E n) 0 fid args .e 0 0 fun r _ _ _=>tK (kvb r v)) (hv:zA v.v=true) (hn:vJ (mkL (args.map KV.v))=true):KCS E.P fid (yY args v):=by
 have hc:=zlq hE h hv
 refine⟨hc.1,fun l K hs=>?_⟩
 obtain⟨h1,h2⟩:=ze hs
 obtain rfl:=zhv h1
 refine⟨v,h2,fun B μ nx mx l0 hl0=>?_⟩
 have hu:unL (mkL (l.map KV.v))=l.map KV.v:=by
  generalize l.map KV.v=r
  induction r with
  | nil=>rfl
  | cons x r ih=>show x::unL (mkL r)=_; rw[ih]
 have:=vd (B:=B) (μ:=μ) (nx:=nx) (mx:=mx) hE.gn hc rfl hl0 (by rw[hu]; exact @decide_eq_true _ (Classical.propDecidable _) rfl)
 rw[hu] at this
 exact this
section
variable {E:KEnv}{B N mask:Nat}
variable {c:Code}{tr:KTm}{zm:KZ}{nx:Nat}{Q:Exit→KTm→KZ→Nat→Prop}
def vj:List (Nat×KV)→KTm
 | []=>.e
 | (t,v)::l=>set v (enc t) (vj l)
def vK:List (Nat×KBlk)→KZ
 | []=>.e
 | (id,b)::l=>set (some b) (enc id) (vK l)
omit [KGl] in
theorem Vc {t:Nat}:∀ {l:List (Nat×KV)},zn (vj l) t=.unk∨∃ v,(t,v)∈l∧zn (vj l) t=v
 | []=>.inl (zbM t)
 | (d,v)::l=>by
  rw[show vj ((d,v)::l)=set v (enc d) (vj l) from rfl,jQ]
  by_cases h:t=d
  ·rw[if_pos h]; subst h; exact .inr ⟨v,by simp,rfl⟩
  ·rw[if_neg h]
   rcases Vc (t:=t) (l:=l) with h1 | ⟨w,h1,h2⟩
   ·exact .inl h1
   ·exact .inr ⟨w,by simp [h1],h2⟩
omit [KGl] in
theorem zar {id:Nat}:∀ {l:List (Nat×KBlk)},kb (vK l) id=none∨∃ b,(id,b)∈l∧kb (vK l) id=some b
 | []=>.inl (by unfold kb vK; exact XL _ _)
 | (d,v)::l=>by
  rw[show vK ((d,v)::l)=set (some v) (enc d) (vK l) from rfl,WM]
  by_cases h:id=d
  ·rw[if_pos h]; subst h; exact .inr ⟨v,by simp,rfl⟩
  ·rw[if_neg h]
   rcases zar (id:=id) (l:=l) with h1 | ⟨w,h1,h2⟩
   ·exact .inl h1
   ·exact .inr ⟨w,by simp [h1],h2⟩
def jR (mask:Nat):List (Nat×KV)→Bool
 | []=>true
 | (t,_)::l=>nd (xP mask t) (jR mask l)
omit [KGl] in
theorem zds {mask:Nat}:∀ {l:List (Nat×KV)},jR mask l=true→∀ t v,(t,v)∈l→xP mask t=true
 | [],_,t,v,hm=>by cases hm
 | (d,w)::l,h,t,v,hm=>by
  obtain⟨h1,h2⟩:=zd.1 (show nd (xP mask d) (jR mask l)=true from h)
  rcases List.mem_cons.1 hm with h3 | h3
  ·cases h3; exact h1
  ·exact zds h2 t v h3
omit [KGl] in
theorem INV.mk {lt:List (Nat×KV)}(h:jR mask lt=true):INV mask (vj lt):=fun t ht=>by
 rcases Vc (t:=t) (l:=lt) with h1 | ⟨v,h1,_⟩
 ·rw[h1]; rfl
 ·rw[zds h t v h1] at ht; cases ht
def ltL (n:Nat):List (Nat×KBlk)→Bool
 | []=>true
 | (id,_)::l=>nd (Nat.blt id n) (ltL n l)
omit [KGl] in
theorem znY {n:Nat}:∀ {l:List (Nat×KBlk)},ltL n l=true→∀ id b,(id,b)∈l→id < n
 | [],_,t,v,hm=>by cases hm
 | (d,w)::l,h,t,v,hm=>by
  obtain⟨h1,h2⟩:=zd.1 (show nd (Nat.blt d n) (ltL n l)=true from h)
  rcases List.mem_cons.1 hm with h3 | h3
  ·cases h3; exact xZ.1 h1
  ·exact znY h2 t v h3
omit [KGl] in
theorem MB.mk {lz:List (Nat×KBlk)}{n:Nat}(h:ltL n lz=true):MB (am (vK lz)) n:=fun id hid=>by
 unfold am
 rcases zar (id:=id) (l:=lz) with h1 | ⟨b,h1,_⟩
 ·rw[h1]; rfl
 ·have:=znY h id b h1; omega
end
end
end Go.K
namespace Go.K
open Go.Ab Go.RowKit Go.Y
noncomputable section
def blB:Code→Code
 | .block _ b=>b
 | c=>c
def lpB:Code→Code
 | .loop b=>b
 | c=>c
variable [KGl]
def zG (P:Nat→Prop):Nat→Prop
 | 0=>True
 | n + 1=>zG P n∧P n
omit [KGl] in
theorem zas {P:Nat→Prop}:∀ {n:Nat},zG P n→∀ t,t < n→P t
 | 0,_,t,h=>by omega
 | n + 1,h,t,ht=>by
  rcases Nat.lt_or_ge t n with h1 | h1
  ·exact zas h.1 t h1
  ·obtain rfl:t=n:=by omega
   exact h.2
theorem zdt {P:Program}{fid:FuncId}{args:Nat→List KV}{v:Nat→KV}{N:Nat}{s:zh}(hN:0 < N) (h:∀ n,n < N→KCS P fid (yY (args n) (v n))) (hr:∀ n,n < N→WW (args n) (args n)=true)
  (hs:∀(l:List KV) (K:KV→Prop),s l K→∃ n,n < N∧l=args n∧K (v n)):KCS P fid s:=by
 refine⟨(h 0 hN).1,fun l K hk=>?_⟩
 obtain⟨n,hn,rfl,hK⟩:=hs l K hk
 obtain⟨w,h1,h2⟩:=(h n hn).2 (args n) (fun x=>x=v n) (by
  show chk (WW (args n) (args n)) 190 (v n=v n)
  rw[hr n hn]
  rfl)
 subst h1
 exact⟨_,hK,h2⟩
omit [KGl] in
theorem zlr (n:Nat):WW [.int .u8 (.ofNat n)] [.int .u8 (.ofNat n)]=true:=by
 show nd (nd (xa .u8 .u8) (Nat.beq n n)) true=true
 rw[Nat.beq_refl]; rfl
omit [KGl] in
theorem zfr (m n:Nat):WW [.int .u8 (.ofNat m),.int .u8 (.ofNat n)] [.int .u8 (.ofNat m),.int .u8 (.ofNat n)]=true:=by
 show nd (nd (xa .u8 .u8) (Nat.beq m m)) (nd (nd (xa .u8 .u8) (Nat.beq n n)) true)=true
 rw[Nat.beq_refl,Nat.beq_refl]; rfl
def zdu (x:KV) (f:Nat→Prop):Prop:=z8 (fun k a=>chk (xa k .u8) 253 (@Int.rec (fun _=>Prop) (fun n=>chk (Nat.blt n 256) 254 (f n)) (fun _=>BadN 255) a)) (BadN 256) x
omit [KGl] in
theorem WF {x:KV}{f:Nat→Prop}(h:zdu x f):∃ n,n < 256∧x=.int .u8 (.ofNat n)∧f n:=by
 rcases zz h with ⟨k,a,rfl,h1⟩ | ⟨_,h1⟩
 ·obtain⟨h2,h3⟩:=ze h1
  obtain rfl:=zD h2
  cases a with
  | ofNat n =>
   obtain⟨h4,h5⟩:=ze (show chk (Nat.blt n 256) 254 (f n) from h3)
   rw[Nat.blt_eq] at h4
   exact⟨n,h4,rfl,h5⟩
  | negSucc n=>exact (show BadN 255 from h3).elim
 ·exact h1.elim
def la1 (l:List KV) (f:KV→Prop):Prop:=match l with
 | [x]=>f x
 | _=>BadN 257
omit [KGl] in
theorem j3 {l:List KV}{f:KV→Prop}(h:la1 l f):∃ x,l=[x]∧f x:=by
 unfold la1 at h
 split at h
 ·exact⟨_,rfl,h⟩
 ·exact h.elim
def zgQ (T:Nat):zh:=fun l K=>la1 l fun x=>zdu x fun n=>zW (pkr .u8 T n) fun r=>K (.int .u8 (.ofNat r))
theorem zls {P:Program}{fid:FuncId}{T:Nat}(h:∀ n,n < 256→KCS P fid (yY [.int .u8 (.ofNat n)] (.int .u8 (.ofNat (pkr .u8 T n))))):KCS P fid (zgQ T) :=
 zdt (args:=fun n=>[.int .u8 (.ofNat n)]) (v:=fun n=>.int .u8 (.ofNat (pkr .u8 T n))) (N:=256) (by decide) h (fun n _=>zlr n) fun l K hk=>by
  obtain⟨x,rfl,h1⟩:=j3 hk
  obtain⟨n,hn,rfl,h2⟩:=WF h1
  rw[zZ] at h2
  exact⟨n,hn,rfl,h2⟩
omit [KGl] in
theorem zqn (m n:Nat):WW [.int .u8 (.ofNat m),.int .u8 (.ofNat n)] [.int .u8 (.ofNat m),.int .u8 (.ofNat n)]=true:=zfr m n
def lb2 (l:List KV) (f:KV→KV→Prop):Prop:=match l with
 | [x,y]=>f x y
 | _=>BadN 258
omit [KGl] in
theorem zgR {l:List KV}{f:KV→KV→Prop}(h:lb2 l f):∃ x y,l=[x,y]∧f x y:=by
 unfold lb2 at h
 split at h
 ·exact⟨_,_,rfl,h⟩
 ·exact h.elim
def znZ (M T:Nat):zh:=fun l K=>lb2 l fun x y=>zdu x fun a=>zdu y fun b=>chk (Nat.blt a M) 259 (zW (pkr .u8 T (Nat.add (Nat.mul 256 a) b)) fun r=>K (.int .u8 (.ofNat r)))
theorem zlt {P:Program}{fid:FuncId}{M T:Nat}(hM:0 < M) (h:∀ n,n < M * 256→KCS P fid (yY [.int .u8 (.ofNat (n / 256)),.int .u8 (.ofNat (n % 256))] (.int .u8 (.ofNat (pkr .u8 T n))))):KCS P fid (znZ M T) :=
 zdt (args:=fun n=>[.int .u8 (.ofNat (n / 256)),.int .u8 (.ofNat (n % 256))]) (v:=fun n=>.int .u8 (.ofNat (pkr .u8 T n))) (N:=M * 256) (by omega) h (fun n _=>zqn _ _) fun l K hk=>by
  obtain⟨x,y,rfl,h1⟩:=zgR hk
  obtain⟨a,ha,rfl,h2⟩:=WF h1
  obtain⟨b,hb,rfl,h3⟩:=WF h2
  obtain⟨h4,h5⟩:=ze h3
  rw[Nat.blt_eq] at h4
  rw[zZ] at h5
  refine⟨256 * a + b,?_,?_,h5⟩
  ·have:(a + 1) * 256≤M * 256:=Nat.mul_le_mul_right _ h4
   omega
  ·rw[show (256 * a + b) / 256=a by omega,show (256 * a + b) % 256=b by omega]
end
end Go.K
namespace Go.K
open Go.Ab Go.RowKit Go.Y
noncomputable section
def frC (br:Bool) (C:Ctx) (B:Nat):Ctx:={ C.pur with ok:=fun u b=>(br=true∧u=true∧C.ok true b)∨(B≤b∧b < C.w.heap.size) }
section
variable [Gl] {br:Bool}{B:Nat}{C:Ctx}{M:Mem}
theorem R.row_fr (hs:SR B C M) {id n:Nat}{e:Shape}{blk:Blk}{n1:Nat}{f g:Nat→V}{md:Ab.M}{u:Bool}(hM:M id=some blk) (ha:blk.alive=true) (hv:blk.v=.arr n1 f)
  (hg:∀ i,i < n→∀ md,R C (f i) md→R (frC br C B) (g i) md) (hr:R C (.row id e n) md):R (frC br C B) (.ro u false e n g) md:=by
 obtain⟨hal,⟨a,c,h1⟩,h2,h3⟩:=hr
 have hbr:=hs.mem id blk hM
 unfold BR at hbr; unfold Blk.alive at ha
 cases hkd:blk.k<;>simp only[hkd] at hbr ha
 ·obtain⟨g,cur,e',h4,_⟩:=hbr; rw[h1] at h4; cases h4
 ·obtain⟨n2,s2,cells,h4,h5,h6,h7⟩:=hbr
  rw[h4,h5] at h2
  simp only[Shape.arr.injEq] at h2
  obtain⟨rfl,rfl⟩:=h2
  refine⟨a,c,by rw[←h1]; exact h3,?_,(by intro hc; cases hc),?_⟩
  ·rcases h6.2 with ⟨h8,h9⟩ | ⟨g,cap,cur,hv',hg,hh,hnc,_⟩
   ·rw[h1] at h8; cases h8; omega
   ·rw[h1] at hv'; cases hv'; exact hnc
  ·rcases h6.2 with ⟨h8,h9⟩ | ⟨q,cap,cur,hv',hq,hh,hnc,_,hcs,htake⟩
   ·exact .inl h9
   ·right
    rw[h1] at hv'
    simp only[Value.slice.injEq] at hv'
    obtain⟨rfl,_,rfl⟩:=hv'
    refine⟨q,0,rfl,.inr ⟨hq,(Array.getElem?_eq_some_iff.1 hh).1⟩,fun i hi=>?_⟩
    have hb':xl (C.sv id)=some q:=by rw[h1]; rfl
    have hpa:Shape.path [.idx i] (C.shp id)=some (0 + i * s2.size,s2):=by rw[h4,h5]; simp [Shape.path,Shape.step,hi]
    obtain⟨h10,_⟩:=BR.at (hs.mem id blk hM) (by unfold Blk.alive; rw[hkd]) hb' hpa
    rw[hv] at h10
    have h11:R C (f i) (.cel s2 (cg C.w q) (0 + i * s2.size)):=by simpa [V.path,V.step] using h10
    exact hg i hi _ h11
 ·simp at ha
 ·simp at ha
 ·simp at ha
theorem R.sl_fr (hs:SR B C M) {id off len:Nat}{p:List Step}{cap:Option Nat}{e:Shape}{blk:Blk}{n1:Nat}{f g:Nat→V}{md:Ab.M}{u:Bool}(hM:M id=some blk) (ha:blk.alive=true) (hv:blk.v.path p=.arr n1 f)
  (hg:∀ i,i < len→∀ md,R C (f (off + i)) md→R (frC br C B) (g i) md) (hr:R C (.sl id p e off len cap) md):R (frC br C B) (.ro u (Y0 cap len) e len g) md:=by
 obtain⟨hal,ad,c,o1,n2,h3,h4,h5,h2,h8,h6⟩:=hr
 refine⟨ad,c,h3,h4,(fun hc=>h5 _ (zac hc)),h6.imp (fun h=>by omega) ?_⟩
 rintro⟨b,h1,h6⟩
 obtain⟨h7,_⟩:=BR.at (hs.mem id blk hM) ha h1 h2
 rw[hv] at h7
 obtain⟨e',q1,h9⟩:=h7
 simp only[Shape.arr.injEq] at q1
 obtain⟨rfl,rfl⟩:=q1
 refine⟨b,o1 + off * e.size,h6,.inr (hs.lt hM (Blk.lv ha) (vz h1)),fun i hi=>?_⟩
 have h10:R C (f (off + i)) (.cel e (cg C.w b) (o1 + off * e.size + i * e.size)):=by rw[Nat.add_assoc,←Nat.add_mul]; exact h9 (off + i) (by omega)
 exact hg i hi _ h10
theorem R.ptr_fr (hs:SR B C M) {id:Nat}{p:List Step}{s:Shape}{blk:Blk}{g:V}{md:Ab.M}{u:Bool}(hM:M id=some blk) (ha:blk.alive=true)
  (hg:∀ md,R C (blk.v.path p) md→R (frC br C B) g md) (hr:R C (.ptr id p s) md):R (frC br C B) (.ref u s g) md:=by
 obtain⟨hal,b,off,h1,h2,h3⟩:=hr
 obtain⟨h7,_⟩:=BR.at (hs.mem id blk hM) ha h1 h2
 have hlt:=hs.lt hM (Blk.lv ha) (vz h1)
 exact⟨b,off,h3,.inr hlt,hg _ h7⟩
omit [Gl] in
theorem R.cons_map {D:Ctx}{a b a' b':V}(h1:∀ m,R C a m→R D a' m) (h2:∀ m,R C b m→R D b' m) {m:Ab.M}(h:R C (.cons a b) m):R D (.cons a' b') m:=by
 cases m with
 | cel s g off=>obtain⟨a,b,q1,q2,q3⟩:=h; exact⟨a,b,q1,h1 _ q2,h2 _ q3⟩
 | val v=>obtain⟨cs,a,b,q1,q2,q3,q4⟩:=h; exact⟨cs,a,b,q1,q2,h1 _ q3,h2 _ q4⟩
 | list l=>obtain⟨y,ys,q1,q2,q3⟩:=h; exact⟨y,ys,q1,h1 _ q2,h2 _ q3⟩
omit [Gl] in
theorem R.arr_map {D:Ctx}{n:Nat}{f g:Nat→V}(h1:∀ i,i < n→∀ m,R C (f i) m→R D (g i) m) {m:Ab.M}(h:R C (.arr n f) m):R D (.arr n g) m:=by
 cases m with
 | cel s g off=>obtain⟨e,q1,q2⟩:=h; exact⟨e,q1,fun i hi=>h1 i hi _ (q2 i hi)⟩
 | val v=>obtain⟨cs,e,q1,q2,q3⟩:=h; exact⟨cs,e,q1,q2,fun i hi=>h1 i hi _ (q3 i hi)⟩
 | list l=>exact h
omit [Gl] in
theorem R.tup_map {D:Ctx}{a a':V}(h1:∀ m,R C a m→R D a' m) {m:Ab.M}(h:R C (.tup a) m):R D (.tup a') m:=by
 cases m with
 | val v=>obtain⟨cs,q1,q2⟩:=h; exact⟨cs,q1,h1 _ q2⟩
 | cel=>exact h
 | list=>exact h
end
variable [KGl]
def ubK (v:KV):Bool:=@KV.rec (fun _=>Bool) (fun x0 x1=>true) (fun x0=>true) (fun x0 x1=>true) (true) (fun x0 x1 r0 r1=>nd r0 r1) (fun x0 x1 x2=>true) (fun x0 x1 x2 r0 r1=>nd r0 r1) (true) (fun x0 x1 x2 x3 r0 r1 r2 r3=>nd r0 (nd r1 (nd r2 r3))) (fun x0 x1 x2 x3 x4 r0 r1 r2 r3 r4=>nd r0 (nd r1 (nd r2 (nd r3 r4)))) (fun x0 x1 x2=>false) (fun x0 x1 x2=>false) (fun x0 x1 x2 x3 x4 x5=>false) (fun x0 x1 x2 r0=>nd x0 r0) (true) (true) (true) (fun x0 x1 x2 x3 x4 x5 r0=>nd x0 r0) (fun x0 x1 r0=>nd (Nat.blt x0 8589934592) r0) (fun x0 r0=>r0) (true) (fun x0=>false) (fun x0 x1 r=>zdY r) (fun _ _=>false) v
def FzR (br:Bool) (B:Nat) (C:Ctx) (x y:V):Prop:=∀ m,R C x m→R (frC br C B) y m
def allT:V→Prop
 | .ptr .. | .row .. | .sl .. | .yld _=>False
 | .ref u _ c=>u=true∧allT c
 | .ro u _ _ len f=>u=true∧∀ i,i < len→allT (f i)
 | .cons a b=>allT a∧allT b
 | .arr k f=>∀ i,i < k→allT (f i)
 | .fn f c=>f < 8589934592∧allT c
 | .tup l=>allT l
 | _=>True
omit [KGl] in
theorem R.allT (v:V):∀ {C D:Ctx}{m:Ab.M},Go.K.allT v→(∀ b,C.ok true b→D.ok true b)→D.w=C.w→R C v m→R D v m:=by
 induction v with
 | cons x t ih1 ih2 =>
  intro C D m hl ho hw h
  cases m with
  | cel s g off=>obtain⟨a,b,h1,h2,h3⟩:=h; exact⟨a,b,h1,ih1 hl.1 ho hw h2,ih2 hl.2 ho hw h3⟩
  | val v=>obtain⟨cs,a,b,h1,h2,h3,h4⟩:=h; exact⟨cs,a,b,h1,h2,ih1 hl.1 ho hw h3,ih2 hl.2 ho hw h4⟩
  | list l=>obtain⟨y,ys,h1,h2,h3⟩:=h; exact⟨y,ys,h1,ih1 hl.1 ho hw h2,ih2 hl.2 ho hw h3⟩
 | arr n f ih =>
  intro C D m hl ho hw h
  cases m with
  | cel s g off=>obtain⟨e,h1,h2⟩:=h; exact⟨e,h1,fun i hi=>ih i (hl i hi) ho hw (h2 i hi)⟩
  | val v=>obtain⟨cs,e,h1,h2,h3⟩:=h; exact⟨cs,e,h1,h2,fun i hi=>ih i (hl i hi) ho hw (h3 i hi)⟩
  | list l=>exact h
 | ref u s c ih =>
  intro C D m hl ho hw h
  obtain⟨rfl,hl⟩:=hl
  obtain⟨b,o,h1,h2,h3⟩:=h
  exact⟨b,o,h1,ho _ h2,by rw[hw]; exact ih (C:=C.pur) (D:=D.pur) hl ho hw h3⟩
 | ro u clip e len f ih =>
  intro C D m hl ho hw h
  obtain⟨rfl,hl⟩:=hl
  obtain⟨a,c,h1,h2,h3,h4⟩:=h
  refine⟨a,c,h1,h2,h3,h4.imp id ?_⟩
  rintro⟨b,o,h5,h6,h7⟩
  exact⟨b,o,h5,ho _ h6,fun i hi=>by rw[hw]; exact ih i (C:=C.pur) (D:=D.pur) (hl i hi) ho hw (h7 i hi)⟩
 | fn f c ih=>intro C D m hl ho hw h; obtain⟨cs,h1,h2,h3⟩:=h; exact⟨cs,by rw[cs.vw_lt hl.1] at h1 ⊢; exact h1,ih hl.2 ho hw h2,.lt hl.1⟩
 | tup l ih =>
  intro C D m hl ho hw h
  cases m with
  | val v=>obtain⟨cs,h1,h2⟩:=h; exact⟨cs,h1,ih hl ho hw h2⟩
  | cel=>exact h
  | list=>exact h
 | nl=>intro C D m _ ho hw h; cases m<;>exact h
 | unk=>intro C D m _ ho hw h; cases m<;>exact h
 | ptr=>intro C D m hl; exact hl.elim
 | row=>intro C D m hl; exact hl.elim
 | sl=>intro C D m hl; exact hl.elim
 | yld=>intro C D m hl; exact hl.elim
 | _=>intro C D m _ ho hw h; exact h
omit [KGl] in
theorem zvQ (v:KV):ubK v=true→Go.K.allT v.v∧(∀(p:Pth) (z:V),Go.K.allT z→Go.K.allT (v.atv p z))∧∀ i,Go.K.allT (v.v.step (.idx i)):=by
 induction v with
 | cons a b ih1 ih2 =>
  intro h
  obtain⟨h1,h2⟩:=zd.1 (show nd (ubK a) (ubK b)=true from h)
  exact⟨⟨(ih1 h1).1,(ih2 h2).1⟩,fun p z hz=>hz,fun i=>trivial⟩
 | ar m d t ih1 ih2 =>
  intro h
  obtain⟨h1,h2⟩:=zd.1 (show nd (ubK d) (ubK t)=true from h)
  exact⟨fun i _=>(ih2 h2).2.1 _ _ (ih1 h1).1,fun p z hz=>hz,fun i=>(ih2 h2).2.1 _ _ (ih1 h1).1⟩
 | tb a b c d ih1 ih2 ih3 ih4 =>
  intro h
  have h0:nd (ubK a) (nd (ubK b) (nd (ubK c) (ubK d)))=true:=h
  simp only[zd] at h0
  refine⟨trivial,fun p z hz=>?_,fun i=>trivial⟩
  cases p with
  | nil=>exact hz
  | cons g p =>
   cases g
   ·exact (ih1 h0.1).2.1 p z hz
   ·exact (ih2 h0.2.1).2.1 p z hz
   ·exact (ih3 h0.2.2.1).2.1 p z hz
   ·exact (ih4 h0.2.2.2).2.1 p z hz
 | tn x a b c d ih0 ih1 ih2 ih3 ih4 =>
  intro h
  have h0:nd (ubK x) (nd (ubK a) (nd (ubK b) (nd (ubK c) (ubK d))))=true:=h
  simp only[zd] at h0
  refine⟨trivial,fun p z hz=>?_,fun i=>trivial⟩
  cases p with
  | nil=>exact (ih0 h0.1).1
  | cons g p =>
   cases g
   ·exact (ih1 h0.2.1).2.1 p z hz
   ·exact (ih2 h0.2.2.1).2.1 p z hz
   ·exact (ih3 h0.2.2.2.1).2.1 p z hz
   ·exact (ih4 h0.2.2.2.2).2.1 p z hz
 | ptr id p s=>intro h; cases h
 | row id s k=>intro h; cases h
 | sl id p s off len cap=>intro h; cases h
 | yld id=>intro h; cases h
 | fn f c ih=>intro h; obtain⟨h1,h2⟩:=zd.1 (show nd (Nat.blt f 8589934592) (ubK c)=true from h); exact⟨⟨xZ.1 h1,(ih h2).1⟩,fun p z hz=>hz,fun i=>trivial⟩
 | tup l ih=>intro h; exact⟨(ih h).1,fun p z hz=>hz,fun i=>trivial⟩
 | ref u s c ih=>intro h; obtain⟨h1,h2⟩:=zd.1 (show nd u (ubK c)=true from h); exact⟨⟨h1,(ih h2).1⟩,fun p z hz=>hz,fun i=>trivial⟩
 | ro u cl e off len c ih =>
  intro h
  obtain⟨h1,h2⟩:=zd.1 (show nd u (ubK c)=true from h)
  refine⟨⟨h1,fun i _=>?_⟩,fun p z hz=>hz,fun i=>trivial⟩
  exact (ih h2).2.2 _
 | pk k m x=>intro h; exact⟨fun i _=>trivial,fun p z hz=>hz,fun i=>trivial⟩
 | clo x ih=>intro h; cases h
 | fa m f ih=>intro h; exact⟨fun i _=>(ih i (Xz.1 (show zdY (fun i=>ubK (f i))=true from h) i)).1,fun p z hz=>hz,fun i=>(ih i (Xz.1 (show zdY (fun i=>ubK (f i))=true from h) i)).1⟩
 | _=>intro h; exact⟨trivial,fun p z hz=>hz,fun i=>trivial⟩
omit [KGl] in
theorem R.allT_fr {B:Nat}{C:Ctx}{v:KV}(h:ubK v=true):FzR true B C v.v v.v:=fun m hr=>R.allT v.v (zvQ v h).1 (fun b hb=>.inl ⟨rfl,rfl,hb⟩) rfl hr
omit [KGl] in
theorem XR {C D:Ctx}{m:Ab.M}{x:Value}(h:m.leaf x) (ho:x.oneCell'=true):R D .unk m:=by
 cases m with
 | cel s g off=>exact⟨h.1,x,h.2,ho⟩
 | val v=>trivial
 | list l=>exact h.elim
omit [KGl] in
theorem wF (l:List V):unL (mkL l)=l:=by
 induction l with
 | nil=>rfl
 | cons x r ih=>show x::unL (mkL r)=_; rw[ih]
theorem xm {P:Program}{fid:FuncId}{s:zh}(hf:∃ fn,P.funcs[fid]?=some fn∧(fn.name == "runtime.NumGoroutine")=false∧fn.body.isNone=false)
  (h:∀ l K,s l K→∃ E:KEnv,KOk E∧E.P=P∧∃(n:Nat) (Q:KV→Prop) (w:KV),K w∧zA w.v=true∧(∀ r:KV,Q r→Imp r.v w.v)∧zi E (zj E n) 0 fid l .e 0 0 fun r _ _ _=>Q r):KCS P fid s:=by
 refine⟨hf,fun l K hs=>?_⟩
 obtain⟨E,hE,rfl,n,Q,w,h1,h2,h3,h4⟩:=h l K hs
 have hc:xX E.P fid { pre:=fun l'=>@decide (l'=l.map KV.v) (Classical.propDecidable _),res:=fun _=>w.v,fresh:=true }:=by
  have hme:MB (am (.e:KZ)) 0:=by rw[J8]; exact qg 0
  refine⟨hf,fun C l' vals hok hg hargs hpre=>?_⟩
  have hl:l'=l.map KV.v:=@of_decide_eq_true _ (Classical.propDecidable _) hpre
  subst hl
  obtain⟨_,r,zm',nx',mx',q1,q2,q3⟩:=vY (B:=C.w.heap.size) (ZJ hE n) hE h4 hme (Nat.le_refl 0)
  have hz:GR C.w.heap.size (nx' + mx') C.pur (fun _=>none) (am .e) 0 :=
   ⟨⟨Nat.le_refl _,hok,(fun _ _ h=>(by cases h)),(fun _ _ h=>(by cases h)),(fun _ _ _ _ _ h=>(by cases h)),(fun _ _ _ h=>(by cases h)),hg⟩,(fun id b hb=>by rw[J8] at hb; cases hb),fun _ _ _ h=>h⟩
  refine (q3 (nx' + mx') C.pur (fun _=>none) vals (by omega) (by omega) hz hargs).mono ?_
  rintro e w' ⟨val,he,C',M',hw,hR,_,hc⟩
  subst hw
  exact⟨hc.kp.below,val,he,R.noref _ h2 (h3 r q1 _ _ hR)⟩
 refine⟨w,h1,fun B μ nx mx l0 hl0=>?_⟩
 exact vd (B:=B) (μ:=μ) (nx:=nx) (mx:=mx) hE.gn hc rfl hl0 (by rw[wF]; exact @decide_eq_true _ (Classical.propDecidable _) rfl)
theorem zBu {P:Program}{fid:FuncId}{s:zh}(hf:∃ fn,P.funcs[fid]?=some fn∧(fn.name == "runtime.NumGoroutine")=false∧fn.body.isNone=false)
  (h:∀ l K,s l K→∃ E:KEnv,KOk E∧E.P=P∧∃ n v w,K w∧zA w.v=true∧Imp v.v w.v∧zi E (zj E n) 0 fid l .e 0 0 fun r _ _ _=>r=v):KCS P fid s :=
 xm hf fun l K hs=>by
  obtain⟨E,hE,hP,n,v,w,h1,h2,h3,h4⟩:=h l K hs
  exact⟨E,hE,hP,n,fun r=>r=v,w,h1,h2,fun r hr=>by rw[hr]; exact h3,h4⟩
theorem zBv {E:KEnv}(hE:KOk E) {fid:Nat}{s:zh}(hf:∃ fn,E.P.funcs[fid]?=some fn∧(fn.name == "runtime.NumGoroutine")=false∧fn.body.isNone=false)
  (h:∀ l K,s l K→∃ n v w,K w∧zA w.v=true∧Imp v.v w.v∧zi E (zj E n) 0 fid l .e 0 0 fun r _ _ _=>r=v):KCS E.P fid s :=
 zBu hf fun l K hs=>⟨E,hE,rfl,h l K hs⟩
end
end Go.K
namespace Go.K
open Go.Ab Go.RowKit Go.Y
noncomputable section
theorem SR.inst {i j:Gl}(h:∀ g,i.G g=j.G g) {B:Nat}{C:Ctx}{m:Mem}(s:@SR i B C m):@SR j B C m:=by
 obtain⟨q1,q2,q3,q4,q5,q6,q7⟩:=s
 exact @SR.mk j B C m q1 q2 q3 q4 q5 q6 fun g=>by rw[←h g]; exact q7 g
theorem GR.inst {i j:Gl}(h:∀ g,i.G g=j.G g) {B H:Nat}{C:Ctx}{M μ:Mem}{nx:Nat}(s:@GR i B H C M μ nx):@GR j B H C M μ nx:=by
 obtain⟨q1,q2,q3⟩:=s
 exact @GR.mk j B H C M μ nx (SR.inst h q1) q2 q3
theorem Lend.inst {i j:Gl}(h:∀ g,i.G g=j.G g) {B:Nat}{μ:Mem}{l0 l:List V}(s:@Lend i B μ l0 l):@Lend j B μ l0 l :=
 fun C M vals hs hm hr=>s C M vals (SR.inst (fun g=>(h g).symm) hs) hm hr
theorem GCall.inst {i j:Gl}(h:∀ g,i.G g=j.G g) {P:Program}{B:Nat}{fid:FuncId}{l:List V}{μ μ':Mem}{nx nx' mx':Nat}{v:V}(s:@GCall i P B fid l μ nx v μ' nx' mx'):@GCall j P B fid l μ nx v μ' nx' mx':=by
 intro H C M vals h1 h2 hz hl
 refine (s H C M vals h1 h2 (GR.inst (fun g=>(h g).symm) hz) hl).mono ?_
 rintro e w' ⟨val,he,C',M',hw,hR,hz',hc⟩
 exact⟨val,he,C',M',hw,hR,GR.inst h hz',hc⟩
@[reducible] def zbZ (k:KGl):KGl:={ g:=k.g,cl:=false }
theorem KCS.opn {k:KGl}{P:Program}{fid:FuncId}{s:zh}(h:@KCS k P fid s):@KCS (zbZ k) P fid s:=by
 refine⟨h.1,fun l K hs=>?_⟩
 obtain⟨v,h1,h2⟩:=h.2 l K hs
 exact⟨v,h1,fun B μ nx mx l0 hl=>GCall.inst (i:=@instGl k) (j:=@instGl (zbZ k)) (fun _=>rfl) (h2 B μ nx mx l0 (Lend.inst (i:=@instGl (zbZ k)) (j:=@instGl k) (fun _=>rfl) hl))⟩
theorem KCS.cls {k:KGl}{P:Program}{fid:FuncId}{s:zh}(h:@KCS (zbZ k) P fid s):@KCS k P fid s:=by
 refine⟨h.1,fun l K hs=>?_⟩
 obtain⟨v,h1,h2⟩:=h.2 l K hs
 exact⟨v,h1,fun B μ nx mx l0 hl=>GCall.inst (i:=@instGl (zbZ k)) (j:=@instGl k) (fun _=>rfl) (h2 B μ nx mx l0 (Lend.inst (i:=@instGl k) (j:=@instGl (zbZ k)) (fun _=>rfl) hl))⟩
def ctL (l:List (Nat×zh)) (f:FuncId):Option zh:=@List.rec (Nat×zh) (fun _=>Option zh) none (fun x _ ih=>@Bool.rec (fun _=>Option zh) ih (some x.2) (Nat.beq f x.1)) l
def zqQ [KGl] (P:Program):List (Nat×zh)→Prop
 | []=>True
 | x::l=>KCS P x.1 x.2∧zqQ P l
theorem zom [KGl] {P:Program}:∀ {l:List (Nat×zh)},zqQ P l→∀ f s,ctL l f=some s→KCS P f s
 | [],_,f,s,h=>by cases h
 | x::l,hl,f,s,h=>by
  replace h:@Bool.rec (fun _=>Option zh) (ctL l f) (some x.2) (Nat.beq f x.1)=some s:=h
  cases h1:Nat.beq f x.1 with
  | true =>
   rw[h1] at h; cases h
   obtain rfl:=zI h1
   exact hl.1
  | false=>rw[h1] at h; exact zom hl.2 f s h
def KEnv.tab (E:KEnv) (l:List (Nat×zh)):KEnv:={ E with ct:=ctL l }
theorem KOk.tab [KGl] {E:KEnv}(hE:KOk E) {l:List (Nat×zh)}(h:zqQ E.P l):KOk (E.tab l):=⟨hE.fns,zom h,hE.gn,hE.mixed,hE.ex,hE.cb,hE.as⟩
def zhD [KGl] (P:Program):List (Nat×zh)→Prop
 | []=>True
 | x::l=>qo P x.1 x.2∧zhD P l
theorem zhE [KGl] {P:Program}:∀ {l:List (Nat×zh)},zhD P l→∀ f s,ctL l f=some s→qo P f s
 | [],_,f,s,h=>by cases h
 | x::l,hl,f,s,h=>by
  replace h:@Bool.rec (fun _=>Option zh) (ctL l f) (some x.2) (Nat.beq f x.1)=some s:=h
  cases h1:Nat.beq f x.1 with
  | true =>
   rw[h1] at h; cases h
   obtain rfl:=zI h1
   exact hl.1
  | false=>rw[h1] at h; exact zhE hl.2 f s h
def KEnv.tabB (E:KEnv) (l:List (Nat×zh)):KEnv:={ E with cb:=ctL l }
theorem KOk.tabB [KGl] {E:KEnv}(hE:KOk E) {l:List (Nat×zh)}(h:zhD E.P l):KOk (E.tabB l):=⟨hE.fns,hE.ct,hE.gn,hE.mixed,hE.ex,zhE h,hE.as⟩
theorem Imp.tup {a b:V}(h:Imp a b):Imp (.tup a) (.tup b):=fun C m hr=>R.tup_map (fun m hr=>h C m hr) hr
end
end Go.K
