/- The run is right: regions, code. No condition. From runs to what is shown: pieces of code, closed contracts. No condition. From pieces to a function. No condition. Contracts of many closed runs. No condition. -/
import Derived.Test.YtfpmealbbibhpaaGreatDoorK10
set_option linter.unusedVariables false
set_option linter.unusedSimpArgs false
set_option linter.constructorNameAsVariable false
namespace Go.K
open Go.Ab Go.RowKit Go.Y
noncomputable section
variable [KGl]
section
variable {E:KEnv}{B:Nat}{run:RUN}
omit [KGl] in
theorem arr_l {α:Type}{a:Array α}{l:List α}(h:a.toList=l):a=⟨l⟩:=arr_of h
theorem kBuiltin_s {o:Oper}{τ:Nat→KV}{lo:Nat}{zm:KZ}{nx:Nat}{K:KT}{b:Builtin}{args:Array Operand}{ts:Array TypeId}(ho:o.op=.call ⟨.builtin b,args,ts⟩) (h:kBuiltin E.P lo τ b args.toList ts.toList zm nx K):Out E.P B o τ lo zm nx K:=by
  unfold kBuiltin at h
  cases b with
  | len =>
    obtain⟨x,hx,h1⟩:=l1_inv (show l1 (fun x=>l1 (fun t=>kLenM E.P t (kev τ x) zm nx K) ts.toList) args.toList from h)
    obtain⟨t,ht,h2⟩:=l1_inv h1
    rw[arr_l hx,arr_l ht] at ho
    exact kLenM_s ho h2
  | cap =>
    obtain⟨x,hx,h1⟩:=l1_inv (show l1 (fun x=>l1 (fun t=>kCap E.P t (kev τ x) zm nx K) ts.toList) args.toList from h)
    obtain⟨t,ht,h2⟩:=l1_inv h1
    rw[arr_l hx,arr_l ht] at ho
    exact kCap_s ho h2
  | min =>
    obtain⟨x,y,hx,h1⟩:=l2_inv (show l2 (fun x y=>kMin (kev τ x) (kev τ y) zm nx K) args.toList from h)
    rw[arr_l hx] at ho
    exact kMin_s ho h1
  | max =>
    obtain⟨x,y,hx,h1⟩:=l2_inv (show l2 (fun x y=>kMax (kev τ x) (kev τ y) zm nx K) args.toList from h)
    rw[arr_l hx] at ho
    exact kMax_s ho h1
  | unsafeSliceData =>
    obtain⟨x,hx,h1⟩:=l1_inv (show l1 (fun x=>kSdat (kev τ x) zm nx K) args.toList from h)
    rw[arr_l hx] at ho
    exact kSdat_s ho h1
  | unsafeString =>
    obtain⟨x,y,hx,h1⟩:=l2_inv (show l2 (fun x y=>l2 (fun pt _=>kUstr E.P lo pt (kev τ x) (kev τ y) zm nx K) ts.toList) args.toList from h)
    obtain⟨t,t',ht,h2⟩:=l2_inv h1
    rw[arr_l hx,arr_l ht] at ho
    exact kUstr_s ho h2
  | append =>
    obtain⟨x,y,hx,h1⟩:=l2_inv (show l2 (fun x y=>l2 (fun t t'=>kAppY lo E.P t t' (kev τ x) (kev τ y) zm nx K) ts.toList) args.toList from h)
    obtain⟨t,t',ht,h2⟩:=l2_inv h1
    rw[arr_l hx,arr_l ht] at ho
    exact kAppY_s ho h2
  | copy =>
    obtain⟨x,y,hx,h1⟩:=l2_inv (show l2 (fun x y=>l2 (fun t _=>kCopy lo E.P t (kev τ x) (kev τ y) zm nx K) ts.toList) args.toList from h)
    obtain⟨t,t',ht,h2⟩:=l2_inv h1
    rw[arr_l hx,arr_l ht] at ho
    exact kCopy_s ho h2
  | clear =>
    obtain⟨x,hx,h1⟩:=l1_inv (show l1 (fun x=>l1 (fun t=>kClear lo E.P t (kev τ x) zm nx K) ts.toList) args.toList from h)
    obtain⟨t,ht,h2⟩:=l1_inv h1
    rw[arr_l hx,arr_l ht] at ho
    exact kClear_s ho h2
  | _=>exact (show BadN 178 from h).elim
omit [KGl] in
theorem nilP_s {p:List Step}(h:nilP p=true):p=[]:=by
  cases p with
  | nil=>rfl
  | cons _ _=>cases h
theorem asK_s {T PT fid:Nat}{o:Oper}{f:Operand}{args:Array Operand}{ts:Array TypeId}{τ:Nat→KV}{lo:Nat}{zm:KZ}{nx mx:Nat}{K:KO}(ha:AsOk E.P fid T PT) (ho:o.op=.call ⟨.value f,args,ts⟩) (hf:kev τ f=.fn fid .nl) (hlt:fid < 1073741824)
    (h:asK E.P lo T PT (args.toList.map (kev τ)) zm nx mx K) (hmb:MB (am zm) nx) (hlo:lo≤nx):SOut E B o τ lo zm nx mx K:=by
  obtain⟨x,y,hl,h1⟩:=l2_inv h
  obtain⟨g,c,rfl,h2⟩:=(onFn_inv h1).resolve_right fun h=>(show BadN 388 from h.2).elim
  obtain⟨h3,h4⟩:=chk_inv h2
  obtain⟨p,r,rfl,h5⟩:=(onCons_inv h4).resolve_right fun h=>(show BadN 387 from h.2).elim
  obtain⟨rfl,h6⟩:=(onNl_inv h5).resolve_right fun h=>(show BadN 386 from h.2).elim
  obtain⟨g2,d,rfl,h7⟩:=(onFn_inv h6).resolve_right fun h=>(show BadN 388 from h.2).elim
  obtain⟨h8,h9⟩:=chk_inv h7
  obtain⟨q,r2,rfl,h10⟩:=(onCons_inv h9).resolve_right fun h=>(show BadN 387 from h.2).elim
  obtain⟨rfl,h11⟩:=(onNl_inv h10).resolve_right fun h=>(show BadN 386 from h.2).elim
  obtain⟨id,pth,s,rfl,h12⟩:=(onPtr_inv h11).resolve_right fun h=>(show BadN 385 from h.2).elim
  obtain⟨s2,hs2,h13⟩:=os_inv h12
  obtain⟨kd,sh,v,hb,h14⟩:=oB_inv h13
  cases kd with
  | box T2 =>
    obtain⟨h15,h16⟩:=chk_inv (show chk _ 383 _ from h14)
    simp only[nd_iff] at h15
    obtain⟨q1,q2,q3,q4,q5,q6⟩:=h15
    obtain rfl:=beqE q1
    obtain rfl:=nilP_s q3
    obtain rfl:=Shape.eq_of_beq q4
    obtain rfl:=Shape.eq_of_beq q5
    obtain⟨q7,q8⟩:=kfits_s q6
    have hg:g=T2 + 2147483649:=beqE h3
    have hg2:g2=PT + 2147483649:=beqE h8
    rw[upB_eq] at h16
    have hid:id < nx:=by
      rcases Nat.lt_or_ge id nx with q | q
      · exact q
      · have:=hmb id q; rw[am_some hb] at this; cases this
    have hcall:=ha.2 B (am zm) nx mx id sh p.v v.v (am_some hb) hs2 q7 q8
    have hfa:=FnArgs.plain (τ:=tv' τ) (f:=f) (args:=args) (fid:=fid) (caps:=V.nl) (by rw[←kev_v,hf]; rfl) hlt
    have hargs:args.toList.map (opv Gl.G (tv' τ))++unL V.nl=[.fn (T2 + 2147483649) (.cons p.v .nl),.fn (PT + 2147483649) (.cons (.ptr id [] sh) .nl)]:=by
      rw[←map_kev,hl,hg,hg2]; rfl
    rw[hargs] at hfa
    have hgop:=(call_name ho hfa ha.1 hcall).op
    refine⟨.bool true,_,nx,mx,[id],[],false,h16,⟨fun i hi=>?_,Nat.le_refl _,Nat.le_refl _,fun i hi=>?_⟩,?_⟩
    · rw[am_set,upd_other _ _ (by omega)]; exact hmb i hi
    · rw[am_set,upd_other _ _ (by have:=Nat.le_of_ble_eq_true q2; omega)]
    · rw[am_set]; exact hgop
  | row _=>exact (show BadN 384 from h14).elim
  | dead=>exact (show BadN 384 from h14).elim
  | lp _ _ _ _=>exact (show BadN 384 from h14).elim
  | mp=>exact (show BadN 384 from h14).elim
theorem kop_out (hE:KOk E) {o:Oper}{dr:Bool}{τ:Nat→KV}{lo:Nat}{zm:KZ}{nx mx:Nat}{K:KO}(h:kop o.op E run dr lo τ zm nx mx K) :
    (∃ f args ts fid caps,o.op=.call ⟨.value f,args,ts⟩∧kev τ f=.fn fid caps∧callF E run dr lo (args.toList.map (kev τ)) zm nx mx K fid caps)∨(∃ f args ts id,o.op=.call ⟨.value f,args,ts⟩∧kev τ f=.yld id∧callYl run dr lo (args.toList.map (kev τ)) zm nx mx K id)∨Out E.P B o τ lo zm nx (sK mx K)∨(dr=false∧(MB (am zm) nx→lo≤nx→SOut E B o τ lo zm nx mx K)):=by
  cases ho:o.op with
  | move x =>
    rw[ho] at h
    exact .inr (.inr (.inl (Out.pure (K:=sK mx K) (v:=kev τ x) h (yop1_s (e:=pureE (kev τ x).v) (by rw[ho]; show (okE _).is _; rw[←kev_v]; rfl)) (EImp.refl _))))
  | assign x =>
    rw[ho] at h
    exact .inr (.inr (.inl (Out.pure (K:=sK mx K) (v:=kev τ x) h (yop1_s (e:=pureE (kev τ x).v) (by rw[ho]; show (okE _).is _; rw[←kev_v]; rfl)) (EImp.refl _))))
  | pick c a b=>rw[ho] at h; exact .inr (.inr (.inl (kPick_s ho h)))
  | alloc t=>rw[ho] at h; exact .inr (.inr (.inl (kAlloc_s ho h)))
  | box t v=>rw[ho] at h; exact .inr (.inr (.inl (kBox_s ho h)))
  | build t ps=>rw[ho] at h; exact .inr (.inr (.inl (kBuild_s ho h)))
  | buildSlice t n ps=>rw[ho] at h; exact .inr (.inr (.inl (kBS_s ho h)))
  | load t a=>rw[ho] at h; exact .inr (.inr (.inl (kLoad_s ho h)))
  | store t a v=>rw[ho] at h; exact .inr (.inr (.inl (kStore_s ho h)))
  | nilCheck x=>rw[ho] at h; exact .inr (.inr (.inl (kNil_s ho h)))
  | binOp op t x y t2=>rw[ho] at h; exact .inr (.inr (.inl (kBinJ_s ho h)))
  | makeInterface t x=>rw[ho] at h; exact .inr (.inr (.inl (kMkI_s ho h)))
  | unOp op t x=>rw[ho] at h; exact .inr (.inr (.inl (kUn_s ho h)))
  | convert s d x=>rw[ho] at h; exact .inr (.inr (.inl (kConvU_s ho h)))
  | sliceToArrayPointer d x=>rw[ho] at h; exact .inr (.inr (.inl (kArr_s ho h)))
  | makeFunc f a c=>rw[ho] at h; exact .inr (.inr (.inl (kMakeFunc_s ho h)))
  | makeMap t r=>rw[ho] at h; exact .inr (.inr (.inl (kMakeMp_s ho h)))
  | lookup t x i c=>rw[ho] at h; exact .inr (.inr (.inl (kLook_s ho h)))
  | mapUpdate t m k v=>rw[ho] at h; exact .inr (.inr (.inl (kPut_s (.inl ho) h)))
  | insert t m k v=>rw[ho] at h; exact .inr (.inr (.inl (kPut_s (.inr ho) h)))
  | makeSlice t l c=>rw[ho] at h; exact .inr (.inr (.inl (kMake_s ho h)))
  | slice t x l h' m=>rw[ho] at h; exact .inr (.inr (.inl (kSliceX_s ho h)))
  | fieldAddr t x f=>rw[ho] at h; exact .inr (.inr (.inl (kField_s ho h)))
  | field t x f=>rw[ho] at h; exact .inr (.inr (.inl (kFieldV_s ho h)))
  | indexAddr t x i=>rw[ho] at h; exact .inr (.inr (.inl (kIndex_s ho h)))
  | index t x i=>rw[ho] at h; exact .inr (.inr (.inl (kIndexV_s ho h)))
  | extract x k=>rw[ho] at h; exact .inr (.inr (.inl (kExtract_s ho h)))
  | call c =>
    obtain⟨cl,args,ts⟩:=c
    rw[ho] at h
    cases cl with
    | value f =>
      rcases onFn_inv (show onFn (callX E run dr lo (args.toList.map (kev τ)) zm nx mx K) (onYld (callYl run dr lo (args.toList.map (kev τ)) zm nx mx K) (BadV (.call ⟨.value f,args,ts⟩)) (kev τ f)) (kev τ f) from h) with ⟨fid,caps,hf,h1⟩ | ⟨_,h1⟩
      · replace h1:@Bool.rec (fun _=>Prop) (@Option.rec (Nat×Nat) (fun _=>Prop) (callF E run dr lo (args.toList.map (kev τ)) zm nx mx K fid caps) (pr fun T PT=>asC E run dr lo (args.toList.map (kev τ)) zm nx mx K fid caps T PT) (E.as fid)) (extC fid caps (args.toList.map (kev τ)) zm nx mx K) (E.ex fid):=h1
        cases hx:E.ex fid with
        | false =>
          rw[hx] at h1
          replace h1:@Option.rec (Nat×Nat) (fun _=>Prop) (callF E run dr lo (args.toList.map (kev τ)) zm nx mx K fid caps) (pr fun T PT=>asC E run dr lo (args.toList.map (kev τ)) zm nx mx K fid caps T PT) (E.as fid):=h1
          cases ha:E.as fid with
          | none=>rw[ha] at h1; exact .inl ⟨f,args,ts,fid,caps,rfl,hf,h1⟩
          | some TT =>
            obtain⟨T,PT⟩:=TT
            rw[ha] at h1
            replace h1:@Bool.rec (fun _=>Prop) (@Bool.rec (fun _=>Prop) (chk (Nat.blt fid 1073741824) 371 (onNl (asK E.P lo T PT (args.toList.map (kev τ)) zm nx mx K) (BadN 372) caps)) (BadN 380) dr) (callF E run dr lo (args.toList.map (kev τ)) zm nx mx K fid caps) (nilA (args.toList.map (kev τ))):=h1
            cases hn:nilA (args.toList.map (kev τ)) with
            | true=>rw[hn] at h1; exact .inl ⟨f,args,ts,fid,caps,rfl,hf,h1⟩
            | false =>
              rw[hn] at h1
              cases dr with
              | true=>exact (show BadN 380 from h1).elim
              | false =>
                obtain⟨h2,h3⟩:=chk_inv (show chk (Nat.blt fid 1073741824) 371 _ from h1)
                rw[Nat.blt_eq] at h2
                obtain⟨rfl,h4⟩:=(onNl_inv h3).resolve_right fun h=>(show BadN 372 from h.2).elim
                exact .inr (.inr (.inr ⟨rfl,fun hmb hlo=>asK_s (hE.as _ _ _ ha) ho hf h2 h4 hmb hlo⟩))
        | true =>
          rw[hx] at h1
          obtain⟨h2,h3⟩:=chk_inv h1
          rw[Nat.blt_eq] at h2
          obtain⟨rfl,h4⟩:=(onNl_inv h3).resolve_right fun h=>(show BadN 372 from h.2).elim
          obtain⟨x',h5,h6⟩:=l1_inv h4
          obtain⟨x,hxl,rfl⟩:∃ x,args.toList=[x]∧kev τ x=x':=by
            rcases hal:args.toList with _ | ⟨a,_ | ⟨b,r⟩⟩<;>rw[hal] at h5<;>simp at h5
            exact⟨a,rfl,h5⟩
          rw[arr_l hxl] at ho ⊢
          refine .inr (.inr (.inl (Out.pure (K:=sK mx K) (v:=kev τ x) (e:=pureE (opv Gl.G (tv' τ) x)) h6 ⟨sem_noEsc ho (by rw[←kev_v,hf]; rfl) h2 (hE.ex _ hx),UpIn.nil⟩ (by rw[kev_v]; exact EImp.refl _))))
      · rcases onYld_inv h1 with ⟨id,hf,h2⟩ | ⟨_,h2⟩
        · exact .inr (.inl ⟨f,args,ts,id,rfl,hf,h2⟩)
        · exact h2.elim
    | invoke r m=>exact (show BadV _ from h).elim
    | builtin b=>exact .inr (.inr (.inl (kBuiltin_s ho (show kBuiltin E.P lo τ b args.toList ts.toList zm nx (sK mx K) from h))))
  | _=>rw[ho] at h; exact (show BadV _ from h).elim
theorem kop_seq (hr:KRunOK E B run) (hE:KOk E) {o:Oper}{τ:Nat→KV}{lo:Nat}{zm:KZ}{nx mx:Nat}{K:KO}(h:kop o.op E run false lo τ zm nx mx K) (hmb:MB (am zm) nx) (hlo:lo≤nx):SOut E B o τ lo zm nx mx K:=by
  rcases kop_out (B:=B) hE h with ⟨f,args,ts,fid,caps,ho,hf,h1⟩ | ⟨f,args,ts,id,ho,hf,h1⟩ | h1 | ⟨_,h1⟩
  · exact callF_seq hr hE ho hf h1 hmb hlo
  · exact callYl_seq hr ho hf h1 hmb hlo
  · exact h1.seq hmb hlo
  · exact h1 hmb hlo
theorem kop_drw (hr:KRunOK E B run) (hE:KOk E) {o:Oper}{τ:Nat→KV}{lo:Nat}{zm:KZ}{nx mx:Nat}{K:KO}(h:kop o.op E run true lo τ zm nx mx K) (hmb:MB (am zm) nx) (hlo:lo≤nx):DOut E B o τ lo zm nx mx K:=by
  rcases kop_out (B:=B) hE h with ⟨f,args,ts,fid,caps,ho,hf,h1⟩ | ⟨f,args,ts,id,ho,hf,h1⟩ | h1 | ⟨h1,_⟩
  · exact callF_drw hr hE ho hf h1 hmb hlo
  · exact (show BadN 208 from h1).elim
  · exact h1.drw hmb hlo
  · cases h1
theorem krops_s (hr:KRunOK E B run) (hE:KOk E) {ops:Array Oper}{N lo:Nat}{tr:KTm}{K:(Nat→KV)→KZ→Nat→Nat→Prop} :
    ∀(l:List Oper) (i:Nat) (τ:Nat→KV) (zm:KZ) (nx mx:Nat),(∀ k,ops[i + k]?=l[k]?)→(∀ o∈l,dOk N o.dst=true)→krops E run ops.toList lo l τ zm nx mx K→MB (am zm) nx→lo≤nx→Left ops.toList tr τ →
      ∃ τ' zm' nx' mx',K τ' zm' nx' mx'∧KFin lo zm nx mx zm' nx' mx'∧Left ops.toList tr τ'∧GReg E.P B ops i l.length (tv' τ) (am zm) nx N (tv' τ') (am zm') nx' mx'
  | [],i,τ,zm,nx,mx,_,_,h,hmb,_,hl=>⟨τ,zm,nx,mx,h,⟨hmb,Nat.le_refl _,Nat.le_refl _,fun _ _=>rfl⟩,hl,GReg.nil⟩
  | o::l,i,τ,zm,nx,mx,hops,hD,h,hmb,hlo,hl=>by
    have hop:ops[i]?=some o:=by have:=hops 0; simpa using this
    have hops':∀ k,ops[i + 1 + k]?=l[k]?:=by
      intro k
      have:=hops (k + 1)
      simp only[List.getElem?_cons_succ] at this
      rw[←this]; congr 1; omega
    have hd:=hD o (by simp)
    have hD':∀ o∈l,dOk N o.dst=true:=fun o ho=>hD o (by simp [ho])
    have hmem:o∈ops.toList:=by
      obtain⟨hlt,he⟩:=Array.getElem?_eq_some_iff.1 hop
      rw[←he]; exact Array.getElem_mem_toList hlt
    have hleft:∀ τ1,(∀ t,o.dst=some t∨τ1 t=τ t)→Left ops.toList tr τ1:=fun τ1 h1 t=>by
      rcases h1 t with h2 | h2
      · exact .inl ⟨o,hmem,h2⟩
      · rw[h2]; exact hl t
    have h0:kgrd ops.toList o.guard τ (fun τ=>kop o.op E run false lo τ zm nx mx fun v zm nx mx _ _ _=>putK o.dst v τ fun τ=>krops E run ops.toList lo l τ zm nx mx K) (fun τ=>putK o.dst (.tup .nl) τ fun τ=>krops E run ops.toList lo l τ zm nx mx K):=h
    rcases kgrd_s h0 with ⟨hw,h1⟩ | ⟨hw,h1⟩
    · obtain⟨v,zm1,nx1,mx1,up,rd,al,h2,h3,h4⟩:=kop_seq hr hE h1 hmb hlo
      obtain⟨τ1,h5,h6,h7⟩:=putK_s h2
      obtain⟨τ',zm',nx',mx',h8,h9,h10,h11⟩:=krops_s hr hE l (i + 1) τ1 zm1 nx1 mx1 hops' hD' h5 h3.mb (by have:=h3.nx; omega) (hleft τ1 h7)
      rw[h6] at h11
      exact⟨τ',zm',nx',mx',h8,h3.trans h9,h10,GReg.op hop hw hd h4 h11 h3.nx h9.nx h9.mx⟩
    · obtain⟨τ1,h5,h6,h7⟩:=putK_s h1
      obtain⟨τ',zm',nx',mx',h8,h9,h10,h11⟩:=krops_s hr hE l (i + 1) τ1 zm nx mx hops' hD' h5 hmb hlo (hleft τ1 h7)
      rw[h6] at h11
      exact⟨τ',zm',nx',mx',h8,h9,h10,GReg.skip hop hw hd h11⟩
def KCorr:List TE→List KTE→Prop
  | [],[]=>True
  | te::r,z::s=>KCorr r s∧te.o=z.o∧te.n=z.lo∧te.n + te.e.nw.length=z.hi∧te.e.up.map (·.1)=z.up∧(z.all=false→te.e.rd=z.rd)∧(z.all=true→∀ id∈te.e.rd,id < te.n)∧z.i=r.length
  | _,_=>False
omit [KGl] in
theorem orB_iff {a b:Bool}:orB a b=true↔a=true∨b=true:=by cases a<;>cases b<;>simp [orB]
omit [KGl] in
theorem anyN_iff {f:Nat→Bool}:∀ {l:List Nat},anyN f l=true↔∃ x∈l,f x=true
  | [] => by constructor
             · intro h; cases h
             · rintro⟨x,hx,_⟩; cases hx
  | x::l=>by
    show orB (f x) (anyN f l)=true↔_
    rw[orB_iff,anyN_iff]
    simp
omit [KGl] in
theorem nilN_s {l:List Nat}(h:nilN l=true):l=[]:=by cases l with
  | nil=>rfl
  | cons _ _=>cases h
structure ZOf (te:TE) (z:KTE):Prop where
  n:te.n=z.lo
  hi:te.n + te.e.nw.length=z.hi
  up:te.e.up.map (·.1)=z.up
  rd:z.all=false→te.e.rd=z.rd
  al:z.all=true→∀ id∈te.e.rd,id < te.n
omit [KGl] in
theorem ZOf.wids {te:TE}{z:KTE}(h:ZOf te z) {id:Nat}(hi:id∈wids te):id∈z.up∨(z.lo≤id∧id < z.hi):=by
  unfold Ab.wids at hi
  rcases List.mem_append.1 hi with h1 | h1
  · left; rw[←h.up]; exact h1
  · right
    have:=List.mem_range'_1.1 h1
    have:=h.n; have:=h.hi
    omega
omit [KGl] in
theorem ZOf.kin {te:TE}{z:KTE}(h:ZOf te z) {id:Nat}(hi:id∈Ab.wids te):K.kin z id=true:=by
  unfold K.kin
  rw[orB_iff,anyN_iff]
  rcases h.wids hi with h1 | h1
  · exact .inl ⟨id,h1,Nat.beq_refl id⟩
  · right
    unfold knew
    rw[nd_iff]
    exact⟨Nat.ble_eq_true_of_le h1.1,Nat.ble_eq_true_of_le h1.2⟩
omit [KGl] in
theorem clash_s {te te':TE}{z w:KTE}(hz:ZOf te z) (hw:ZOf te' w) (h:kclash z w=false):clashM te te'=false:=by
  rw[←Bool.not_eq_true] at h ⊢
  intro hc
  apply h
  unfold clashM at hc
  rw[Bool.or_eq_true] at hc
  unfold kclash
  simp only[orB_iff,anyN_iff,nd_iff,nblt]
  rcases hc with hc | hc
  · obtain⟨id,h1,h2⟩:=List.any_eq_true.1 hc
    rw[Bool.or_eq_true,List.contains_iff_mem,List.contains_iff_mem] at h2
    rcases hw.wids h1 with h3 | h3
    · left
      refine⟨id,h3,?_⟩
      rcases h2 with h2 | h2
      · exact .inl (hz.kin h2)
      · right
        unfold krd
        rw[orB_iff,anyN_iff]
        cases ha:z.all with
        | false=>left; rw[hz.rd ha] at h2; exact⟨id,h2,Nat.beq_refl id⟩
        | true =>
          right
          have:=hz.al ha id h2
          have:=hz.n
          rw[nd_iff,nblt]
          exact⟨rfl,by omega⟩
    · have hkn:knew w id=true:=by
        unfold knew; rw[nd_iff]
        exact⟨Nat.ble_eq_true_of_le h3.1,Nat.ble_eq_true_of_le h3.2⟩
      rcases h2 with h2 | h2
      · rcases hz.wids h2 with h4 | h4
        · exact .inr (.inr (.inl ⟨id,h4,hkn⟩))
        · exact .inr (.inr (.inr (.inr (.inl ⟨Nat.ble_eq_true_of_le (by omega),Nat.ble_eq_true_of_le (by omega)⟩))))
      · cases ha:z.all with
        | false=>rw[hz.rd ha] at h2; exact .inr (.inr (.inr (.inl ⟨id,h2,hkn⟩)))
        | true =>
          have:=hz.al ha id h2
          have:=hz.n
          exact .inr (.inr (.inr (.inr (.inr (.inl ⟨rfl,by omega,by omega⟩)))))
  · obtain⟨id,h1,h2⟩:=List.any_eq_true.1 hc
    rw[List.contains_iff_mem] at h2
    cases ha:w.all with
    | false=>rw[hw.rd ha] at h1; exact .inr (.inl ⟨id,h1,hz.kin h2⟩)
    | true =>
      have h5:=hw.al ha id h1
      have h6:=hw.n
      rcases hz.wids h2 with h4 | h4
      · exact .inr (.inr (.inr (.inr (.inr (.inr (.inl ⟨rfl,id,h4,by omega⟩))))))
      · exact .inr (.inr (.inr (.inr (.inr (.inr (.inr ⟨rfl,by omega,by omega⟩))))))
omit [KGl] in
theorem ZOf.wids_nil {te:TE}{z:KTE}(h:ZOf te z) (hr:z.ro=true):Ab.wids te=[]:=by
  unfold KTE.ro at hr
  rw[nd_iff] at hr
  have h1:=nilN_s hr.1
  have h2:=beqE hr.2
  have:=h.n; have:=h.hi
  unfold Ab.wids
  rw[h.up,h1,show te.e.nw.length=0 by omega]; rfl
omit [KGl] in
theorem ro_s {te te':TE}{z w:KTE}(hz:ZOf te z) (hw:ZOf te' w) (h1:z.ro=true) (h2:w.ro=true):clashM te te'=false:=by
  unfold clashM
  rw[hz.wids_nil h1,hw.wids_nil h2]
  simp
omit [KGl] in
theorem inact_l {te te':TE}{z:KTE}(hz:ZOf te z) (h1:z.inact=true):clashM te te'=false:=by
  unfold KTE.inact at h1
  simp only[nd_iff,Bool.not_eq_true'] at h1
  unfold clashM
  rw[hz.wids_nil h1.1,hz.rd h1.2.2,nilN_s h1.2.1]
  simp
omit [KGl] in
theorem inact_r {te te':TE}{w:KTE}(hw:ZOf te' w) (h1:w.inact=true):clashM te te'=false:=by
  unfold KTE.inact at h1
  simp only[nd_iff,Bool.not_eq_true'] at h1
  unfold clashM
  rw[hw.wids_nil h1.1,hw.rd h1.2.2,nilN_s h1.2.1]
  simp
omit [KGl] in
theorem edgeK_eq (ops:Array Oper) (o:Oper) (k:Nat):edgeK ops o k=reach ops 6 o k:=by cases k<;>rfl
omit [KGl] in
theorem KCorr.length:∀ {tr:List TE}{s:List KTE},KCorr tr s→tr.length=s.length
  | [],[],_=>rfl
  | [],_::_,hc=>hc.elim
  | _::_,[],hc=>hc.elim
  | _::_,_::_,hc=>congrArg Nat.succ (KCorr.length hc.1)
omit [KGl] in
theorem agS_at {ops:Array Oper}{o:Oper}:∀ {r:List TE},agS ops o (r.map (·.o))=true→∀ l te' r',r=l++te'::r'→(edgeO o r'.length||!clashO o te'.o ops)=true
  | [],_,l,te',r',e=>by cases l<;>cases e
  | t::r,h,l,te',r',e=>by
    obtain⟨h1,h2⟩:=nd_iff.1 (show nd (agS ops o (r.map (·.o))) (edgeO o (r.map (·.o)).length||!clashO o t.o ops)=true from h)
    cases l with
    | nil=>simp only[List.nil_append,List.cons.injEq] at e; obtain⟨rfl,rfl⟩:=e; rw[List.length_map] at h2; exact h2
    | cons x l=>simp only[List.cons_append,List.cons.injEq] at e; exact agS_at h1 l te' r' e.2
omit [KGl] in
theorem drawS_sound {ops:Array Oper}:∀ {tr:List TE},drawSL ops (tr.map (·.o))=true→Apart wrT (useT ops) edge tr∧(∀ l te r,tr=l++te::r→∀ k,edge te k=true→k < r.length)
  | [],_=>⟨trivial,fun l te r e=>by cases l<;>cases e⟩
  | te::r,h=>by
    obtain⟨q1,q2⟩:=nd_iff.1 (show nd (drawSL ops (r.map (·.o))) (nd (te.o.after.all fun e=>!(Region.binds .any e)||decide (e.on < (r.map (·.o)).length)) (agS ops te.o (r.map (·.o))))=true from h)
    obtain⟨q3,q4⟩:=nd_iff.1 q2
    rw[List.length_map] at q3
    obtain⟨h1,h3⟩:=drawS_sound q1
    refine⟨⟨h1,fun l te' r' e ⟨k,hk⟩=>?_⟩,?_⟩
    · have:=agS_at q4 l te' r' e
      cases hed:edge te r'.length with
      | true=>rfl
      | false =>
        exfalso
        have hed':edgeO te.o r'.length=false:=hed
        simp only[hed',Bool.false_or,Bool.not_eq_true'] at this
        have hc:clash te te' ops=false:=this
        unfold clash at hc
        rcases hk with ⟨hw,hk⟩ | ⟨hu,hw⟩
        · rw[wrT_some hw] at hc
          simp only[Bool.or_eq_false_iff] at hc
          rcases hk with hk | hk
          · rw[wrT_some hk] at hc; simp at hc
          · have h5:(te.o.looksAt ops).contains k=true:=List.contains_iff_mem.2 hk
            simp only[h5] at hc; simp at hc
        · rw[wrT_some hw] at hc
          have h5:(te'.o.looksAt ops).contains k=true:=List.contains_iff_mem.2 hu
          simp only[h5] at hc; simp at hc
    · intro l te' r' e k hk
      cases l with
      | nil =>
        simp only[List.nil_append,List.cons.injEq] at e
        obtain⟨rfl,rfl⟩:=e
        unfold edge at hk
        obtain⟨x,hx,hb⟩:=Array.any_eq_true'.1 hk
        simp only[Bool.and_eq_true,beq_iff_eq] at hb
        have:=Array.all_eq_true'.1 q3 x hx
        simp only[hb.1,Bool.not_true,Bool.false_or,decide_eq_true_eq] at this
        omega
      | cons x l=>simp only[List.cons_append,List.cons.injEq] at e; exact h3 l te' r' e.2 k hk
omit [KGl] in
theorem agD_at {ops:Array Oper}{te:TE}{z:KTE}(h0:te.o=z.o) (hz:ZOf te z):∀ {tr:List TE}{s:List KTE},KCorr tr s→(z.inact=true∨agD ops z z.o s=true)→∀ l te' r',tr=l++te'::r'→edT ops te r'.length=true∨clashM te te'=false
  | [],[],_,_,l,te',r',e=>by cases l<;>cases e
  | [],_::_,hc,_,_,_,_,_=>hc.elim
  | _::_,[],hc,_,_,_,_,_=>hc.elim
  | te1::r,w::s,hc,h2,l,te',r',e=>by
    obtain⟨k1,k2,k3,k4,k5,k6,k7,k8⟩:=hc
    have hw:ZOf te1 w:=⟨k3,k4,k5,k6,k7⟩
    have hm:(z.inact=true∨agD ops z z.o s=true)∧(edT ops te r.length=true∨clashM te te1=false):=by
      rcases h2 with h2 | h2
      · exact⟨.inl h2,.inr (inact_l hz h2)⟩
      · have hpd:@KTE.rec (fun _=>Bool) (fun k o' lo hi up rd all=>pairD ops z (.mk k o' lo hi up rd all) z.o k) w=pairD ops z w z.o w.i:=by cases w; rfl
        obtain⟨p1,p2⟩:=nd_iff.1 (show nd (agD ops z z.o s) (@KTE.rec (fun _=>Bool) (fun k o' lo hi up rd all=>pairD ops z (.mk k o' lo hi up rd all) z.o k) w)=true from h2)
        rw[hpd] at p2
        have p2:@Bool.rec (fun _=>Bool) (@Bool.rec (fun _=>Bool) (orB (edgeK ops z.o w.i) (!kclash z w)) true (nd z.ro w.ro)) true w.inact=true:=p2
        refine⟨.inr p1,?_⟩
        cases ha:w.inact with
        | true=>exact .inr (inact_r hw ha)
        | false =>
          rw[ha] at p2
          have p2:@Bool.rec (fun _=>Bool) (orB (edgeK ops z.o w.i) (!kclash z w)) true (nd z.ro w.ro)=true:=p2
          cases hro:nd z.ro w.ro with
          | true =>
            obtain⟨r1,r2⟩:=nd_iff.1 hro
            exact .inr (ro_s hz hw r1 r2)
          | false =>
            rw[hro] at p2
            rcases orB_iff.1 (show orB (edgeK ops z.o w.i) (!kclash z w)=true from p2) with p3 | p3
            · left; unfold edT; rw[edgeK_eq,k8] at p3; rw[h0]; exact p3
            · right
              simp only[Bool.not_eq_true'] at p3
              exact clash_s hz hw p3
    cases l with
    | nil=>simp only[List.nil_append,List.cons.injEq] at e; obtain⟨rfl,rfl⟩:=e; exact hm.2
    | cons x l=>simp only[List.cons_append,List.cons.injEq] at e; exact agD_at h0 hz k1 hm.1 l te' r' e.2
omit [KGl] in
theorem drawD_sound {ops:Array Oper}:∀ {tr:List TE}{s:List KTE},KCorr tr s→drawD ops s=true→Apart wrM useM (edT ops) tr
  | [],[],_,_=>trivial
  | [],_::_,hc,_=>hc.elim
  | _::_,[],hc,_=>hc.elim
  | te::r,z::s,hc,h2=>by
    obtain⟨k1,k2,k3,k4,k5,k6,k7,k8⟩:=hc
    have hzd:@KTE.rec (fun _=>Bool) (fun i o lo hi up rd all=>@Bool.rec (fun _=>Bool) (agD ops (.mk i o lo hi up rd all) o s) true (KTE.inact (.mk i o lo hi up rd all))) z=@Bool.rec (fun _=>Bool) (agD ops z z.o s) true z.inact:=by cases z; rfl
    obtain⟨p1,p2⟩:=nd_iff.1 (show nd (drawD ops s) (@KTE.rec (fun _=>Bool) (fun i o lo hi up rd all=>@Bool.rec (fun _=>Bool) (agD ops (.mk i o lo hi up rd all) o s) true (KTE.inact (.mk i o lo hi up rd all))) z)=true from h2)
    rw[hzd] at p2
    have ha:z.inact=true∨agD ops z z.o s=true:=by
      cases hi:z.inact with
      | true=>exact .inl rfl
      | false=>rw[hi] at p2; exact .inr p2
    refine⟨drawD_sound k1 p1,fun l te' r' e ⟨k,hk⟩=>?_⟩
    rcases agD_at k2 ⟨k3,k4,k5,k6,k7⟩ k1 ha l te' r' e with h | hc
    · exact h
    · exfalso
      unfold clashM at hc
      simp only[Bool.or_eq_false_iff,List.any_eq_false] at hc
      rcases hk with ⟨hw,hk⟩ | ⟨hu,hw⟩
      · have h4:=hc.1 k (wrM_ids hw)
        simp only[Bool.or_eq_true,not_or] at h4
        rcases hk with hk | hk
        · exact h4.1 (by simpa using wrM_ids hk)
        · exact h4.2 (List.contains_iff_mem.2 hk)
      · exact hc.2 k hu (by simpa using wrM_ids hw)
theorem kdraw_s (hr:KRunOK E B run) (hE:KOk E) {ops:Array Oper}{N lo:Nat}{tr:KTm}{τ0:Nat→V}{μ0:Mem}{nx0:Nat}{K:(Nat→KV)→KZ→Nat→Nat→List KTE→Prop} :
    ∀(l l0 l2:List Oper) (τ:Nat→KV) (zm:KZ) (nx mx:Nat) (ts:List TE) (zs:List KTE),ops.toList=l0++l++l2→ts.map (·.o)=l0.reverse→(∀ o∈l,dOk N o.dst=true)→GTr E.P B ops N τ0 μ0 nx0 (tv' τ) (am zm) nx ts→KCorr ts zs→lo≤nx→Left ops.toList tr τ →
      kdraw E run ops.toList lo l ts.length τ zm nx mx zs K →
      ∃ τ' zm' nx' mx' ts' zs',K τ' zm' nx' mx' zs'∧KFin lo zm nx mx zm' nx' mx'∧Left ops.toList tr τ'∧GTr E.P B ops N τ0 μ0 nx0 (tv' τ') (am zm') nx' ts'∧KCorr ts' zs'∧ts'.map (·.o)=(l0++l).reverse
  | [],l0,l2,τ,zm,nx,mx,ts,zs,h1,h2,_,hg,hc,hlo,hl,h=>⟨τ,zm,nx,mx,ts,zs,h,⟨hg.mb,Nat.le_refl _,Nat.le_refl _,fun _ _=>rfl⟩,hl,hg,hc,by rw[h2,List.append_nil]⟩
  | o::l,l0,l2,τ,zm,nx,mx,ts,zs,h1,h2,hD,hg,hc,hlo,hl,h=>by
    have hlen:ts.length=l0.length:=by have:=congrArg List.length h2; simpa using this
    have hop:ops[ts.length]?=some o:=by
      rw[←Array.getElem?_toList,h1,hlen]; simp
    have hd:=hD o (by simp)
    have hD':∀ o∈l,dOk N o.dst=true:=fun o ho=>hD o (by simp [ho])
    have hmem:o∈ops.toList:=by rw[h1]; simp
    have hleft:∀ τ1,(∀ t,o.dst=some t∨τ1 t=τ t)→Left ops.toList tr τ1:=fun τ1 h1 t=>by
      rcases h1 t with h2 | h2
      · exact .inl ⟨o,hmem,h2⟩
      · rw[h2]; exact hl t
    have h0:kgrd ops.toList o.guard τ (fun τ=>kop o.op E run true lo τ zm nx mx fun v zm nx' mx up rd all=>putK o.dst v τ fun τ=>forceN (Nat.succ ts.length) fun i=>kdraw E run ops.toList lo l i τ zm nx' mx (.mk ts.length o nx nx' up rd all::zs) K)
        (fun τ=>putK o.dst (.tup .nl) τ fun τ=>forceN (Nat.succ ts.length) fun i=>kdraw E run ops.toList lo l i τ zm nx mx (.mk ts.length o nx nx [] [] false::zs) K):=h
    have h1':ops.toList=(l0++[o])++l++l2:=by rw[h1]; simp
    have hlr:(l0++[o]++l).reverse=(l0++o::l).reverse:=by simp
    rcases kgrd_s h0 with ⟨hw,h3⟩ | ⟨hw,h3⟩
    · obtain⟨v,zm1,nx1,mx1,up,rd,al,h4,h5,rd',e,h6,h7,h8⟩:=kop_drw hr hE h3 hg.mb hlo
      obtain⟨τ1,h9,h10,h11⟩:=putK_s h4
      rw[forceN_eq] at h9
      have hg1:=hg.op hop hw hd h6
      rw[←h10] at hg1
      have hc1:KCorr (⟨o,e,nx,false⟩::ts) (.mk ts.length o nx nx1 up rd al::zs):=⟨hc,rfl,rfl,by show nx + e.nw.length=nx1; have:=h6.nxt; omega,h6.ups,fun ha=>by show e.rd=rd; rw[h6.rds]; exact h7 ha,fun ha id hid=>h8 ha id (by rw[←h6.rds]; exact hid),rfl⟩
      obtain⟨τ',zm',nx',mx',ts',zs',q1,q2,q3,q4,q5,q6⟩:=kdraw_s hr hE l (l0++[o]) l2 τ1 zm1 nx1 mx1 (⟨o,e,nx,false⟩::ts) _ h1' (by simp [h2]) hD' hg1 hc1 (by have:=h5.nx; omega) (hleft τ1 h11) h9
      exact⟨τ',zm',nx',mx',ts',zs',q1,h5.trans q2,q3,q4,q5,by rw[←hlr]; exact q6⟩
    · obtain⟨τ1,h9,h10,h11⟩:=putK_s h3
      rw[forceN_eq] at h9
      have hg1:=hg.skip hop hw hd
      have h10':tv' τ1=putF o.dst (.tup .nl) (tv' τ):=h10
      rw[←h10'] at hg1
      have hc1:KCorr (⟨o,skipE,nx,true⟩::ts) (.mk ts.length o nx nx [] [] false::zs):=⟨hc,rfl,rfl,rfl,rfl,fun _=>rfl,fun ha=>(by cases ha),rfl⟩
      rw[←hlr]
      exact kdraw_s hr hE l (l0++[o]) l2 τ1 zm nx mx (⟨o,skipE,nx,true⟩::ts) _ h1' (by simp [h2]) hD' hg1 hc1 hlo (hleft τ1 h11) h9
omit [KGl] in
theorem last_split:∀ {l:List Oper}{o:Oper},lastO l=some o→l=initO l++[o]
  | [],o,h=>by cases h
  | [x],o,h=>by cases h; rfl
  | x::y::l,o,h=>by
    have h1:lastO (y::l)=some o:=by
      unfold lastO at h ⊢
      rw[List.getLast?_cons_cons] at h
      exact h
    have:=last_split h1
    unfold initO at this ⊢
    rw[List.dropLast_cons_cons,List.cons_append,←this]
omit [KGl] in
theorem lastAll_s {ops:Array Oper}{o:Oper}{n:Nat}(h:lastAll ops o n=true):(∀ k,k < n→reach ops 6 o k=true)∧∀ k,edgeO o k=true→k < n:=by
  obtain⟨h1,h2⟩:=nd_iff.1 h
  constructor
  · clear h2 h
    induction n with
    | zero=>intro k hk; omega
    | succ n ih =>
      obtain⟨h3,h4⟩:=nd_iff.1 (show nd (@Nat.rec (fun _=>Bool) true (fun k ih=>nd ih (reach ops 6 o k)) n) (reach ops 6 o n)=true from h1)
      intro k hk
      by_cases e:k=n
      · subst e; exact h4
      · exact ih h3 k (by omega)
  · intro k hk
    unfold edgeO at hk
    obtain⟨x,hx,hb⟩:=Array.any_eq_true'.1 hk
    simp only[Bool.and_eq_true,beq_iff_eq] at hb
    have:=Array.all_eq_true'.1 h2 x hx
    simp only[hb.1,Bool.not_true,Bool.false_or,decide_eq_true_eq] at this
    rw[←hb.2]; exact this
theorem kloop_out {c:Code}{mask lo N:Nat}{K:K3}:∀(n:Nat),(∀ m,m < n→KRunOK E B (krun E m))→cOk N c=true→∀(tr:KTm) (zm:KZ) (nx mx:Nat),krun E n mask lo (.loop c) tr zm nx mx K→MB (am zm) nx→lo≤nx→INV mask tr →
    ∃ e tr' zm' nx' mx' k,K e tr' zm' nx' mx'∧KFin lo zm nx mx zm' nx' mx'∧INV mask tr'∧GLoop E.P B c N e (tv' (tget tr')) (am zm') nx' mx' k (tv' (tget tr)) (am zm) nx
  | 0,_,_,tr,zm,nx,mx,h,_,_,_=>BadN.elim (n:=15) h
  | n + 1,IH,hO,tr,zm,nx,mx,h,hmb,hlo,hi=>by
    obtain⟨e,tr1,zm1,nx1,mx1,h1,h2,h3,h4⟩:=IH n (by omega) mask lo c tr zm nx mx (kseq (krun E n) mask lo (.loop c) K) N h hO hmb hlo hi
    have out:e≠.normal→K e tr1 zm1 nx1 mx1→∃ e tr' zm' nx' mx' k,K e tr' zm' nx' mx'∧KFin lo zm nx mx zm' nx' mx'∧INV mask tr'∧GLoop E.P B c N e (tv' (tget tr')) (am zm') nx' mx' k (tv' (tget tr)) (am zm) nx :=
      fun he hk=>⟨e,tr1,zm1,nx1,mx1,1,hk,h2,h3,.out h4 he h2.nx⟩
    cases e with
    | normal =>
      obtain⟨e2,tr2,zm2,nx2,mx2,k,q1,q2,q3,q4⟩:=kloop_out n (fun m hm=>IH m (by omega)) hO tr1 zm1 nx1 mx1 h1 h2.mb (by have:=h2.nx; omega) h3
      exact⟨e2,tr2,zm2,nx2,mx2,k + 1,q1,h2.trans q2,q3,.round h4 h2.nx q2.mx q4⟩
    | exit i=>exact out (by intro h; cases h) h1
    | goto i=>exact out (by intro h; cases h) h1
    | ret=>exact out (by intro h; cases h) h1
    | panic c=>exact out (by intro h; cases h) h1
    | outgrown=>exact out (by intro h; cases h) h1
theorem krun_ok (hE:KOk E) (n:Nat):KRunOK E B (krun E n):=by
  induction n using Nat.strongRecOn with
  | _ n IH =>
  cases n with
  | zero=>intro mask lo c tr zm nx mx K N h; exact BadN.elim (n:=15) h
  | succ n =>
    have ih:=IH n (by omega)
    have same:∀ {lo nx mx:Nat}{zm:KZ},MB (am zm) nx→KFin lo zm nx mx zm nx mx:=fun h=>⟨h,Nat.le_refl _,Nat.le_refl _,fun _ _=>rfl⟩
    intro mask lo c
    cases c with
    | skip=>intro tr zm nx mx K N h _ hmb hlo hi; exact⟨.normal,tr,zm,nx,mx,h,same hmb,hi,GRuns.skip⟩
    | label l=>intro tr zm nx mx K N h _ hmb hlo hi; exact⟨.normal,tr,zm,nx,mx,h,same hmb,hi,GRuns.label⟩
    | exit i=>intro tr zm nx mx K N h _ hmb hlo hi; exact⟨.exit i,tr,zm,nx,mx,h,same hmb,hi,GRuns.exit⟩
    | ret=>intro tr zm nx mx K N h _ hmb hlo hi; exact⟨.ret,tr,zm,nx,mx,h,same hmb,hi,GRuns.ret⟩
    | region id ops draw =>
      intro tr zm nx mx K N h hO hmb hlo hi
      have hD:∀ o∈ops.toList,dOk N o.dst=true:=List.all_eq_true.1 hO
      have hl0:Left ops.toList tr (tget tr):=fun t=>.inr rfl
      cases draw with
      | false =>
        obtain⟨τ',zm',nx',mx',h1,h2,h3,h4⟩:=krops_s (ops:=ops) (tr:=tr) ih hE ops.toList 0 (tget tr) zm nx mx (by simp) hD (show krops E (krun E n) ops.toList lo ops.toList (tget tr) zm nx mx (fun τ zm nx mx=>flush mask τ ops.toList tr fun tr=>K .normal tr zm nx mx) from h) hmb hlo hl0
        obtain⟨tr',h5,h6,h7⟩:=flush_t h1 hi h3
        exact⟨.normal,tr',zm',nx',mx',h5,h2,h6,(GReg.runs h4).imp h7 (MImp.refl _) (Nat.le_refl _) (Nat.le_refl _)⟩
      | true =>
        have std:cDrw ops E (krun E n) mask lo tr zm nx mx K→∃ e tr' zm' nx' mx',K e tr' zm' nx' mx'∧KFin lo zm nx mx zm' nx' mx'∧INV mask tr'∧GRuns E.P B (.region id ops true) (tv' (tget tr)) (am zm) nx N e (tv' (tget tr')) (am zm') nx' mx':=fun h=>by
          obtain⟨hS,h0⟩:=chk_inv (show chk (drawS ops) 180 (kdraw E (krun E n) ops.toList lo ops.toList 0 (tget tr) zm nx mx [] fun τ zm nx mx zs=>chk (drawD ops zs) 181 (flush mask τ ops.toList tr fun tr=>K .normal tr zm nx mx)) from h)
          obtain⟨τ',zm',nx',mx',ts,zs,h1,h2,h3,h4,h5,h6⟩:=kdraw_s (ops:=ops) (tr:=tr) (N:=N) ih hE ops.toList [] [] (tget tr) zm nx mx [] [] (by simp) rfl hD (GTr.nil hmb) trivial hlo hl0 h0
          rw[List.nil_append] at h6
          obtain⟨h7,h8⟩:=chk_inv h1
          obtain⟨tr',h9,h10,h11⟩:=flush_t h8 hi h3
          have hdr:=drawS_sound (ops:=ops) (tr:=ts) (by rw[h6]; exact hS)
          have hdm:=drawD_sound (ops:=ops) h5 h7
          have hlen:ts.length=ops.size:=by have:=congrArg List.length h6; simpa using this
          exact⟨.normal,tr',zm',nx',mx',h9,h2,h10,(GTr.runs hE.mixed h4 hlen hdr.1 hdm hdr.2).imp h11 (MImp.refl _) (Nat.le_refl _) (Nat.le_refl _)⟩
        have h:cDrwX ops E (krun E n) mask lo tr zm nx mx K:=h
        unfold cDrwX at h
        cases hla:lastO ops.toList with
        | none=>rw[hla] at h; exact std h
        | some o =>
          rw[hla] at h
          have h:@Bool.rec (fun _=>CdK) (@Option.rec Oper (fun _=>CdK) (cDrw ops) (fun p=>@Bool.rec (fun _=>CdK) (cDrw ops) (cDrwLL ops p o) (last2 ops p o (initO (initO ops.toList)).length)) (penO ops.toList)) (cDrwL ops o) (nd (lastV o) (lastAll ops o (initO ops.toList).length)) E (krun E n) mask lo tr zm nx mx K:=h
          cases hlv:nd (lastV o) (lastAll ops o (initO ops.toList).length) with
          | false =>
            rw[hlv] at h
            have h:@Option.rec Oper (fun _=>CdK) (cDrw ops) (fun p=>@Bool.rec (fun _=>CdK) (cDrw ops) (cDrwLL ops p o) (last2 ops p o (initO (initO ops.toList)).length)) (penO ops.toList) E (krun E n) mask lo tr zm nx mx K:=h
            cases hpe:penO ops.toList with
            | none=>rw[hpe] at h; exact std h
            | some p =>
              rw[hpe] at h
              have h:@Bool.rec (fun _=>CdK) (cDrw ops) (cDrwLL ops p o) (last2 ops p o (initO (initO ops.toList)).length) E (krun E n) mask lo tr zm nx mx K:=h
              cases hl2:last2 ops p o (initO (initO ops.toList)).length with
              | false=>rw[hl2] at h; exact std h
              | true =>
                rw[hl2] at h
                obtain⟨hS1,h0⟩:=chk_inv (show chk (drawSL ops (initO (initO ops.toList)).reverse) 180 (kdraw E (krun E n) ops.toList lo (initO (initO ops.toList)) 0 (tget tr) zm nx mx [] fun τ zm nx mx zs=>chk (drawD ops zs) 181 (kop p.op E (krun E n) false lo τ zm nx mx fun v zm nx mx _ _ _=>putK p.dst v τ fun τ=>kop o.op E (krun E n) false lo τ zm nx mx fun v zm nx mx _ _ _=>putK o.dst v τ fun τ=>flush mask τ ops.toList tr fun tr=>K .normal tr zm nx mx)) from h)
                unfold last2 at hl2
                simp only[nd_iff] at hl2
                obtain⟨hlp,hgo,hS2,hed,hab2⟩:=hl2
                have hsplit1:ops.toList=initO ops.toList++[o]:=last_split hla
                have hsplit2:initO ops.toList=initO (initO ops.toList)++[p]:=last_split (by simpa [lastO,penO,initO] using hpe)
                have hsplit:ops.toList=initO (initO ops.toList)++[p,o]:=by
                  have:initO (initO ops.toList)++[p,o]=(initO (initO ops.toList)++[p])++[o]:=by simp
                  rw[this,←hsplit2]; exact hsplit1
                obtain⟨τ',zm',nx',mx',ts,zs,h1,h2,h3,h4,h5,h6⟩:=kdraw_s (ops:=ops) (tr:=tr) (N:=N) ih hE (initO (initO ops.toList)) [] [p,o] (tget tr) zm nx mx [] [] (by simpa using hsplit) rfl (fun x hx=>hD x (by rw[hsplit]; simp [hx])) (GTr.nil hmb) trivial hlo hl0 h0
                rw[List.nil_append] at h6
                obtain⟨h7,h8⟩:=chk_inv h1
                have hts:ts.length=(initO (initO ops.toList)).length:=by have:=congrArg List.length h6; simpa using this
                have hlen:ts.length + 2=ops.size:=by
                  have:=congrArg List.length hsplit
                  rw[List.length_append] at this
                  simp only[Array.length_toList,List.length_cons,List.length_nil] at this
                  omega
                have hdr:=drawS_sound (ops:=ops) (tr:=ts) (by rw[h6]; exact hS1)
                have hdm:=drawD_sound (ops:=ops) h5 h7
                have hol:ops[ts.length]?=some p:=by
                  rw[←Array.getElem?_toList,hsplit,hts]; simp
                have ho2:ops[ts.length + 1]?=some o:=by
                  rw[←Array.getElem?_toList,hsplit,hts]; simp
                have hg:p.guard=none:=by
                  unfold lastV at hlp
                  split at hlp
                  · assumption
                  · cases hlp
                have hg2:o.guard=none:=by
                  unfold gNone at hgo
                  split at hgo
                  · assumption
                  · cases hgo
                obtain⟨hal,hab⟩:=lastAll_s hS2
                rw[←hts] at hal hab hed hab2
                have hb2:∀ k,edgeO o k=true→k < ts.length + 1:=fun k hk=>by
                  unfold edgeO at hk
                  obtain⟨x,hx,hb⟩:=Array.any_eq_true'.1 hk
                  simp only[Bool.and_eq_true,beq_iff_eq] at hb
                  have:=Array.all_eq_true'.1 hab2 x hx
                  simp only[hb.1,Bool.not_true,Bool.false_or,decide_eq_true_eq] at this
                  omega
                have hw:GWants (tv' τ') ops p true:=⟨fun C a N ht=>by simp [Region.wanted,hg],by unfold wants; rw[hg]; rfl⟩
                have hdp:=hD p (by rw[hsplit]; simp)
                have hdo:=hD o (by rw[hsplit]; simp)
                obtain⟨v,zm1,nx1,mx1,up,rd,al,k2,k3,k4⟩:=kop_seq ih hE h8 h2.mb (by have:=h2.nx; omega)
                obtain⟨τ1,k5,k6,k7⟩:=putK_s k2
                obtain⟨v2,zm2,nx2,mx2,up2,rd2,al2,q2,q3,q4⟩:=kop_seq ih hE k5 k3.mb (by have:=h2.nx; have:=k3.nx; omega)
                obtain⟨τ2,q5,q6,q7⟩:=putK_s q2
                have hw2:GWants (putF p.dst v.v (tv' τ')) ops o true:=⟨fun C a N ht=>by simp [Region.wanted,hg2],by unfold wants; rw[hg2]; rfl⟩
                have hleft:Left ops.toList tr τ2:=fun t=>by
                  rcases q7 t with q | q
                  · exact .inl ⟨o,by rw[hsplit]; simp,q⟩
                  · rw[q]
                    rcases k7 t with q | q
                    · exact .inl ⟨p,by rw[hsplit]; simp,q⟩
                    · rw[q]; exact h3 t
                obtain⟨tr',h9,h10,h11⟩:=flush_t q5 hi hleft
                rw[q6,k6] at h11
                rw[k6] at q4
                exact⟨.normal,tr',zm2,nx2,mx2,h9,(h2.trans k3).trans q3,h10,(GTr.runsLL hE.mixed h4 hlen ho2 hed hb2 hw2 hdo q4 q3.nx q3.mx hol hal hab hw hdp k4 k3.nx hdr.1 hdm hdr.2).imp h11 (MImp.refl _) (Nat.le_refl _) (Nat.le_refl _)⟩
          | true =>
            rw[hlv] at h
            obtain⟨hS,h0⟩:=chk_inv (show chk (nd (drawSL ops (initO ops.toList).reverse) (lastAll ops o (initO ops.toList).length)) 180 (kdraw E (krun E n) ops.toList lo (initO ops.toList) 0 (tget tr) zm nx mx [] fun τ zm nx mx zs=>chk (drawD ops zs) 181 (kop o.op E (krun E n) false lo τ zm nx mx fun v zm nx mx _ _ _=>putK o.dst v τ fun τ=>flush mask τ ops.toList tr fun tr=>K .normal tr zm nx mx)) from h)
            obtain⟨hS1,hS2⟩:=nd_iff.1 hS
            have hsplit:ops.toList=initO ops.toList++[o]:=last_split hla
            obtain⟨τ',zm',nx',mx',ts,zs,h1,h2,h3,h4,h5,h6⟩:=kdraw_s (ops:=ops) (tr:=tr) (N:=N) ih hE (initO ops.toList) [] [o] (tget tr) zm nx mx [] [] (by simpa using hsplit) rfl (fun x hx=>hD x (by rw[hsplit]; simp [hx])) (GTr.nil hmb) trivial hlo hl0 h0
            rw[List.nil_append] at h6
            obtain⟨h7,h8⟩:=chk_inv h1
            have hts:ts.length=(initO ops.toList).length:=by have:=congrArg List.length h6; simpa using this
            have hlen:ts.length + 1=ops.size:=by
              have:=congrArg List.length hsplit
              rw[List.length_append] at this
              simp only[Array.length_toList,List.length_cons,List.length_nil] at this
              omega
            have hdr:=drawS_sound (ops:=ops) (tr:=ts) (by rw[h6]; exact hS1)
            have hdm:=drawD_sound (ops:=ops) h5 h7
            have hol:ops[ts.length]?=some o:=by
              rw[←Array.getElem?_toList,hsplit,hts]; simp
            have hlv:=(nd_iff.1 hlv).1
            have hg:o.guard=none:=by
              unfold lastV at hlv
              split at hlv
              · assumption
              · cases hlv
            obtain⟨hal,hab⟩:=lastAll_s hS2
            rw[←hts] at hal hab
            have hw:GWants (tv' τ') ops o true:=⟨fun C a N ht=>by simp [Region.wanted,hg],by unfold wants; rw[hg]; rfl⟩
            have hdo:=hD o (by rw[hsplit]; simp)
            obtain⟨v,zm1,nx1,mx1,up,rd,al,k2,k3,k4⟩:=kop_seq ih hE h8 h2.mb (by have:=h2.nx; omega)
            obtain⟨τ1,k5,k6,k7⟩:=putK_s k2
            have hleft:Left ops.toList tr τ1:=fun t=>by
              rcases k7 t with q | q
              · exact .inl ⟨o,by rw[hsplit]; simp,q⟩
              · rw[q]; exact h3 t
            obtain⟨tr',h9,h10,h11⟩:=flush_t k5 hi hleft
            rw[k6] at h11
            exact⟨.normal,tr',zm1,nx1,mx1,h9,h2.trans k3,h10,(GTr.runsL hE.mixed h4 hlen hol hal hab hw hdo k4 k3.nx hdr.1 hdm hdr.2).imp h11 (MImp.refl _) (Nat.le_refl _) (Nat.le_refl _)⟩
    | seq x y =>
      intro tr zm nx mx K N h hO hmb hlo hi
      simp only[cOk,Bool.and_eq_true] at hO
      obtain⟨e,tr1,zm1,nx1,mx1,h1,h2,h3,h4⟩:=ih mask lo x tr zm nx mx (kseq (krun E n) mask lo y K) N h hO.1 hmb hlo hi
      have out:e≠.normal→K e tr1 zm1 nx1 mx1→∃ e tr' zm' nx' mx',K e tr' zm' nx' mx'∧KFin lo zm nx mx zm' nx' mx'∧INV mask tr'∧GRuns E.P B (.seq x y) (tv' (tget tr)) (am zm) nx N e (tv' (tget tr')) (am zm') nx' mx' :=
        fun he hk=>⟨e,tr1,zm1,nx1,mx1,hk,h2,h3,GRuns.seqX he h4⟩
      cases e with
      | normal =>
        obtain⟨e2,tr2,zm2,nx2,mx2,q1,q2,q3,q4⟩:=ih mask lo y tr1 zm1 nx1 mx1 K N h1 hO.2 h2.mb (by have:=h2.nx; omega) h3
        exact⟨e2,tr2,zm2,nx2,mx2,q1,h2.trans q2,q3,GRuns.seq h4 q4 h2.nx q2.nx q2.mx⟩
      | exit i=>exact out (by intro h; cases h) h1
      | goto i=>exact out (by intro h; cases h) h1
      | ret=>exact out (by intro h; cases h) h1
      | panic c=>exact out (by intro h; cases h) h1
      | outgrown=>exact out (by intro h; cases h) h1
    | cond c x y =>
      intro tr zm nx mx K N h hO hmb hlo hi
      simp only[cOk,Bool.and_eq_true] at hO
      obtain⟨b,tr1,hb,h1,hs⟩:=kcond_s (show kcond c tr (fun b tr=>@Bool.rec (fun _=>Prop) (krun E n mask lo y tr zm nx mx K) (krun E n mask lo x tr zm nx mx K) b) from h)
      have hi1:INV mask tr1:=fun t ht=>by rw[hs t]; exact hi t ht
      have hts:tv' (tget tr1)=tv' (tget tr):=by funext t; show (tget tr1 t).v=(tget tr t).v; rw[hs t]
      cases b with
      | true =>
        obtain⟨e,tr',zm',nx',mx',q1,q2,q3,q4⟩:=ih mask lo x tr1 zm nx mx K N h1 hO.1 hmb hlo hi1
        rw[hts] at q4
        exact⟨e,tr',zm',nx',mx',q1,q2,q3,GRuns.cond (b:=true) hb (by simpa using q4)⟩
      | false =>
        obtain⟨e,tr',zm',nx',mx',q1,q2,q3,q4⟩:=ih mask lo y tr1 zm nx mx K N h1 hO.2 hmb hlo hi1
        rw[hts] at q4
        exact⟨e,tr',zm',nx',mx',q1,q2,q3,GRuns.cond (b:=false) hb (by simpa using q4)⟩
    | block id x =>
      intro tr zm nx mx K N h hO hmb hlo hi
      obtain⟨e,tr',zm',nx',mx',q1,q2,q3,q4⟩:=ih mask lo x tr zm nx mx (kblk id K) N h hO hmb hlo hi
      cases e with
      | exit i =>
        have q1':@Bool.rec (fun _=>Prop) (K (.exit i) tr' zm' nx' mx') (K .normal tr' zm' nx' mx') (Nat.beq i id):=q1
        cases hb:Nat.beq i id with
        | true =>
          rw[hb] at q1'
          obtain rfl:=beqE hb
          exact⟨.normal,tr',zm',nx',mx',q1',q2,q3,GRuns.blockE q4⟩
        | false =>
          rw[hb] at q1'
          exact⟨.exit i,tr',zm',nx',mx',q1',q2,q3,GRuns.blockX (fun h=>by injection h with h; subst h; rw[Nat.beq_refl] at hb; cases hb) q4⟩
      | normal=>exact⟨_,tr',zm',nx',mx',q1,q2,q3,GRuns.blockX (by intro h; cases h) q4⟩
      | goto i=>exact⟨_,tr',zm',nx',mx',q1,q2,q3,GRuns.blockX (by intro h; cases h) q4⟩
      | ret=>exact⟨_,tr',zm',nx',mx',q1,q2,q3,GRuns.blockX (by intro h; cases h) q4⟩
      | panic c=>exact⟨_,tr',zm',nx',mx',q1,q2,q3,GRuns.blockX (by intro h; cases h) q4⟩
      | outgrown=>exact⟨_,tr',zm',nx',mx',q1,q2,q3,GRuns.blockX (by intro h; cases h) q4⟩
    | scope x =>
      intro tr zm nx mx K N h hO hmb hlo hi
      obtain⟨e,tr',zm',nx',mx',q1,q2,q3,q4⟩:=ih mask lo x tr zm nx mx (kscope K) N h hO hmb hlo hi
      cases e with
      | goto i=>exact BadN.elim (n:=11) q1
      | normal=>exact⟨_,tr',zm',nx',mx',q1,q2,q3,GRuns.scope (by intro i h; cases h) q4⟩
      | exit i=>exact⟨_,tr',zm',nx',mx',q1,q2,q3,GRuns.scope (by intro i h; cases h) q4⟩
      | ret=>exact⟨_,tr',zm',nx',mx',q1,q2,q3,GRuns.scope (by intro i h; cases h) q4⟩
      | panic c=>exact⟨_,tr',zm',nx',mx',q1,q2,q3,GRuns.scope (by intro i h; cases h) q4⟩
      | outgrown=>exact⟨_,tr',zm',nx',mx',q1,q2,q3,GRuns.scope (by intro i h; cases h) q4⟩
    | loop x =>
      intro tr zm nx mx K N h hO hmb hlo hi
      obtain⟨e,tr',zm',nx',mx',k,q1,q2,q3,q4⟩:=kloop_out (c:=x) (n + 1) IH (show cOk N x=true from hO) tr zm nx mx h hmb hlo hi
      exact⟨e,tr',zm',nx',mx',q1,q2,q3,q4.runs⟩
    | rangeFunc f ps x y =>
      intro tr zm nx mx K N h hO hmb hlo hi
      obtain⟨gf,caps,hf,h1⟩:=(onFn_inv (show onFn (rngK E (krun E n) mask lo ps x y tr zm nx mx K) (BadN 12) (kev (tget tr) f) from h)).resolve_right fun h=>(show BadN 12 from h.2).elim
      obtain⟨hlt,h1⟩:=chk_inv h1
      rw[Nat.blt_eq] at hlt
      obtain⟨cs,h2,h3⟩:=unLK_s caps _ h1
      rw[setTK_eq,fN_eq] at h2
      have hmb1:MB (am (set (some (⟨.lp mask ps x y,.nl,.cons .nl (.ar 0 .unk (toKV tr))⟩:KBlk)) (enc nx) zm)) (nx + 2):=fun i hi=>by
        rw[am_setS,upd_other _ _ (by omega)]; exact hmb i (by omega)
      obtain⟨⟨fn,q1,q2,q3⟩,v,zm2,nx2,mx2,q4,q5,q6⟩:=callR_s (B:=B) ih hE h2 hmb1 (show lo≤nx + 2 by omega)
      obtain⟨kd,sh,v2,hb,h5⟩:=oB_inv q4
      have hn2:=q5.nx
      cases kd with
      | box=>exact (show BadN 202 from h5).elim
      | row e=>exact (show BadN 202 from h5).elim
      | dead=>exact (show BadN 202 from h5).elim
      | mp=>exact (show BadN 202 from h5).elim
      | lp mask' ps' x' y' =>
        obtain⟨st,w,rfl,h6⟩:=(onCons_inv h5).resolve_right fun h=>(show BadN 203 from h.2).elim
        obtain⟨e,h7,h8⟩:=stK_s h6
        rw[setTK_eq] at h7
        have hτ:tv' (tget tr)=fun i=>(toKV tr).atv (enc i) .unk:=by funext i; exact (toKV_v (enc i) tr).symm
        refine⟨e,tr,_,nx2,mx2,h7,⟨fun i hi=>?_,Nat.le_trans (Nat.le_add_right nx 2) hn2,q5.mx,fun i hi=>?_⟩,hi,?_⟩
        · rw[am_none]
          by_cases e1:i=nx
          · subst e1; rw[upd_same]
          · rw[upd_other _ _ e1]; exact q5.mb i hi
        · rw[am_none,upd_other _ _ (by omega),q5.low i hi,am_setS,upd_other _ _ (by omega)]
        · rw[am_none]
          rw[am_setS] at q6
          refine GRuns.range (k0:=0) (mask:=mask) (sh:=.nl) (v:=v.v) (by rw[←kev_v,hf]; rfl) hlt q1 q2 q3 (fun t ht=>hi t ht) hO hmb ?_ hn2 (st:=st.v) (τ':=w.v) (am_some hb) h8
          rw[hτ]
          have hl:(KV.yld nx::cs).map KV.v=V.yld nx::unL caps.v:=by rw[List.map_cons,h3]; rfl
          rw[hl] at q6
          exact q6
    | goto l=>intro tr zm nx mx K N h; exact BadN.elim (n:=13) h
    | refuse w=>intro tr zm nx mx K N h; exact BadN.elim (n:=14) h
end
end
end Go.K
namespace Go.K
open Go.Ab Go.RowKit Go.Y
noncomputable section
variable [KGl]
theorem csoundK {E:KEnv}(hE:KOk E) {n fid:Nat}{args:List KV}{v:KV}(h:callR E (krun E n) 0 fid args .e 0 0 fun r _ _ _=>tK (kvb r v)) (hv:noRef v.v=true) :
    CSoundG E.P fid { pre:=fun l=>@decide (l=args.map KV.v) (Classical.propDecidable _),res:=fun _=>v.v,fresh:=true }:=by
  have hme:MB (am (.e:KZ)) 0:=by rw[am_e]; exact emptyB 0
  refine⟨(callR_s (B:=0) (krun_ok hE n) hE h hme (Nat.le_refl 0)).1,fun C l vals hok hg hargs hpre=>?_⟩
  have hl:l=args.map KV.v:=@of_decide_eq_true _ (Classical.propDecidable _) hpre
  subst hl
  obtain⟨_,r,zm',nx',mx',h1,h2,h3⟩:=callR_s (B:=C.w.heap.size) (krun_ok hE n) hE h hme (Nat.le_refl 0)
  obtain rfl:=kvb_s (tK_s h1)
  have hz:GR C.w.heap.size (nx' + mx') C.pur (fun _=>none) (am .e) 0 :=
    ⟨⟨Nat.le_refl _,hok,(fun _ _ h=>(by cases h)),(fun _ _ h=>(by cases h)),(fun _ _ _ _ _ h=>(by cases h)),(fun _ _ _ h=>(by cases h)),hg⟩,(fun id b hb=>by rw[am_e] at hb; cases hb),fun _ _ _ h=>h⟩
  refine (h3 (nx' + mx') C.pur (fun _=>none) vals (by omega) (by omega) hz hargs).mono ?_
  rintro e w' ⟨val,he,C',M',hw,hR,_,hc⟩
  subst hw
  exact⟨hc.kp.below,val,he,R.noref _ hv hR⟩
def kcon (args:List KV) (v:KV):KSpec:=fun l K=>chk (kvbs l args) 190 (K v)
theorem kcon_s {E:KEnv}(hE:KOk E) {n fid:Nat}{args:List KV}{v:KV}(h:callR E (krun E n) 0 fid args .e 0 0 fun r _ _ _=>tK (kvb r v)) (hv:noRef v.v=true) (hn:noId (mkL (args.map KV.v))=true):KCS E.P fid (kcon args v):=by
  have hc:=csoundK hE h hv
  refine⟨hc.1,fun l K hs=>?_⟩
  obtain⟨h1,h2⟩:=chk_inv hs
  obtain rfl:=kvbs_s h1
  refine⟨v,h2,fun B μ nx mx l0 hl0=>?_⟩
  have hu:unL (mkL (l.map KV.v))=l.map KV.v:=by
    generalize l.map KV.v=r
    induction r with
    | nil=>rfl
    | cons x r ih=>show x::unL (mkL r)=_; rw[ih]
  have:=con_call (B:=B) (μ:=μ) (nx:=nx) (mx:=mx) hE.gn hc rfl hl0 (by rw[hu]; exact @decide_eq_true _ (Classical.propDecidable _) rfl)
  rw[hu] at this
  exact this
theorem calls_of {P:Program}{fid:FuncId}{s:CSpec}{W:World}{args:List V}{vals:List Value}(h:CSoundG P fid s) (hg:∀ C:Ctx,C.w=W→∀ g,R C.pur (Gl.G g) (.val (.pointer (some ⟨g,0,none⟩)))) (hargs:∀ C:Ctx,R C (mkL args) (.list vals)) (hp:s.pre args=true) (hr:s.res args=.bool true) :
    Calls P fid vals.toArray W fun e w'=>RowKit.Below W.heap.size W w'∧e=.returned (.bool true):=by
  refine (h.2 ⟨fun _ _=>False,fun _=>False,fun _=>.bool true,fun _=>.sc,W⟩ args vals (fun _ _ h=>h.elim) (hg _ rfl) (hargs _) hp).mono ?_
  rintro e w' ⟨hb,r,rfl,hR⟩
  rw[hr] at hR
  cases hR
  exact⟨hb,rfl⟩
section
variable {E:KEnv}{B N mask:Nat}
def KW (E:KEnv) (B N mask:Nat) (c:Code) (tr:KTm) (zm:KZ) (nx:Nat) (Q:Exit→KTm→KZ→Nat→Prop):Prop :=
  ∃ e tr' zm' nx' mx',Q e tr' zm' nx'∧MB (am zm') nx'∧nx≤nx'∧INV mask tr'∧GRuns E.P B c (tv' (tget tr)) (am zm) nx N e (tv' (tget tr')) (am zm') nx' mx'
variable {c:Code}{tr:KTm}{zm:KZ}{nx:Nat}{Q:Exit→KTm→KZ→Nat→Prop}
theorem KW.run (hE:KOk E) {n:Nat}(h:krun E n mask 0 c tr zm nx 0 fun e tr zm nx _=>Q e tr zm nx) (hO:cOk N c=true) (hmb:MB (am zm) nx) (hi:INV mask tr):KW E B N mask c tr zm nx Q:=by
  obtain⟨e,tr',zm',nx',mx',h1,h2,h3,h4⟩:=krun_ok (B:=B) hE n mask 0 c tr zm nx 0 _ N h hO hmb (Nat.zero_le _) hi
  exact⟨e,tr',zm',nx',mx',h1,h2.mb,h2.nx,h3,h4⟩
theorem KW.seq {a b:Code}(h:KW E B N mask a tr zm nx fun e tr zm nx=>(e=.normal∧KW E B N mask b tr zm nx Q)∨(e≠.normal∧Q e tr zm nx)):KW E B N mask (.seq a b) tr zm nx Q:=by
  obtain⟨e,tr1,zm1,nx1,mx1,h1,h2,h3,h4,h5⟩:=h
  rcases h1 with ⟨rfl,e2,tr2,zm2,nx2,mx2,q1,q2,q3,q4,q5⟩ | ⟨he,h1⟩
  · exact⟨e2,tr2,zm2,nx2,mx1 + mx2,q1,q2,by omega,q4,GRuns.seq h5 (q5.imp (TImp.refl _) (MImp.refl _) (Nat.le_refl _) (by omega)) h3 q3 (by omega)⟩
  · exact⟨e,tr1,zm1,nx1,mx1,h1,h2,h3,h4,GRuns.seqX he h5⟩
theorem KW.mono {Q':Exit→KTm→KZ→Nat→Prop}(h:KW E B N mask c tr zm nx Q) (hq:∀ e tr zm nx,MB (am zm) nx→INV mask tr→Q e tr zm nx→Q' e tr zm nx):KW E B N mask c tr zm nx Q':=by
  obtain⟨e,tr1,zm1,nx1,mx1,h1,h2,h3,h4,h5⟩:=h
  exact⟨e,tr1,zm1,nx1,mx1,hq _ _ _ _ h2 h4 h1,h2,h3,h4,h5⟩
theorem KW.block {id:Nat}(h:KW E B N mask c tr zm nx fun e tr zm nx=>(e=.exit id∧Q .normal tr zm nx)∨(e≠.exit id∧Q e tr zm nx)):KW E B N mask (.block id c) tr zm nx Q:=by
  obtain⟨e,tr1,zm1,nx1,mx1,h1,h2,h3,h4,h5⟩:=h
  rcases h1 with ⟨rfl,h1⟩ | ⟨he,h1⟩
  · exact⟨.normal,tr1,zm1,nx1,mx1,h1,h2,h3,h4,GRuns.blockE h5⟩
  · exact⟨e,tr1,zm1,nx1,mx1,h1,h2,h3,h4,GRuns.blockX he h5⟩
theorem KW.loop {S:Nat→KTm×KZ×Nat}{m:Nat}(hn:∀ i,i < m→KW E B N mask c (S i).1 (S i).2.1 (S i).2.2 fun e tr zm nx=>e=.normal∧tr=(S (i + 1)).1∧zm=(S (i + 1)).2.1∧nx=(S (i + 1)).2.2)
    (hx:KW E B N mask c (S m).1 (S m).2.1 (S m).2.2 fun e tr zm nx=>e≠.normal∧Q e tr zm nx):KW E B N mask (.loop c) (S 0).1 (S 0).2.1 (S 0).2.2 Q:=by
  have key:∀ k,k≤m→∃ e tr' zm' nx' mx',Q e tr' zm' nx'∧MB (am zm') nx'∧(S (m - k)).2.2≤nx'∧INV mask tr'∧GLoop E.P B c N e (tv' (tget tr')) (am zm') nx' mx' (k + 1) (tv' (tget (S (m - k)).1)) (am (S (m - k)).2.1) (S (m - k)).2.2:=by
    intro k
    induction k with
    | zero =>
      intro _
      obtain⟨e,tr1,zm1,nx1,mx1,⟨h0,h1⟩,h2,h3,h4,h5⟩:=hx
      exact⟨e,tr1,zm1,nx1,mx1,h1,h2,h3,h4,.out h5 h0 h3⟩
    | succ k ih =>
      intro hk
      obtain⟨e,tr',zm',nx',mx',q1,q2,q3,q4,q5⟩:=ih (by omega)
      obtain⟨e1,tr1,zm1,nx1,mx1,⟨rfl,rfl,rfl,rfl⟩,h2,h3,h4,h5⟩:=hn (m - (k + 1)) (by omega)
      rw[show m - (k + 1) + 1=m - k by omega] at *
      have up:∀ {mx2:Nat}{j:Nat}{τ:Nat→V}{μ:Mem}{n:Nat},mx'≤mx2→GLoop E.P B c N e (tv' (tget tr')) (am zm') nx' mx' j τ μ n→GLoop E.P B c N e (tv' (tget tr')) (am zm') nx' mx2 j τ μ n:=by
        intro mx2 j τ μ n hm hg
        induction hg with
        | out h he hle=>exact .out (h.imp (TImp.refl _) (MImp.refl _) (Nat.le_refl _) hm) he hle
        | round h hle hlx _ ih=>exact .round h hle (by omega) ih
      exact⟨e,tr',zm',nx',mx' + mx1,q1,q2,by omega,q4,.round h5 h3 (by omega) (up (by omega) q5)⟩
  obtain⟨e,tr',zm',nx',mx',q1,q2,q3,q4,q5⟩:=key m (Nat.le_refl _)
  rw[Nat.sub_self] at q3 q5
  exact⟨e,tr',zm',nx',mx',q1,q2,q3,q4,q5.runs⟩
theorem KW.weak {e0:Exit}{tr2:KTm}{zm2:KZ}{nx2:Nat}(h:KW E B N mask c tr zm nx fun e tr zm nx=>e=e0∧TImp (tv' (tget tr)) (tv' (tget tr2))∧MImp (am zm) (am zm2)∧nx≤nx2) (hi:INV mask tr2) (hq:Q e0 tr2 zm2 nx2):KW E B N mask c tr zm nx Q:=by
  obtain⟨e,tr1,zm1,nx1,mx1,⟨rfl,h6,h7,h8⟩,h2,h3,h4,h5⟩:=h
  refine⟨e,tr2,zm2,nx2,mx1,hq,fun id hid=>?_,by omega,hi,h5.imp h6 h7 h8 (Nat.le_refl _)⟩
  cases hz:am zm2 id with
  | none=>rfl
  | some b=>obtain⟨b1,hb,_⟩:=h7 id b hz; rw[h2 id (by omega)] at hb; cases hb
def mkTr:List (Nat×KV)→KTm
  | []=>.e
  | (t,v)::l=>set v (enc t) (mkTr l)
def mkZm:List (Nat×KBlk)→KZ
  | []=>.e
  | (id,b)::l=>set (some b) (enc id) (mkZm l)
omit [KGl] in
theorem tget_mk {t:Nat}:∀ {l:List (Nat×KV)},tget (mkTr l) t=.unk∨∃ v,(t,v)∈l∧tget (mkTr l) t=v
  | []=>.inl (tget_e t)
  | (d,v)::l=>by
    rw[show mkTr ((d,v)::l)=set v (enc d) (mkTr l) from rfl,tget_set]
    by_cases h:t=d
    · rw[if_pos h]; subst h; exact .inr ⟨v,by simp,rfl⟩
    · rw[if_neg h]
      rcases tget_mk (t:=t) (l:=l) with h1 | ⟨w,h1,h2⟩
      · exact .inl h1
      · exact .inr ⟨w,by simp [h1],h2⟩
omit [KGl] in
theorem kb_mk {id:Nat}:∀ {l:List (Nat×KBlk)},kb (mkZm l) id=none∨∃ b,(id,b)∈l∧kb (mkZm l) id=some b
  | []=>.inl (by unfold kb mkZm; exact get_e _ _)
  | (d,v)::l=>by
    rw[show mkZm ((d,v)::l)=set (some v) (enc d) (mkZm l) from rfl,kb_set]
    by_cases h:id=d
    · rw[if_pos h]; subst h; exact .inr ⟨v,by simp,rfl⟩
    · rw[if_neg h]
      rcases kb_mk (id:=id) (l:=l) with h1 | ⟨w,h1,h2⟩
      · exact .inl h1
      · exact .inr ⟨w,by simp [h1],h2⟩
def kindB (a b:Kind):Bool:=match a,b with
  | .box a,.box b=>Nat.beq a b
  | .row e,.row f=>Nat.beq e f
  | .dead,.dead=>true
  | _,_=>false
def blkB (a b:KBlk):Bool:=nd (kindB a.k b.k) (nd (a.sh.beq b.sh) (kvb a.v b.v))
omit [KGl] in
theorem blkB_s {a b:KBlk}(h:blkB a b=true):a=b:=by
  obtain⟨k,s,v⟩:=a
  obtain⟨k',s',v'⟩:=b
  obtain⟨h1,h2⟩:=nd_iff.1 h
  obtain⟨h2,h3⟩:=nd_iff.1 h2
  have h4:k=k':=by
    cases k<;>cases k'<;>first | rfl | (cases h1; done) | (replace h1:=beqE h1; subst h1; rfl)
  have h5:=Shape.eq_of_beq h2
  have h6:=kvb_s h3
  simp only at h5 h6
  rw[h4,h5,h6]
def trT (tr:KTm):List (Nat×KV)→Bool
  | []=>true
  | (t,v)::l=>nd (kvb (tget tr t) v) (trT tr l)
def oblkB (a:Option KBlk) (b:KBlk):Bool:=match a with
  | some a=>blkB a b
  | none=>false
def zmT (zm:KZ):List (Nat×KBlk)→Bool
  | []=>true
  | (id,b)::l=>nd (oblkB (kb zm id) b) (zmT zm l)
omit [KGl] in
theorem trT_s {tr:KTm}:∀ {l:List (Nat×KV)},trT tr l=true→∀ t v,(t,v)∈l→tget tr t=v
  | [],_,t,v,hm=>by cases hm
  | (d,w)::l,h,t,v,hm=>by
    obtain⟨h1,h2⟩:=nd_iff.1 (show nd (kvb (tget tr d) w) (trT tr l)=true from h)
    rcases List.mem_cons.1 hm with h3 | h3
    · cases h3; exact kvb_s h1
    · exact trT_s h2 t v h3
omit [KGl] in
theorem zmT_s {zm:KZ}:∀ {l:List (Nat×KBlk)},zmT zm l=true→∀ id b,(id,b)∈l→kb zm id=some b
  | [],_,t,v,hm=>by cases hm
  | (d,w)::l,h,id,b,hm=>by
    obtain⟨h1,h2⟩:=nd_iff.1 (show nd (oblkB (kb zm d) w) (zmT zm l)=true from h)
    rcases List.mem_cons.1 hm with h3 | h3
    · rw[(Prod.mk.inj h3).1,(Prod.mk.inj h3).2]
      cases hk:kb zm d with
      | none=>rw[hk] at h1; cases h1
      | some a=>rw[hk] at h1; rw[blkB_s (show blkB a w=true from h1)]
    · exact zmT_s h2 id b h3
def exB (a b:Exit):Bool:=match a,b with
  | .normal,.normal=>true
  | .ret,.ret=>true
  | .exit i,.exit j=>Nat.beq i j
  | _,_=>false
omit [KGl] in
theorem exB_s {a b:Exit}(h:exB a b=true):a=b:=by
  unfold exB at h
  split at h
  · rfl
  · rfl
  · rw[beqE h]
  · cases h
def stT (e0:Exit) (lt:List (Nat×KV)) (lz:List (Nat×KBlk)) (n:Nat) (e:Exit) (tr:KTm) (zm:KZ) (nx:Nat):Bool:=nd (exB e e0) (nd (trT tr lt) (nd (zmT zm lz) (Nat.ble nx n)))
def keepL (mask:Nat):List (Nat×KV)→Bool
  | []=>true
  | (t,_)::l=>nd (keepB mask t) (keepL mask l)
omit [KGl] in
theorem keepL_s {mask:Nat}:∀ {l:List (Nat×KV)},keepL mask l=true→∀ t v,(t,v)∈l→keepB mask t=true
  | [],_,t,v,hm=>by cases hm
  | (d,w)::l,h,t,v,hm=>by
    obtain⟨h1,h2⟩:=nd_iff.1 (show nd (keepB mask d) (keepL mask l)=true from h)
    rcases List.mem_cons.1 hm with h3 | h3
    · cases h3; exact h1
    · exact keepL_s h2 t v h3
omit [KGl] in
theorem INV.mk {lt:List (Nat×KV)}(h:keepL mask lt=true):INV mask (mkTr lt):=fun t ht=>by
  rcases tget_mk (t:=t) (l:=lt) with h1 | ⟨v,h1,_⟩
  · rw[h1]; rfl
  · rw[keepL_s h t v h1] at ht; cases ht
def ltL (n:Nat):List (Nat×KBlk)→Bool
  | []=>true
  | (id,_)::l=>nd (Nat.blt id n) (ltL n l)
omit [KGl] in
theorem ltL_s {n:Nat}:∀ {l:List (Nat×KBlk)},ltL n l=true→∀ id b,(id,b)∈l→id < n
  | [],_,t,v,hm=>by cases hm
  | (d,w)::l,h,t,v,hm=>by
    obtain⟨h1,h2⟩:=nd_iff.1 (show nd (Nat.blt d n) (ltL n l)=true from h)
    rcases List.mem_cons.1 hm with h3 | h3
    · cases h3; exact nblt.1 h1
    · exact ltL_s h2 t v h3
omit [KGl] in
theorem MB.mk {lz:List (Nat×KBlk)}{n:Nat}(h:ltL n lz=true):MB (am (mkZm lz)) n:=fun id hid=>by
  unfold am
  rcases kb_mk (id:=id) (l:=lz) with h1 | ⟨b,h1,_⟩
  · rw[h1]; rfl
  · have:=ltL_s h id b h1; omega
theorem KW.piece (hE:KOk E) {n:Nat}{lt0:List (Nat×KV)}{lz0:List (Nat×KBlk)}{n0:Nat}{e0:Exit}{lt:List (Nat×KV)}{lz:List (Nat×KBlk)}{n1:Nat}
    (h:krun E n mask 0 c (mkTr lt0) (mkZm lz0) n0 0 fun e tr zm nx _=>tK (stT e0 lt lz n1 e tr zm nx)) (hO:cOk N c=true) (h1:nd (ltL n0 lz0) (nd (keepL mask lt0) (keepL mask lt))=true) (hq:Q e0 (mkTr lt) (mkZm lz) n1):KW E B N mask c (mkTr lt0) (mkZm lz0) n0 Q:=by
  simp only[nd_iff] at h1
  refine KW.weak ((KW.run (Q:=fun e tr zm nx=>tK (stT e0 lt lz n1 e tr zm nx)) hE h hO (MB.mk h1.1) (INV.mk h1.2.1)).mono fun e tr zm nx _ _ hk=>?_) (INV.mk h1.2.2) hq
  have hs:=tK_s hk
  unfold stT at hs
  simp only[nd_iff] at hs
  refine⟨exB_s hs.1,fun t x C hx=>?_,fun id b hb=>?_,Nat.le_of_ble_eq_true hs.2.2.2⟩
  · show R C (tget (mkTr lt) t).v (.val x)
    rcases tget_mk (t:=t) (l:=lt) with q | ⟨v,q1,q2⟩
    · rw[q]; trivial
    · rw[q2,←trT_s hs.2.1 t v q1]; exact hx
  · unfold am at hb
    rcases kb_mk (id:=id) (l:=lz) with q | ⟨b',q1,q2⟩
    · rw[q] at hb; cases hb
    · rw[q2] at hb
      cases hb
      exact⟨_,am_some (zmT_s hs.2.2.1 id b' q1),BImp.refl _⟩
end
end
end Go.K
namespace Go.K
open Go.Ab Go.RowKit Go.Y
noncomputable section
variable [KGl]
def sL:Code→Code
  | .seq a _=>a
  | c=>c
def sR:Code→Code
  | .seq _ b=>b
  | c=>c
def blB:Code→Code
  | .block _ b=>b
  | c=>c
def lpB:Code→Code
  | .loop b=>b
  | c=>c
section
variable {E:KEnv}{B N mask:Nat}
theorem KW.piece2 (hE:KOk E) {n:Nat}{a b c:Code}{lt0:List (Nat×KV)}{lz0:List (Nat×KBlk)}{n0:Nat}{lt:List (Nat×KV)}{lz:List (Nat×KBlk)}{n1:Nat}{Q:Exit→KTm→KZ→Nat→Prop}
    (h:krun E n mask 0 a (mkTr lt0) (mkZm lz0) n0 0 fun e tr zm nx mx=>chk (exB e .normal) 0 (krun E n mask 0 b tr zm nx mx fun e tr zm nx _=>tK (stT .normal lt lz n1 e tr zm nx))) (hO:cOk N a=true) (hO2:cOk N b=true) (h1:nd (ltL n0 lz0) (nd (keepL mask lt0) (keepL mask lt))=true)
    (hq:KW E B N mask c (mkTr lt) (mkZm lz) n1 Q):KW E B N mask (.seq a (.seq b c)) (mkTr lt0) (mkZm lz0) n0 Q:=by
  simp only[nd_iff] at h1
  obtain⟨e,tr1,zm1,nx1,mx1,q1,q2,q3,q4⟩:=krun_ok (B:=B) hE n mask 0 a _ _ _ _ _ N h hO (MB.mk h1.1) (Nat.zero_le _) (INV.mk h1.2.1)
  obtain⟨q5,q6⟩:=chk_inv q1
  obtain rfl:=exB_s q5
  refine KW.seq ⟨.normal,tr1,zm1,nx1,mx1,.inl ⟨rfl,?_⟩,q2.mb,q2.nx,q3,q4⟩
  refine KW.seq ?_
  obtain⟨e2,tr2,zm2,nx2,mx2,r1,r2,r3,r4⟩:=krun_ok (B:=B) hE n mask 0 b _ _ _ _ _ N q6 hO2 q2.mb (Nat.zero_le _) q3
  have hs:=tK_s r1
  unfold stT at hs
  simp only[nd_iff] at hs
  refine KW.weak (e0:=.normal) (tr2:=mkTr lt) (zm2:=mkZm lz) (nx2:=n1) ⟨e2,tr2,zm2,nx2,mx2,⟨exB_s hs.1,fun t x C hx=>?_,fun id b hb=>?_,Nat.le_of_ble_eq_true hs.2.2.2⟩,r2.mb,r2.nx,r3,r4⟩ (INV.mk h1.2.2) (.inl ⟨rfl,hq⟩)
  · show R C (tget (mkTr lt) t).v (.val x)
    rcases tget_mk (t:=t) (l:=lt) with q | ⟨v,q1,q2⟩
    · rw[q]; trivial
    · rw[q2,←trT_s hs.2.1 t v q1]; exact hx
  · unfold am at hb
    rcases kb_mk (id:=id) (l:=lz) with q | ⟨b',q1,q2⟩
    · rw[q] at hb; cases hb
    · rw[q2] at hb
      cases hb
      exact⟨_,am_some (zmT_s hs.2.2.1 id b' q1),BImp.refl _⟩
end
theorem csoundW {E:KEnv}(hE:KOk E) {fid mask:Nat}{fn:Func}{c:Code}{v:V}(hfn:E.P.funcs[fid]?=some fn) (hb:fn.body=some c)
    (h:∀ B N,fn.ntmps≤N→KW E B N mask c .e .e 0 fun e tr zm nx=>(e=.normal∨e=.ret)∧RAll E.P (tv' (tget tr)) (am zm) fn.results.toList v) (hv:noRef v=true) :
    CSoundG E.P fid { pre:=fun l=>l.isEmpty,res:=fun _=>v,fresh:=true }:=by
  obtain⟨hname,hcode⟩:=hE.fns.get hfn
  refine⟨⟨fn,hfn,hname,by rw[hb]; rfl⟩,fun C l vals hok hg hargs hpre=>?_⟩
  obtain rfl:l=[]:=by simpa using hpre
  obtain⟨e,tr',zm',nx',mx',⟨q1,q2⟩,q3,q4,q5,q6⟩:=h C.w.heap.size (0 + (fn.ntmps - 0)) (by omega)
  have hz:GR C.w.heap.size (nx' + mx') C.pur (fun _=>none) (am .e) 0 :=
    ⟨⟨Nat.le_refl _,hok,(fun _ _ h=>(by cases h)),(fun _ _ h=>(by cases h)),(fun _ _ _ _ _ h=>(by cases h)),(fun _ _ _ h=>(by cases h)),hg⟩,(fun id b hb=>by rw[am_e] at hb; cases hb),fun _ _ _ h=>h⟩
  have hc:GCall E.P C.w.heap.size fid [] (am .e) 0 v (am zm') nx' mx':=GCall.body (l:=[]) hfn hb (fun t x D hx=>by show R D (tget .e t).v (.val x); rw[tget_e]; trivial) q6 q1 q2
  refine (hc (nx' + mx') C.pur (fun _=>none) vals (by omega) (by omega) hz hargs).mono ?_
  rintro e w' ⟨val,he,C',M',hw,hR,_,hc'⟩
  subst hw
  exact⟨hc'.kp.below,val,he,R.noref _ hv hR⟩
end
end Go.K
namespace Go.K
open Go.Ab Go.RowKit Go.Y
noncomputable section
variable [KGl]
def allPN (P:Nat→Prop):Nat→Prop
  | 0=>True
  | n + 1=>allPN P n∧P n
omit [KGl] in
theorem allPN_lt {P:Nat→Prop}:∀ {n:Nat},allPN P n→∀ t,t < n→P t
  | 0,_,t,h=>by omega
  | n + 1,h,t,ht=>by
    rcases Nat.lt_or_ge t n with h1 | h1
    · exact allPN_lt h.1 t h1
    · obtain rfl:t=n:=by omega
      exact h.2
theorem kcs_fam {P:Program}{fid:FuncId}{args:Nat→List KV}{v:Nat→KV}{N:Nat}{s:KSpec}(hN:0 < N) (h:∀ n,n < N→KCS P fid (kcon (args n) (v n))) (hr:∀ n,n < N→kvbs (args n) (args n)=true)
    (hs:∀(l:List KV) (K:KV→Prop),s l K→∃ n,n < N∧l=args n∧K (v n)):KCS P fid s:=by
  refine⟨(h 0 hN).1,fun l K hk=>?_⟩
  obtain⟨n,hn,rfl,hK⟩:=hs l K hk
  obtain⟨w,h1,h2⟩:=(h n hn).2 (args n) (fun x=>x=v n) (by
    show chk (kvbs (args n) (args n)) 190 (v n=v n)
    rw[hr n hn]
    rfl)
  subst h1
  exact⟨_,hK,h2⟩
omit [KGl] in
theorem kvbs_u8 (n:Nat):kvbs [.int .u8 (.ofNat n)] [.int .u8 (.ofNat n)]=true:=by
  show nd (nd (ikEq .u8 .u8) (Nat.beq n n)) true=true
  rw[Nat.beq_refl]; rfl
omit [KGl] in
theorem kvbs_u8u8 (m n:Nat):kvbs [.int .u8 (.ofNat m),.int .u8 (.ofNat n)] [.int .u8 (.ofNat m),.int .u8 (.ofNat n)]=true:=by
  show nd (nd (ikEq .u8 .u8) (Nat.beq m m)) (nd (nd (ikEq .u8 .u8) (Nat.beq n n)) true)=true
  rw[Nat.beq_refl,Nat.beq_refl]; rfl
def byteK (x:KV) (f:Nat→Prop):Prop:=onInt (fun k a=>chk (ikEq k .u8) 253 (@Int.rec (fun _=>Prop) (fun n=>chk (Nat.blt n 256) 254 (f n)) (fun _=>BadN 255) a)) (BadN 256) x
omit [KGl] in
theorem byteK_s {x:KV}{f:Nat→Prop}(h:byteK x f):∃ n,n < 256∧x=.int .u8 (.ofNat n)∧f n:=by
  rcases onInt_inv h with ⟨k,a,rfl,h1⟩ | ⟨_,h1⟩
  · obtain⟨h2,h3⟩:=chk_inv h1
    obtain rfl:=ikEq_eq h2
    cases a with
    | ofNat n =>
      obtain⟨h4,h5⟩:=chk_inv (show chk (Nat.blt n 256) 254 (f n) from h3)
      rw[Nat.blt_eq] at h4
      exact⟨n,h4,rfl,h5⟩
    | negSucc n=>exact (show BadN 255 from h3).elim
  · exact h1.elim
def la1 (l:List KV) (f:KV→Prop):Prop:=match l with
  | [x]=>f x
  | _=>BadN 257
omit [KGl] in
theorem la1_s {l:List KV}{f:KV→Prop}(h:la1 l f):∃ x,l=[x]∧f x:=by
  unfold la1 at h
  split at h
  · exact⟨_,rfl,h⟩
  · exact h.elim
def sTab1 (T:Nat):KSpec:=fun l K=>la1 l fun x=>byteK x fun n=>forceN (pkr .u8 T n) fun r=>K (.int .u8 (.ofNat r))
theorem sTab1_s {P:Program}{fid:FuncId}{T:Nat}(h:∀ n,n < 256→KCS P fid (kcon [.int .u8 (.ofNat n)] (.int .u8 (.ofNat (pkr .u8 T n))))):KCS P fid (sTab1 T) :=
  kcs_fam (args:=fun n=>[.int .u8 (.ofNat n)]) (v:=fun n=>.int .u8 (.ofNat (pkr .u8 T n))) (N:=256) (by decide) h (fun n _=>kvbs_u8 n) fun l K hk=>by
    obtain⟨x,rfl,h1⟩:=la1_s hk
    obtain⟨n,hn,rfl,h2⟩:=byteK_s h1
    rw[forceN_eq] at h2
    exact⟨n,hn,rfl,h2⟩
omit [KGl] in
theorem kvbs_2 (m n:Nat):kvbs [.int .u8 (.ofNat m),.int .u8 (.ofNat n)] [.int .u8 (.ofNat m),.int .u8 (.ofNat n)]=true:=kvbs_u8u8 m n
def lb2 (l:List KV) (f:KV→KV→Prop):Prop:=match l with
  | [x,y]=>f x y
  | _=>BadN 258
omit [KGl] in
theorem lb2_s {l:List KV}{f:KV→KV→Prop}(h:lb2 l f):∃ x y,l=[x,y]∧f x y:=by
  unfold lb2 at h
  split at h
  · exact⟨_,_,rfl,h⟩
  · exact h.elim
def sTab2 (M T:Nat):KSpec:=fun l K=>lb2 l fun x y=>byteK x fun a=>byteK y fun b=>chk (Nat.blt a M) 259 (forceN (pkr .u8 T (Nat.add (Nat.mul 256 a) b)) fun r=>K (.int .u8 (.ofNat r)))
theorem sTab2_s {P:Program}{fid:FuncId}{M T:Nat}(hM:0 < M) (h:∀ n,n < M * 256→KCS P fid (kcon [.int .u8 (.ofNat (n / 256)),.int .u8 (.ofNat (n % 256))] (.int .u8 (.ofNat (pkr .u8 T n))))):KCS P fid (sTab2 M T) :=
  kcs_fam (args:=fun n=>[.int .u8 (.ofNat (n / 256)),.int .u8 (.ofNat (n % 256))]) (v:=fun n=>.int .u8 (.ofNat (pkr .u8 T n))) (N:=M * 256) (by omega) h (fun n _=>kvbs_2 _ _) fun l K hk=>by
    obtain⟨x,y,rfl,h1⟩:=lb2_s hk
    obtain⟨a,ha,rfl,h2⟩:=byteK_s h1
    obtain⟨b,hb,rfl,h3⟩:=byteK_s h2
    obtain⟨h4,h5⟩:=chk_inv h3
    rw[Nat.blt_eq] at h4
    rw[forceN_eq] at h5
    refine⟨256 * a + b,?_,?_,h5⟩
    · have:(a + 1) * 256≤M * 256:=Nat.mul_le_mul_right _ h4
      omega
    · rw[show (256 * a + b) / 256=a by omega,show (256 * a + b) % 256=b by omega]
end
end Go.K
