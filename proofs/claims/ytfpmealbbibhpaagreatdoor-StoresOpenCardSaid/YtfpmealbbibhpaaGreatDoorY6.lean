/- The run is right: calls, regions in order. No condition. The run is right: regions in order, regions in whatever order. No condition. The run is right: code. No condition. Loops with what stays true of them; contracts from runs. No condition. Pieces of code, counting loops, contracts. No condition. Steps of code, from equations of runs. No condition. -/
import Derived.Test.YtfpmealbbibhpaaGreatDoorY2
set_option linter.unusedVariables false
set_option linter.unusedSimpArgs false
set_option linter.constructorNameAsVariable false
namespace Go.Y
open Go.Ab Go.RowKit
noncomputable section
variable [Gl]
def CSoundG (P:Program) (f:FuncId) (c:CSpec):Prop :=
  (∃ fn,P.funcs[f]?=some fn∧(fn.name == "runtime.NumGoroutine")=false∧fn.body.isNone=false) ∧
  ∀(C:Ctx) (args:List V) (vals:List Value),(∀ u b,C.ok u b→b < C.w.heap.size)→(∀ g,R C.pur (Gl.G g) (.val (.pointer (some ⟨g,0,none⟩))))→R C.pur (mkL args) (.list vals)→c.pre args →
    Calls P f vals.toArray C.w fun e w'=>Below C.w.heap.size C.w w'∧∃ r,e=.returned r ∧
      R { C.pur with w:=w',ok:=fun u b=>(c.fresh=false∧∃ u',C.ok u' b)∨(C.w.heap.size≤b∧b < w'.heap.size) } (c.res args) (.val r)
def CTG (P:Program) (ct:CTab):Prop:=∀ f c,ct f=some c→CSoundG P f c
omit [Gl] in
theorem cOk_mono {N M:Nat}(h:N≤M):∀ {c:Code},cOk N c=true→cOk M c=true:=by
  have hd:∀ d,dOk N d=true→dOk M d=true:=by
    intro d hd
    cases d with
    | none=>rfl
    | some d=>simp only[dOk,decide_eq_true_eq] at hd ⊢; exact Nat.lt_of_lt_of_le hd h
  intro c
  induction c with
  | region id ops draw=>intro hc; simp only[cOk,List.all_eq_true] at hc ⊢; exact fun o ho=>hd _ (hc o ho)
  | seq a b ih1 ih2=>intro hc; simp only[cOk,Bool.and_eq_true] at hc ⊢; exact⟨ih1 hc.1,ih2 hc.2⟩
  | cond t a b ih1 ih2=>intro hc; simp only[cOk,Bool.and_eq_true] at hc ⊢; exact⟨ih1 hc.1,ih2 hc.2⟩
  | block id c ih=>intro hc; exact ih hc
  | loop c ih=>intro hc; exact ih hc
  | scope c ih=>intro hc; exact ih hc
  | rangeFunc f ps a b ih1 ih2 =>
    intro hc
    simp only[cOk,Bool.and_eq_true,List.all_eq_true,decide_eq_true_eq] at hc ⊢
    exact⟨fun p hp=>Nat.lt_of_lt_of_le (hc.1 p hp) h,ih1 hc.2.1,ih2 hc.2.2⟩
  | _=>intro _; rfl
def fnOk (f:Func):Bool:=!(f.name == "runtime.NumGoroutine")&&(match f.body with | some c=>cOk f.ntmps c | none=>true)
def FnsOk (P:Program):Prop:=P.funcs.toList.all fnOk=true
omit [Gl] in
theorem FnsOk.get {P:Program}(h:FnsOk P) {f:Nat}{fn:Func}(hf:P.funcs[f]?=some fn):(fn.name == "runtime.NumGoroutine")=false∧∀ c,fn.body=some c→cOk fn.ntmps c=true:=by
  have h2:=List.all_eq_true.1 h fn (by
    obtain⟨hlt,he⟩:=Array.getElem?_eq_some_iff.1 hf
    rw[←he]
    exact Array.getElem_mem_toList hlt)
  simp only[fnOk,Bool.and_eq_true,Bool.not_eq_true'] at h2
  refine⟨h2.1,fun c hc=>?_⟩
  have h3:=h2.2
  rw[hc] at h3
  exact h3
structure Env (P:Program) (ct:CTab):Prop where
  fns:FnsOk P
  ct:CTG P ct
  gn:∀ g,noId (Gl.G g)=true
  gb:∀ g,borrow (Gl.G g)=Gl.G g
  mixed:P.follows .mixedOrders=true
structure YF (B H:Nat) (C:Ctx) (M:Mem) (zm:Zm) (nx:Nat) (N:Nat) (tm':Tm) (zm':Zm) (nx':Nat) (C':Ctx) (M':Mem) (a':Act):Prop where
  yr:YR B H C' M' zm' nx'
  yt:YT C' tm' a' N
  yc:YC B H C M zm nx C' M' zm' nx'
def YFin (B H:Nat) (C:Ctx) (M:Mem) (zm:Zm) (nx:Nat) (N:Nat) (e:Exit) (tm':Tm) (zm':Zm) (nx':Nat) (e':Exit) (a':Act) (w':World):Prop :=
  e'=e∧∃ C' M',C'.w=w'∧YF B H C M zm nx N tm' zm' nx' C' M' a'
def Runs (P:Program) (B:Nat) (c:Code) (tm:Tm) (zm:Zm) (nx:Nat) (N:Nat) (e:Exit) (tm':Tm) (zm':Zm) (nx':Nat):Prop :=
  ∀(H:Nat) (C:Ctx) (M:Mem) (a:Act),nx'≤H→YR B H C M zm nx→YT C tm a N→c.wp P (YFin B H C M zm nx N e tm' zm' nx') a C.w
def RunOK (P:Program) (B:Nat) (r:RUN):Prop :=
  ∀(c:Code) (tm:Tm) (zm:Zm) (nx:Nat) (K:K3) (N:Nat),r c tm zm nx K→cOk N c=true→KB zm nx →
    ∃ e tm' zm' nx',K e tm' zm' nx'∧KB zm' nx'∧nx≤nx'∧Runs P B c tm zm nx N e tm' zm' nx'
def YCall (P:Program) (B:Nat) (fid:FuncId) (l:List V) (zm:Zm) (nx:Nat) (v:V) (zm':Zm) (nx':Nat):Prop :=
  ∀(H:Nat) (C:Ctx) (M:Mem) (vals:List Value),nx'≤H→YR B H C M zm nx→R C (mkL l) (.list vals) →
    Calls P fid vals.toArray C.w fun e w'=>∃ val,e=.returned val∧∃ C' M',C'.w=w'∧R C' v (.val val)∧YR B H C' M' zm' nx'∧YC B H C M zm nx C' M' zm' nx'
section
variable {P:Program}{ct:CTab}{B:Nat}{r:RUN}
omit [Gl] in
theorem someK_inv {v:Option V}{K:V→Prop}(h:someK v K):∃ x,v=some x∧K x:=by
  cases v with
  | none=>exact h.elim
  | some x=>exact⟨x,rfl,h⟩
theorem callB_inv (hr:RunOK P B r) (hE:Env P ct) {fid:FuncId}{l:List V}{zm:Zm}{nx:Nat}{K:V→Zm→Nat→Prop}(h:callB r P fid l zm nx K) (hkb:KB zm nx) :
    ∃ fn,P.funcs[fid]?=some fn∧(fn.name == "runtime.NumGoroutine")=false∧fn.body.isNone=false∧∃ v zm' nx',K v zm' nx'∧KB zm' nx'∧nx≤nx'∧YCall P B fid l zm nx v zm' nx':=by
  unfold callB at h
  split at h
  · rename_i fn hfn
    split at h
    · rename_i c hb
      obtain⟨hname,hcode⟩:=hE.fns.get hfn
      rw[bindK_eq] at h
      have hco:cOk (l.length + (fn.ntmps - l.length)) c=true:=cOk_mono (by omega) (hcode c hb)
      obtain⟨e,tm',zm',nx',h10,hkb',hle,hrun⟩:=hr c _ zm nx _ _ h hco hkb
      have fin:(e=.normal∨e=.ret)→someK (rvA P tm' zm' fn.results.toList) (fun v=>K v zm' nx')→∃ v zm' nx',K v zm' nx'∧KB zm' nx'∧nx≤nx'∧YCall P B fid l zm nx v zm' nx':=by
        intro he hres
        obtain⟨v,hv,hk⟩:=someK_inv hres
        refine⟨v,zm',nx',hk,hkb',hle,fun H C M vals hH hz h6=>?_⟩
        have hent:=YT.enter h6 fn.ntmps
        rw[←(mkL_list h6).1] at hent
        refine calls_of_wp hfn hb (wp_mono (hrun H C M _ hH hz hent) ?_)
        rintro e' a w' ⟨rfl,C',M',rfl,hf⟩
        obtain⟨val,q1,q2⟩:=rvA_s hf.yr hf.yt hv
        have q:a.defers=[]∧∃ v',(results fn a.tmps).run P C'.w=.ok v' C'.w∧(∃ val',Ending.returned v'=.returned val'∧∃ C'' M'',C''.w=C'.w∧R C'' v (.val val')∧YR B H C'' M'' zm' nx'∧YC B H C M zm nx C'' M'' zm' nx') :=
          ⟨hf.yt.defers,val,q1,val,rfl,C',M',rfl,q2,hf.yr,hf.yc⟩
        rcases he with rfl | rfl
        · exact q
        · exact q
      refine⟨fn,hfn,hname,by rw[hb]; rfl,?_⟩
      cases e with
      | normal=>exact fin (.inl rfl) h10
      | ret=>exact fin (.inr rfl) h10
      | _=>exact h10.elim
    · exact h.elim
  · exact h.elim
omit [Gl] in
theorem enter_run {o:Oper}{f:Operand}{args:Array Operand}{ts:Array TypeId}{ρc:Operand→Value}{fid:FuncId}{cs:Array Value}{fn:Func}{w:World}(ho:o.op=.call ⟨.value f,args,ts⟩) (h1:ρc f=.func (.func fid) #[] cs) (hfn:P.funcs[fid]?=some fn)
    (hname:(fn.name == "runtime.NumGoroutine")=false) (hbody:fn.body.isNone=false):(execOp ρc o).run P w=.ok (.enter fid (args.toList.map ρc++cs.toList).toArray) w:=by
  simp only[execOp,ho,resolve,h1,Deferred.ofValue,Sem.run_bind,Sem.run_pure,Result.andThen_ok,invoke,callFunc,run_program,hfn,hname,hbody,Bool.false_eq_true,if_false]
  simp
omit [Gl] in
theorem unL_list {C:Ctx}{v:V}{vs:List Value}(h:R C v (.list vs)):R C (mkL (unL v)) (.list vs):=R.unL v h
omit [Gl] in
theorem appL_mk (l:List V) {caps:V}{C:Ctx}{vs cs:List Value}(h1:R C (mkL l) (.list vs)) (h2:R C caps (.list cs)):R C (appL l caps) (.list (vs++cs)):=R.appL h2 h1
omit [Gl] in
theorem call_args {o:Oper}{f:Operand}{args:Array Operand}{ts:Array TypeId}{ρ:Operand→V}{ρc:Operand→Value}{C:Ctx}(ho:o.op=.call ⟨.value f,args,ts⟩) (hx:∀ x∈o.op.operands.toList,R C (ρ x) (.val (ρc x))):R C (ρ f) (.val (ρc f))∧R C (mkL (args.toList.map ρ)) (.list (args.toList.map ρc)) :=
  ⟨hx f (by simp [ho,Op.operands,Call.operands]),R.mkL (C:=C) (ρ:=ρ) (ρc:=ρc) args.toList fun x hxx=>hx x (by simp [ho,Op.operands,Call.operands]; exact .inr (by simpa using hxx))⟩
theorem con_does {C:Ctx}{M:Mem}{c:CSpec}{fid:FuncId}{s:Sem Next}{vals:List Value}{l:V}(hs:SR B C M) (hGn:∀ g,noId (Gl.G g)=true) (hc:CSoundG P fid c)
    (hrun:s.run P C.w=.ok (.enter fid vals.toArray) C.w) (hl:(c.fresh=true∧R (C.opened B) l (.list vals))∨R C.pur l (.list vals)) (hp:c.pre (unL l)) :
    Does P s C.w fun val w'=>∃ C',C'.w=w'∧R C' (lendR c l) (.val val)∧Kp B C C'∧SR B C' M∧(∀ id,C'.al id→C.al id):=by
  let ok':World→Bool→Nat→Prop:=fun w' u b=>(C.ok u b∨(u=true∧C.ok false b))∨(C.w.heap.size≤b∧b < w'.heap.size)
  unfold Does
  rw[hrun]
  have fin:∀(e':Ending) (w':World) (r:Value) (D:Ctx),Below C.w.heap.size C.w w'→e'=.returned r→(c.fresh=true∨∀ u b,D.ok u b→C.ok u b) →
      R { D.pur with w:=w',ok:=fun u b=>(c.fresh=false∧∃ u',D.ok u' b)∨(C.w.heap.size≤b∧b < w'.heap.size) } (c.res (unL l)) (.val r) →
      ∃ v,e'=.returned v∧∃ C',C'.w=w'∧R C' (lendR c l) (.val v)∧Kp B C C'∧SR B C' M∧(∀ id,C'.al id→C.al id):=by
    intro e' w' r D hb he hD hr
    obtain⟨hs2,hk2⟩:=hs.grown hb (ok' w') (fun u b h=>.inl (.inl h)) (fun u b h=>h)
    refine⟨r,he,{ C with w:=w',ok:=ok' w' },rfl,?_,hk2,hs2,fun id h=>h⟩
    unfold lendR
    cases hf:c.fresh with
    | true =>
      refine R.keep (C:={ D.pur with w:=w',ok:=_ }) (C':={ C with w:=w',ok:=ok' w' }) ⟨fun _ h=>h.elim,fun _ h=>h.elim,fun _ h=>h.elim,?_,fun _ _ _=>rfl⟩ _ _ hr
      intro u b hb2
      rcases hb2 with ⟨h8,_⟩ | h8
      · rw[hf] at h8; cases h8
      · exact .inr h8
    | false =>
      have hD':∀ u b,D.ok u b→C.ok u b:=by
        rcases hD with h | h
        · rw[hf] at h; cases h
        · exact h
      have h8:=R.borrow (ok':=ok' w') _ (C:={ D.pur with w:=w',ok:=_ }) ?_ hr
      · exact R.keep (C:={ D.pur with w:=w',ok:=ok' w' }) (C':={ C with w:=w',ok:=ok' w' }) ⟨fun _ h=>h.elim,fun _ h=>h.elim,fun _ h=>h.elim,fun _ _ h=>h,fun _ _ _=>rfl⟩ _ _ h8
      · intro u b hb2
        rcases hb2 with ⟨_,u',h9⟩ | h9
        · cases u'
          · exact .inl (.inr ⟨rfl,hD' _ _ h9⟩)
          · exact .inl (.inl (hD' _ _ h9))
        · exact .inr h9
  rcases hl with ⟨hf,hl⟩ | hl
  · refine (hc.2 (C.opened B) (unL l) _ ?_ (fun g=>R.keep (Keep.opened C B) _ _ (R.pure_of _ (hGn g) (hs.gl g))) (unL_list hl) hp).mono fun e' w' ⟨hb,r,he,hr⟩=>fin e' w' r (C.opened B) hb he (.inl hf) hr
    intro u b hb
    rcases hb with hb | hb
    · exact hs.okLt u b hb
    · exact hb.2
  · exact (hc.2 C.pur (unL l) _ hs.okLt (fun g=>R.pure_of _ (hGn g) (R.pure_of _ (hGn g) (hs.gl g))) (unL_list hl) hp).mono fun e' w' ⟨hb,r,he,hr⟩=>fin e' w' r C.pur hb he (.inr fun _ _ h=>h) hr
theorem seqC_odoes (hE:Env P ct) {o:Oper}{f:Operand}{args:Array Operand}{ts:Array TypeId}{tm:Tm}{zm:Zm}{nx:Nat}{K:KT}{fid:FuncId}{caps:V}{c:CSpec}(ho:o.op=.call ⟨.value f,args,ts⟩) (hf:ev Gl.G tm f=.fn fid caps) (hlt:fid < 1073741824)
    (hc:CSoundG P fid c) (h:seqC c zm nx (appL (args.toList.map (ev Gl.G tm)) caps) K):∃ v,K v zm nx [] []∧ODoes P B o tm zm nx v zm nx:=by
  obtain⟨fn,hfn,hname,hbody⟩:=hc.1
  have key:∀ l:V,c.pre (unL l)→(∀(H:Nat) (C:Ctx) (M:Mem) (vals:List Value),YR B H C M zm nx→R C (appL (args.toList.map (ev Gl.G tm)) caps) (.list vals)→(c.fresh=true∧R (C.opened B) l (.list vals))∨R C.pur l (.list vals))→ODoes P B o tm zm nx (lendR c l) zm nx:=by
    intro l hp hl H C M ρc hH hz hx
    obtain⟨h0,h3⟩:=call_args ho hx
    rw[hf] at h0
    obtain⟨cs,h1,h2⟩:=R.fn0 hlt h0
    have h1':ρc f=.func (.func fid) #[] cs:=h1
    refine (con_does hz.sr hE.gn hc (enter_run ho h1' hfn hname hbody) (hl H C M _ hz (appL_mk _ h3 h2)) hp).mono ?_
    rintro val w' ⟨C',hw,hR,hk,hs,hal⟩
    exact⟨C',M,hw,hR,⟨hs,hz.sub,fun id h1 h2 h3=>hz.al id h1 h2 (hal id h3)⟩,⟨hk,fun id h=>.inl (hal id h),fun _ _ h=>⟨rfl,h⟩⟩⟩
  unfold seqC at h
  cases hfr:c.fresh with
  | true =>
    rw[hfr] at h
    obtain⟨hp,hk⟩:=cnd_iff.1 (show cnd _ _ from h)
    have hv:lendR c (frz (gm zm) 12 (appL (args.toList.map (ev Gl.G tm)) caps))=c.res (unL (frz (gm zm) 12 (appL (args.toList.map (ev Gl.G tm)) caps))):=by unfold lendR; rw[hfr]
    refine⟨_,hk,?_⟩
    rw[←hv]
    exact key _ hp fun H C M vals hz hr=>.inl ⟨hfr,R.frz hz.sr hz.sub 12 _ _ hr⟩
  | false =>
    rw[hfr] at h
    obtain⟨hnp,hk⟩:=cnd_iff.1 (show cnd _ _ from h)
    obtain⟨hn,hp⟩:=Bool.and_eq_true_iff.1 hnp
    have hv:lendR c (appL (args.toList.map (ev Gl.G tm)) caps)=borrow (c.res (unL (appL (args.toList.map (ev Gl.G tm)) caps))):=by unfold lendR; rw[hfr]
    refine⟨_,hk,?_⟩
    rw[←hv]
    exact key _ hp fun H C M vals hz hr=>.inr (R.pure_of _ hn hr)
omit [Gl] in
theorem resM_rd {m:Mem}(v:V):∀ {p:Bool}{v':V}{rd:List Nat},resM m v=some (p,v',rd)→∀ id∈rd,∃ b,m id=some b:=by
  have pure:∀ {v:V}{p:Bool}{v':V}{rd:List Nat},(if noId v then some (true,v,([]:List Nat)) else none)=some (p,v',rd)→∀ id∈rd,∃ b,m id=some b:=by
    intro v p v' rd h
    split at h
    · simp only[Option.some.injEq,Prod.mk.injEq] at h
      obtain⟨_,_,rfl⟩:=h
      intro id hid; cases hid
    · cases h
  have one:∀ {id:Nat}{blk:Blk}{rd:List Nat},m id=some blk→[id]=rd→∀ i∈rd,∃ b,m i=some b:=by
    intro id blk rd hb e i hi
    subst e
    simp only[List.mem_singleton] at hi
    subst hi
    exact⟨_,hb⟩
  induction v with
  | row id e n =>
    intro p v' rd h
    simp only[Y.resM] at h
    split at h
    · rename_i blk hb
      split at h
      · split at h
        · simp only[Option.some.injEq,Prod.mk.injEq] at h; exact one hb h.2.2
        · cases h
      · cases h
    · cases h
  | sl id q e off len cap =>
    intro p v' rd h
    simp only[Y.resM] at h
    split at h
    · rename_i blk hb
      split at h
      · split at h
        · simp only[Option.some.injEq,Prod.mk.injEq] at h; exact one hb h.2.2
        · cases h
      · cases h
    · cases h
  | ptr id q s =>
    intro p v' rd h
    simp only[Y.resM] at h
    split at h
    · rename_i blk hb
      split at h
      · simp only[Option.some.injEq,Prod.mk.injEq] at h; exact one hb h.2.2
      · cases h
    · cases h
  | cons x t ih1 ih2 =>
    intro p v' rd h
    simp only[Y.resM] at h
    split at h
    · rename_i p1 h1 r1 p2 t1 r2 e1 e2
      simp only[Option.some.injEq,Prod.mk.injEq] at h
      obtain⟨_,_,rfl⟩:=h
      intro id hid
      rcases List.mem_append.1 hid with hid | hid
      · exact ih1 e1 id hid
      · exact ih2 e2 id hid
    · cases h
  | tup l ih =>
    intro p v' rd h
    simp only[Y.resM] at h
    split at h
    · rename_i p1 l1 r1 e1
      simp only[Option.some.injEq,Prod.mk.injEq] at h
      obtain⟨_,_,rfl⟩:=h
      exact ih e1
    · cases h
  | _=>intro p v' rd h; simp only[Y.resM] at h; exact pure h
theorem isoC_yst (hE:Env P ct) {o:Oper}{f:Operand}{args:Array Operand}{ts:Array TypeId}{tm:Tm}{zm:Zm}{nx:Nat}{K:KT}{fid:FuncId}{caps:V}{c:CSpec}(ho:o.op=.call ⟨.value f,args,ts⟩) (hf:ev Gl.G tm f=.fn fid caps) (hlt:fid < 1073741824)
    (hc:CSoundG P fid c) (h:isoC c zm nx (appL (args.toList.map (ev Gl.G tm)) caps) K):∃ v rd e,K v zm nx [] rd∧YSt P B o tm zm zm nx nx v [] rd e:=by
  obtain⟨fn,hfn,hname,hbody⟩:=hc.1
  unfold isoC at h
  split at h
  · rename_i p l rd hres
    obtain⟨hall,hk⟩:=cnd_iff.1 h
    simp only[Bool.and_eq_true] at hall
    obtain⟨hcond,hp,hpre⟩:=hall
    refine⟨_,rd,⟨lendR c l,[],[],rd⟩,hk,⟨rfl,rfl,rfl,rfl,(by intro x hx; cases hx),(fun _ _ h=>h),?_,fun _ M hM=>by rw[put_pure]; exact hM⟩⟩
    intro M hM C M1 ρc hs hrd _ _ hx
    obtain⟨h0,h3⟩:=call_args ho hx
    rw[hf] at h0
    obtain⟨cs,h1,h2⟩:=R.fn0 hlt h0
    have h1':ρc f=.func (.func fid) #[] cs:=h1
    have h4:=appL_mk _ h3 h2
    have hrd':∀ id∈rd,M1 id=gm zm id:=fun id hid=>by
      obtain⟨b,hb⟩:=resM_rd _ hres id hid
      rw[hrd id hid,hM _ _ hb,hb]
    have hl:(c.fresh=true∧R (C.opened B) l (.list (args.toList.map ρc++cs.toList)))∨R C.pur l (.list (args.toList.map ρc++cs.toList)):=by
      simp only[Bool.or_eq_true,List.isEmpty_iff] at hcond
      rcases hcond with h9 | h9
      · exact .inl ⟨h9,R.resM hs _ hres hp hrd' h4⟩
      · exact .inr (R.resM0 _ hres h9 h4)
    refine (con_does hs hE.gn hc (enter_run ho h1' hfn hname hbody) hl hpre).mono ?_
    rintro val w' ⟨C',hw,hR,hk,hs,hal⟩
    exact⟨C',hw,hR,hk,by rw[put_pure]; exact hs,fun id h=>.inl (hal id h)⟩
  · exact h.elim
end
end
end Go.Y
namespace Go.Y
open Go.Ab Go.RowKit
noncomputable section
variable [Gl]
section
variable {P:Program}{ct:CTab}{B:Nat}{r:RUN}
omit [Gl] in
theorem mkL_unL {C:Ctx}{caps:V}{cs:List Value}(h:R C caps (.list cs)):R C (mkL (unL caps)) (.list cs):=R.unL caps h
theorem body_odoes (hr:RunOK P B r) (hE:Env P ct) {o:Oper}{f:Operand}{args:Array Operand}{ts:Array TypeId}{tm:Tm}{zm:Zm}{nx:Nat}{K:V→Zm→Nat→Prop}{fid:FuncId}{caps:V}(ho:o.op=.call ⟨.value f,args,ts⟩) (hf:ev Gl.G tm f=.fn fid caps) (hlt:fid < 1073741824)
    (hkb:KB zm nx) (h:callB r P fid (args.toList.map (ev Gl.G tm)++unL caps) zm nx K):∃ v zm' nx',K v zm' nx'∧KB zm' nx'∧nx≤nx'∧ODoes P B o tm zm nx v zm' nx':=by
  obtain⟨fn,hfn,hname,hbody,v,zm',nx',k1,k2,k3,k4⟩:=callB_inv hr hE h hkb
  refine⟨v,zm',nx',k1,k2,k3,fun H C M ρc hH hz hx=>?_⟩
  obtain⟨h0,h3⟩:=call_args ho hx
  rw[hf] at h0
  obtain⟨cs,h1,h2⟩:=R.fn0 hlt h0
  have h1':ρc f=.func (.func fid) #[] cs:=h1
  unfold Does
  rw[enter_run ho h1' hfn hname hbody]
  exact (k4 H C M _ hH hz (mkL_app h3 (mkL_unL h2))).mono fun e w' ⟨v,he,hp⟩=>⟨v,he,hp⟩
theorem yop_odoes (hr:RunOK P B r) (hE:Env P ct) {o:Oper}{tm:Tm}{zm:Zm}{nx:Nat}{K:KT}(hkb:KB zm nx) (h:yop (seqCL r P ct) P Gl.G tm o.op zm nx K) :
    ∃ v zm' nx' up rd,K v zm' nx' up rd∧KB zm' nx'∧nx≤nx'∧ODoes P B o tm zm nx v zm' nx':=by
  unfold yop at h
  split at h
  · rename_i f args ts ho
    unfold seqCL callY at h
    split at h
    · rename_i fid caps hf
      split at h
      · rename_i c hc
        obtain⟨hlt,h⟩:=cnd_iff.1 h
        rw[Nat.blt_eq] at hlt
        obtain⟨v,k1,k2⟩:=seqC_odoes (B:=B) hE ho hf hlt (hE.ct fid c hc) h
        exact⟨v,zm,nx,[],[],k1,hkb,Nat.le_refl _,k2⟩
      · obtain⟨hlt,h⟩:=cnd_iff.1 h
        rw[Nat.blt_eq] at hlt
        obtain⟨v,zm',nx',k1,k2,k3,k4⟩:=body_odoes hr hE ho hf hlt hkb h
        exact⟨v,zm',nx',[],[],k1,k2,k3,k4⟩
    · exact h.elim
  · obtain⟨e,he,hk⟩:=rsK_inv h
    obtain⟨h1,h2⟩:=yop1_s (B:=B) he
    have hs:=YSt.of h1 h2
    exact⟨_,_,_,_,_,hk,hs.kb hkb,by omega,hs.does hkb⟩
def RRuns (P:Program) (B:Nat) (ops:Array Oper) (i n:Nat) (tm:Tm) (zm:Zm) (nx:Nat) (N:Nat) (tm':Tm) (zm':Zm) (nx':Nat):Prop :=
  ∀(H:Nat) (C:Ctx) (M:Mem) (a:Act) (Q:Exit→Act→World→Prop),nx'≤H→YR B H C M zm nx→YT C tm a N→(∀ C' M' a',YF B H C M zm nx N tm' zm' nx' C' M' a'→Q .normal a' C'.w)→wpOps P ops Q (List.range' i n) a C.w
theorem rops_runs (hr:RunOK P B r) (hE:Env P ct) {ops:Array Oper}{N:Nat}{K:Tm→Zm→Nat→Prop} :
    ∀(l:List Oper) (i:Nat) (tm:Tm) (zm:Zm) (nx:Nat),(∀ k,ops[i + k]?=l[k]?)→(∀ o∈l,dOk N o.dst=true)→rops (seqCL r P ct) P Gl.G ops.toList l tm zm nx K→KB zm nx →
      ∃ tm' zm' nx',K tm' zm' nx'∧KB zm' nx'∧nx≤nx'∧RRuns P B ops i l.length tm zm nx N tm' zm' nx'
  | [],i,tm,zm,nx,_,_,h,hkb=>⟨tm,zm,nx,h,hkb,Nat.le_refl _,fun H C M a Q hH hz ht hQ=>hQ C M a ⟨hz,ht,YC.refl C M zm nx⟩⟩
  | o::l,i,tm,zm,nx,hops,hD,h,hkb=>by
    have hop:ops[i]?=some o:=by have:=hops 0; simpa using this
    have hops':∀ k,ops[i + 1 + k]?=l[k]?:=by
      intro k
      have:=hops (k + 1)
      simp only[List.getElem?_cons_succ] at this
      rw[←this]; congr 1; omega
    have hd:=hD o (by simp)
    have hD':∀ o∈l,dOk N o.dst=true:=fun o ho=>hD o (by simp [ho])
    have h0:grdK ops.toList o.guard tm (fun tm=>yop (seqCL r P ct) P Gl.G tm o.op zm nx fun v zm nx _ _=>putD o.dst v tm fun tm=>rops (seqCL r P ct) P Gl.G ops.toList l tm zm nx K) (fun tm=>putD o.dst (.tup .nl) tm fun tm=>rops (seqCL r P ct) P Gl.G ops.toList l tm zm nx K):=h
    rcases grdK_pure h0 with ⟨hw,_,tm1,hsm,h1⟩ | ⟨hw,_,tm1,hsm,h1⟩
    · obtain⟨v,zm1,nx1,up,rd,k1,k6,k5,k4⟩:=yop_odoes hr hE hkb h1
      rw[putD_eq] at k1
      obtain⟨tm',zm',nx',q1,q6,q5,q4⟩:=rops_runs hr hE l (i + 1) _ zm1 nx1 hops' hD' k1 k6
      refine⟨tm',zm',nx',q1,q6,by omega,fun H C M a Q hH hz ht hQ=>?_⟩
      rw[List.length_cons,List.range'_succ,wpOps_cons]
      have ht1:=ht.same hsm
      refine wpOp_do hop (hw C a N ht) (Does.wp (k4 H C M a.eval (by omega) hz fun x _=>ht1.operand hz.sr.gl x) ?_)
      rintro val w' ⟨C',M',rfl,h2,h3,h4⟩
      exact q4 H C' M' _ Q hH h3 ((ht1.keep h4.kp.toKeep).put hd h2) fun C'' M'' a'' hf=>hQ C'' M'' a'' ⟨hf.yr,hf.yt,h4.trans hf.yc k5 q5⟩
    · rw[putD_eq] at h1
      obtain⟨tm',zm',nx',q1,q6,q5,q4⟩:=rops_runs hr hE l (i + 1) _ zm nx hops' hD' h1 hkb
      refine⟨tm',zm',nx',q1,q6,q5,fun H C M a Q hH hz ht hQ=>?_⟩
      rw[List.length_cons,List.range'_succ,wpOps_cons]
      refine wpOp_skip hop (hw C a N ht) ?_
      exact q4 H C M _ Q hH hz ((ht.same hsm).put hd ⟨#[],rfl,rfl⟩) fun C'' M'' a'' hf=>hQ C'' M'' a'' ⟨hf.yr,hf.yt,hf.yc⟩
def Corr:List TE→List ZTE→Prop
  | [],[]=>True
  | te::r,z::s=>Corr r s∧te.o=z.o∧te.n=z.lo∧te.n + te.e.nw.length=z.hi∧te.e.up.map (·.1)=z.up∧te.e.rd=z.rd
  | _,_=>False
omit [Gl] in
theorem Corr.length:∀ {tr:List TE}{s:List ZTE},Corr tr s→tr.length=s.length
  | [],[],_=>rfl
  | te::r,z::s,h=>by simp [Corr.length h.1]
  | [],_::_,h=>h.elim
  | _::_,[],h=>h.elim
omit [Gl] in
theorem zup_any {l:List Nat}{id:Nat}:(l.any fun j=>Nat.beq j id)=l.contains id:=by
  induction l with
  | nil=>rfl
  | cons x l ih =>
    simp only[List.any_cons,ih,List.contains_cons]
    congr 1
    rw[Bool.eq_iff_iff,Nat.beq_eq,beq_iff_eq]
    exact⟨fun h=>h.symm,fun h=>h.symm⟩
omit [Gl] in
theorem inNew_iff {z:ZTE}{id:Nat}:inNew z id=true↔z.lo≤id∧id < z.hi:=by
  unfold inNew
  rw[Bool.and_eq_true,Nat.ble_eq,Nat.ble_eq]
  exact Iff.rfl
omit [Gl] in
theorem wids_in {te:TE}{z:ZTE}(h1:te.n=z.lo) (h2:te.n + te.e.nw.length=z.hi) (h3:te.e.up.map (·.1)=z.up) {id:Nat}(h:id∈wids te):zin z id=true:=by
  unfold zin
  rw[Bool.or_eq_true]
  unfold wids at h
  rcases List.mem_append.1 h with h | h
  · exact .inl (by rw[zup_any,List.contains_iff_mem,←h3]; exact h)
  · obtain⟨h4,h5⟩:=List.mem_range'_1.1 h
    exact .inr (inNew_iff.2 ⟨by omega,by omega⟩)
omit [Gl] in
theorem clashM_z {te te':TE}{z z':ZTE}(h1:te.n=z.lo) (h2:te.n + te.e.nw.length=z.hi) (h3:te.e.up.map (·.1)=z.up) (h4:te.e.rd=z.rd)
    (k1:te'.n=z'.lo) (k2:te'.n + te'.e.nw.length=z'.hi) (k3:te'.e.up.map (·.1)=z'.up) (k4:te'.e.rd=z'.rd) (h:clashM te te'=true):zclashM z z'=true:=by
  unfold clashM at h
  unfold zclashM
  simp only[Bool.or_eq_true,List.any_eq_true] at h ⊢
  rcases h with ⟨id,hid,hc⟩ | ⟨id,hid,hc⟩
  · have hrd:te.e.rd.contains id=true→zrd z id=true:=fun h5=>by unfold zrd; rw[zup_any,←h4]; exact h5
    unfold wids at hid
    rcases List.mem_append.1 hid with hu | hn
    · refine .inl (.inl (.inl (.inl ⟨id,by rw[←k3]; exact hu,?_⟩)))
      rcases hc with hc | hc
      · exact .inl (wids_in h1 h2 h3 (List.contains_iff_mem.1 hc))
      · exact .inr (hrd hc)
    · obtain⟨a1,a2⟩:=List.mem_range'_1.1 hn
      have hin:inNew z' id=true:=inNew_iff.2 ⟨by omega,by omega⟩
      rcases hc with hc | hc
      · have hm:=List.contains_iff_mem.1 hc
        unfold wids at hm
        rcases List.mem_append.1 hm with hm | hm
        · exact .inl (.inl (.inr ⟨id,by rw[←h3]; exact hm,hin⟩))
        · obtain⟨b1,b2⟩:=List.mem_range'_1.1 hm
          refine .inr ?_
          rw[Bool.and_eq_true,Nat.ble_eq,Nat.ble_eq]
          exact⟨by show z.lo < z'.hi; omega,by show z'.lo < z.hi; omega⟩
      · exact .inl (.inr ⟨id,by rw[←h4]; exact List.contains_iff_mem.1 hc,hin⟩)
  · exact .inl (.inl (.inl (.inr ⟨id,by rw[←k4]; exact hid,wids_in h1 h2 h3 (List.contains_iff_mem.1 hc)⟩)))
omit [Gl] in
theorem clash_o {te te':TE}{ops:Array Oper}:clash te te' ops=clashO te.o te'.o ops:=rfl
omit [Gl] in
theorem edge_o {te:TE}{k:Nat}:edge te k=edgeO te.o k:=rfl
omit [Gl] in
theorem against_z {ops:Array Oper}{te:TE}{z:ZTE}(h0:te.o=z.o) (h1:te.n=z.lo) (h2:te.n + te.e.nw.length=z.hi) (h3:te.e.up.map (·.1)=z.up) (h4:te.e.rd=z.rd) :
    ∀ {r:List TE}{s:List ZTE},Corr r s→drawZ.against ops z s=true→drawOk.against ops te r=true
  | [],[],_,_=>rfl
  | te'::r,z'::s,hc,h=>by
    obtain⟨c0,c1,c2,c3,c4,c5⟩:=hc
    simp only[drawZ.against,Bool.and_eq_true,Bool.or_eq_true,Bool.not_eq_true',Bool.or_eq_false_iff] at h
    simp only[drawOk.against,Bool.and_eq_true,Bool.or_eq_true,Bool.not_eq_true',Bool.or_eq_false_iff]
    refine⟨?_,against_z h0 h1 h2 h3 h4 c0 h.2⟩
    rcases h.1 with h5 | ⟨h5,h6⟩
    · exact .inl (by rw[edge_o,h0,c0.length]; exact h5)
    · refine .inr ⟨by rw[clash_o,h0,c1]; exact h5,?_⟩
      cases hm:clashM te te' with
      | false=>rfl
      | true=>rw[clashM_z h1 h2 h3 h4 c2 c3 c4 c5 hm] at h6; cases h6
  | [],_::_,hc,_=>hc.elim
  | _::_,[],hc,_=>hc.elim
omit [Gl] in
theorem drawZ_ok {ops:Array Oper}:∀ {tr:List TE}{s:List ZTE},Corr tr s→drawZ ops s=true→drawOk ops tr=true
  | [],[],_,_=>rfl
  | te::r,z::s,hc,h=>by
    obtain⟨c0,c1,c2,c3,c4,c5⟩:=hc
    simp only[drawZ,Bool.and_eq_true] at h
    simp only[drawOk,Bool.and_eq_true]
    refine⟨⟨drawZ_ok c0 h.1.1,by rw[c1,c0.length]; exact h.1.2⟩,against_z c1 c2 c3 c4 c5 c0 h.2⟩
  | [],_::_,hc,_=>hc.elim
  | _::_,[],hc,_=>hc.elim
def deadB:Blk:=⟨.dead,.nl,.unk⟩
theorem body_iso (hr:RunOK P B r) (hE:Env P ct) {o:Oper}{f:Operand}{args:Array Operand}{ts:Array TypeId}{tm:Tm}{zm:Zm}{nx:Nat}{K:V→Nat→Prop}{fid:FuncId}{caps:V}(ho:o.op=.call ⟨.value f,args,ts⟩) (hf:ev Gl.G tm f=.fn fid caps) (hlt:fid < 1073741824)
    (h:callB r P fid (args.toList.map (ev Gl.G tm)++unL caps) .e nx fun v _ nx=>K v nx):∃ v nx' e,K v nx'∧YSt P B o tm zm zm nx nx' v [] [] e:=by
  obtain⟨v,zm1,nx',k1,_,k4,k5⟩:=body_odoes hr hE ho hf hlt (fun id _=>gm_e id) h
  refine⟨v,nx',⟨v,[],List.replicate (nx' - nx) deadB,[]⟩,k1,⟨rfl,by simp; omega,rfl,rfl,(by intro x hx; cases hx),(fun _ _ h=>h),?_,?_⟩⟩
  · intro M _ C M1 ρc hs _ _ hfresh hx
    have hfr:∀ id,nx≤id→id < nx'→¬ C.al id:=by
      intro id h1 h2
      have:=hfresh (id - nx) (by simp; omega)
      rwa [show nx + (id - nx)=id by omega] at this
    refine (k5 nx' C M1 ρc (Nat.le_refl _) ⟨hs,(fun id b hb=>by rw[gm_e] at hb; cases hb),hfr⟩ hx).mono ?_
    rintro val w' ⟨C',M',hw,hR,hz,hc⟩
    let C2:Ctx:={ C' with al:=fun id=>C'.al id∨(nx≤id∧id < nx') }
    have hk2:Keep C' C2:=⟨fun _ h=>.inl h,fun _ _=>rfl,fun _ _=>rfl,fun _ _ h=>h,fun _ _ _=>rfl⟩
    have htouch:∀ id,touch (⟨v,[],List.replicate (nx' - nx) deadB,[]⟩:Eff) nx id=if nx≤id∧id < nx' then some deadB else none:=by
      intro id
      unfold touch
      simp only[List.length_replicate,List.lookup_nil]
      by_cases h1:nx≤id∧id < nx'
      · rw[if_pos (by omega),if_pos h1,List.getElem?_replicate,if_pos (by omega)]
      · rw[if_neg (by omega),if_neg h1]
    have hput:∀ id blk,put M1 nx (⟨v,[],List.replicate (nx' - nx) deadB,[]⟩:Eff) id=some blk→(blk=deadB∧nx≤id∧id < nx')∨(M' id=some blk):=by
      intro id blk hb
      unfold put at hb
      rw[htouch] at hb
      by_cases h1:nx≤id∧id < nx'
      · rw[if_pos h1] at hb
        exact .inl ⟨(Option.some.inj hb).symm,h1.1,h1.2⟩
      · rw[if_neg h1] at hb
        have:=(hc.fr id (by omega) (gm_e id)).1
        exact .inr (by rw[this]; exact hb)
    refine⟨C2,hw,R.keep hk2 _ _ hR,⟨⟨fun id h=>.inl (hc.kp.al id h),hc.kp.sv,hc.kp.shp,hc.kp.ok,hc.kp.heap⟩,hc.kp.below,hc.kp.okn⟩,⟨hz.sr.base,hz.sr.okLt,?_,?_,?_,?_,fun g=>R.keep hk2 _ _ (hz.sr.gl g)⟩,?_⟩
    · intro id blk hb
      rcases hput id blk hb with ⟨_,h1,h2⟩ | h1
      · exact .inr ⟨h1,h2⟩
      · exact .inl (hz.sr.al id blk h1)
    · intro id blk hb
      rcases hput id blk hb with ⟨rfl,_,_⟩ | h1
      · trivial
      · exact (hz.sr.mem id blk h1).keep (hz.sr.al id blk h1) hk2 fun _ _=>rfl
    · intro id id' blk blk' b h1 h2 h3 h4 h5 h6
      rcases hput id blk h1 with ⟨rfl,_,_⟩ | h1
      · cases h2
      · rcases hput id' blk' h3 with ⟨rfl,_,_⟩ | h3
        · cases h4
        · exact hz.sr.sep id id' blk blk' b h1 h2 h3 h4 h5 h6
    · intro id blk b h1 h2 h3
      rcases hput id blk h1 with ⟨rfl,_,_⟩ | h1
      · cases h2
      · exact hz.sr.own id blk b h1 h2 h3
    · intro id hid
      simp only[List.length_replicate]
      rcases hid with hid | hid
      · rcases hc.al id hid with h1 | h1
        · exact .inl h1
        · exact .inr ⟨h1.1,by omega⟩
      · exact .inr ⟨hid.1,by omega⟩
  · intro hkb M hM id b hb
    have h1:id < nx:=by
      rcases Nat.lt_or_ge id nx with h1 | h1
      · exact h1
      · rw[hkb id h1] at hb; cases hb
    have:touch (⟨v,[],List.replicate (nx' - nx) deadB,[]⟩:Eff) nx id=none:=by
      unfold touch
      rw[if_neg (by omega)]; rfl
    simp only[put,this]
    exact hM id b hb
theorem yop_iso (hr:RunOK P B r) (hE:Env P ct) {o:Oper}{tm:Tm}{zm:Zm}{nx:Nat}{K:KT}(h:yop (isoCL r P ct) P Gl.G tm o.op zm nx K) :
    ∃ v zm' nx' up rd e,K v zm' nx' up rd∧YSt P B o tm zm zm' nx nx' v up rd e:=by
  unfold yop at h
  split at h
  · rename_i f args ts ho
    unfold isoCL callY at h
    split at h
    · rename_i fid caps hf
      split at h
      · rename_i c hc
        obtain⟨hlt,h⟩:=cnd_iff.1 h
        rw[Nat.blt_eq] at hlt
        obtain⟨v,rd,e,k1,k2⟩:=isoC_yst (B:=B) hE ho hf hlt (hE.ct fid c hc) h
        exact⟨v,zm,nx,[],rd,e,k1,k2⟩
      · obtain⟨hlt,h⟩:=cnd_iff.1 h
        rw[Nat.blt_eq] at hlt
        obtain⟨v,nx',e,k1,k2⟩:=body_iso (K:=fun v nx=>K v zm nx [] []) hr hE ho hf hlt h
        exact⟨v,zm,nx',[],[],e,k1,k2⟩
    · exact h.elim
  · obtain⟨e,he,hk⟩:=rsK_inv h
    obtain⟨h1,h2⟩:=yop1_s (B:=B) he
    exact⟨_,_,_,_,_,e,hk,YSt.of h1 h2⟩
structure YTr (P:Program) (B:Nat) (ops:Array Oper) (N:Nat) (tm0:Tm) (zm0:Zm) (nx0:Nat) (tm:Tm) (zm:Zm) (nx:Nat) (tr:List TE) (zs:List ZTE):Prop where
  corr:Corr tr zs
  tv:∀ t,tv tm t=Ab.look wrT (tv tm0) (fun _=>true) tr t
  nxe:nx=nextId nx0 tr
  le:nx0≤nx
  kb:KB zm nx
  mem:∀ M,Sub (gm zm0) M→Valid P B Gl.G ops N (Y.tv tm0) M nx0 tr∧Sub (gm zm) (Ab.look wrM M (fun _=>true) tr) ∧
    ∀ id,(id < nx0∨nx≤id)→gm zm0 id=none→Ab.look wrM M (fun _=>true) tr id=M id∧gm zm id=none
theorem rdraw_tr (hr:RunOK P B r) (hE:Env P ct) {ops:Array Oper}{N:Nat}{tm0:Tm}{zm0:Zm}{nx0:Nat}{K:Tm→Zm→Nat→List ZTE→Prop} :
    ∀(l:List Oper) (tm:Tm) (zm:Zm) (nx:Nat) (tr:List TE) (zs:List ZTE),(∀ k,ops[tr.length + k]?=l[k]?)→(∀ o∈l,dOk N o.dst=true)→YTr P B ops N tm0 zm0 nx0 tm zm nx tr zs→rdraw (isoCL r P ct) P Gl.G ops.toList l tm zm nx zs K →
      ∃ tm' zm' nx' tr' zs',K tm' zm' nx' zs'∧YTr P B ops N tm0 zm0 nx0 tm' zm' nx' tr' zs'∧tr'.length=tr.length + l.length
  | [],tm,zm,nx,tr,zs,_,_,hz,h=>⟨tm,zm,nx,tr,zs,h,hz,rfl⟩
  | o::l,tm,zm,nx,tr,zs,hops,hD,hz,h=>by
    have hop:ops[tr.length]?=some o:=by have:=hops 0; simpa using this
    have hops':∀ k,ops[tr.length + 1 + k]?=l[k]?:=by
      intro k
      have:=hops (k + 1)
      simp only[List.getElem?_cons_succ] at this
      rw[←this]; congr 1; omega
    have hd:=hD o (by simp)
    have hD':∀ o∈l,dOk N o.dst=true:=fun o ho=>hD o (by simp [ho])
    have hdst:∀ d,o.dst=some d→d < N:=by intro d h1; rw[h1] at hd; simpa [dOk] using hd
    have hlook:∀(v:V) (te:TE),te.o=o→te.e.v=v→∀ tm1,Same tm tm1→∀ t,tv (putT o.dst v tm1) t=Ab.look wrT (tv tm0) (fun _=>true) (te::tr) t:=by
      intro v te h1 h2 tm1 hsm t
      simp only[Ab.look,if_true,wrT,h1,h2]
      rw[←hz.tv t]
      cases ho:o.dst with
      | none=>exact hsm t
      | some d =>
        by_cases hdt:t=d
        · subst hdt; simp [putT,tv_set]
        · have hdt':¬ d=t:=fun e=>hdt e.symm
          simp [putT,tv_set,hdt,hdt']
          exact hsm t
    have h0:grdK ops.toList o.guard tm
        (fun tm=>yop (isoCL r P ct) P Gl.G tm o.op zm nx fun v zm nx' up rd=>putD o.dst v tm fun tm=>rdraw (isoCL r P ct) P Gl.G ops.toList l tm zm nx' (.mk o nx nx' up rd::zs) K)
        (fun tm=>putD o.dst (.tup .nl) tm fun tm=>rdraw (isoCL r P ct) P Gl.G ops.toList l tm zm nx (.mk o nx nx [] []::zs) K):=h
    rcases grdK_pure h0 with ⟨_,hw,tm1,hsm,h1⟩ | ⟨_,hw,tm1,hsm,h1⟩
    · obtain⟨v,zm1,nx1,up,rd,e,k1,k2⟩:=yop_iso hr hE h1
      rw[putD_eq] at k1
      have hne:=k2.nxt
      refine (?_:∃ tm' zm' nx' tr' zs',K tm' zm' nx' zs'∧YTr P B ops N tm0 zm0 nx0 tm' zm' nx' tr' zs'∧tr'.length=tr.length + 1 + l.length) |> fun⟨a,b,c,d,e,f,g,hh⟩=>⟨a,b,c,d,e,f,g,by rw[hh]; simp; omega⟩
      have hcorr:Corr (⟨o,e,nx,false⟩::tr) (.mk o nx nx1 up rd::zs):=⟨hz.corr,rfl,rfl,by show nx + e.nw.length=nx1; omega,k2.ups,k2.rds⟩
      refine rdraw_tr hr hE l _ zm1 nx1 (⟨o,e,nx,false⟩::tr) _ (by simpa using hops') hD' ⟨hcorr,hlook v ⟨o,e,nx,false⟩ rfl k2.val tm1 hsm,?_,?_,k2.kb hz.kb,?_⟩ k1
      · show nx1=nx + e.nw.length; exact hne
      · have:=hz.le; omega
      · intro M hM
        obtain⟨m1,m2,m3⟩:=hz.mem M hM
        have hS:(fun id=>Ab.look wrM M (fun _=>true) (⟨o,e,nx,false⟩::tr) id)=put (Ab.look wrM M (fun _=>true) tr) nx e:=by
          funext id
          simp only[Ab.look,if_true,look_wrM M]
          rfl
        refine⟨⟨m1,hop,hz.nxe,hdst,?_,?_⟩,?_,?_⟩
        · exact hw _ fun t=>(hz.tv t).symm
        · simp only[Bool.false_eq_true,if_false]
          have h5:=k2.sem _ m2
          have:ev Gl.G tm1=opv Gl.G (Ab.look wrT (tv tm0) (fun _=>true) tr):=by
            unfold ev
            congr 1
            funext t
            exact (hsm t).trans (hz.tv t)
          rw[←this]; exact h5
        · have:=k2.sub hz.kb _ m2
          intro id b hb
          have h6:=this id b hb
          rw[←hS] at h6
          exact h6
        · intro id hid hn
          obtain⟨q1,q2⟩:=m3 id (by have:=hz.le; omega) hn
          refine⟨?_,k2.kn id (by have:=hz.le; omega) q2⟩
          have h7:=congrFun hS id
          rw[show Ab.look wrM M (fun _=>true) (⟨o,e,nx,false⟩::tr) id=put (Ab.look wrM M (fun _=>true) tr) nx e id from h7]
          have ht:touch e nx id=none:=by
            unfold touch
            rw[if_neg (by have:=hz.le; omega)]
            cases hl:e.up.lookup id with
            | none=>rfl
            | some b =>
              exfalso
              obtain⟨x,hx,e1⟩:=lookup_mem hl
              obtain⟨b',hb'⟩:=k2.upk x hx
              rw[e1,q2] at hb'; cases hb'
          simp only[put,ht]
          exact q1
    · rw[putD_eq] at h1
      refine (?_:∃ tm' zm' nx' tr' zs',K tm' zm' nx' zs'∧YTr P B ops N tm0 zm0 nx0 tm' zm' nx' tr' zs'∧tr'.length=tr.length + 1 + l.length) |> fun⟨a,b,c,d,e,f,g,hh⟩=>⟨a,b,c,d,e,f,g,by rw[hh]; simp; omega⟩
      have hcorr:Corr (⟨o,skipE,nx,true⟩::tr) (.mk o nx nx [] []::zs):=⟨hz.corr,rfl,rfl,rfl,rfl,rfl⟩
      refine rdraw_tr hr hE l _ zm nx (⟨o,skipE,nx,true⟩::tr) _ (by simpa using hops') hD' ⟨hcorr,hlook (.tup .nl) ⟨o,skipE,nx,true⟩ rfl rfl tm1 hsm,?_,hz.le,hz.kb,?_⟩ h1
      · show nx=nx + 0; rfl
      · intro M hM
        obtain⟨m1,m2,m3⟩:=hz.mem M hM
        have hS:∀ id,Ab.look wrM M (fun _=>true) (⟨o,skipE,nx,true⟩::tr) id=Ab.look wrM M (fun _=>true) tr id:=by
          intro id
          simp only[Ab.look,if_true,look_wrM M]
          have h1:¬ (nx≤id∧id < nx + 0):=by omega
          simp only[skipE,touch,List.length_nil,h1,if_false,List.lookup_nil]
        refine⟨⟨m1,hop,hz.nxe,hdst,hw _ fun t=>(hz.tv t).symm,by simp [skipE]⟩,fun id b hb=>by rw[hS]; exact m2 id b hb,fun id hid hn=>by rw[hS]; exact m3 id hid hn⟩
end
end
end Go.Y
namespace Go.Y
open Go.Ab Go.RowKit
noncomputable section
variable [Gl]
section
variable {P:Program}{ct:CTab}{B:Nat}{r:RUN}
theorem drw_runs (hr:RunOK P B r) (hE:Env P ct) {id:Nat}{ops:Array Oper}{tm:Tm}{zm:Zm}{nx:Nat}{K:K3}{N:Nat}(h:drwK r P Gl.G ct ops tm zm nx K)
    (hD:∀ o∈ops.toList,dOk N o.dst=true) (hkb:KB zm nx) :
    ∃ tm' zm' nx',K .normal tm' zm' nx'∧KB zm' nx'∧nx≤nx'∧Runs P B (.region id ops true) tm zm nx N .normal tm' zm' nx':=by
  have hz0:YTr P B ops N tm zm nx tm zm nx [] []:=⟨trivial,fun _=>rfl,rfl,Nat.le_refl _,hkb,fun M hM=>⟨trivial,hM,fun _ _ h=>⟨rfl,h⟩⟩⟩
  obtain⟨tm',zm',nx',tr,zs,k1,hz,hlen⟩:=rdraw_tr hr hE ops.toList tm zm nx [] [] (by simp) hD hz0 h
  obtain⟨hdr,hk⟩:=cnd_iff.1 k1
  have hlen':tr.length=ops.size:=by simpa using hlen
  refine⟨tm',zm',nx',hk,hz.kb,hz.le,fun H C M a hH hzr ht=>?_⟩
  obtain⟨hv,hsub,hfr⟩:=hz.mem M hzr.sub
  obtain⟨hTa,hMa,hback⟩:=drawOk_sound (drawZ_ok hz.corr hdr)
  refine wpIn_wide.1 (wpIn_region_any (n:=0) hE.mixed ?_)
  obtain⟨hsd,hkd⟩:=hzr.sr.drew
  have hl0:(fun i=>(Array.replicate ops.size false).getD i false)=fun _=>false:=by
    funext i
    simp only[Array.getD_eq_getD_getElem?,Array.getElem?_replicate]
    split<;>rfl
  have hno:∀ {K X:Type}(wr:TE→K→Option X) (base:K→X),Ab.look wr base (fun _=>false) tr=base:=fun wr base=>funext fun k=>look_none k tr (fun i _=>rfl)
  have hps:PS B { C with w:=C.w.drew } N (tv tm) M tr (fun _=>false) a { C with w:=C.w.drew }:=by
    refine⟨Kp.refl B _,by rw[hno]; exact hsd,fun t=>by rw[hno]; exact R.keep hkd.toKeep _ _ (ht.tv t),fun id h=>.inl h,ht.size⟩
  have hnx:=hz.nxe
  have hQ:∀(a':Act) (C':Ctx),a'.defers=a.defers→PS B { C with w:=C.w.drew } N (tv tm) M tr (fun _=>true) a' C'→YFin B H C M zm nx N .normal tm' zm' nx' .normal a' C'.w:=by
    intro a' C' hd hps'
    have hal:∀ id,C'.al id→C.al id∨(nx≤id∧id < nx'):=fun id hid=>by
      rcases hps'.al id hid with h1 | ⟨l,te,r,e,_,h2,h3⟩
      · exact .inl h1
      · have:=(nextId_le hv).2 te (by rw[e]; simp)
        exact .inr ⟨by omega,by omega⟩
    refine⟨rfl,C',_,rfl,⟨hps'.sr,hsub,fun id h1 h2 h3=>?_⟩,⟨fun t=>?_,hps'.size,by rw[hd]; exact ht.defers⟩,⟨hkd.trans hps'.kp,hal,fun id hid hn=>hfr id (by omega) hn⟩⟩
    · rcases hal id h3 with h4 | h4
      · exact hzr.al id (by have:=hz.le; omega) h2 h4
      · omega
    · have:=hps'.tm t
      rw[←hz.tv t] at this; exact this
  refine any_region (ro:=none) (C0:={ C with w:=C.w.drew }) (G:=Gl.G) hv hlen' hTa hMa hback (fun id h1 h2=>hzr.al id h1 (by omega)) (fun g C' hk'=>R.keep hk' _ _ (hsd.gl g)) a.defers hQ ops.size (Array.replicate ops.size false) a _ (by simp) ?_ ?_ rfl (by rw[hl0]; exact hps)
  · have:=List.countP_le_length (p:=fun i=>!(Array.replicate ops.size false).getD i false) (l:=List.range ops.size)
    simpa using this
  · intro l te r e hs'
    rw[hl0] at hs'; cases hs'
inductive LoopOut (P:Program) (B:Nat) (c:Code) (N:Nat) (e:Exit) (tm':Tm) (zm':Zm) (nx':Nat):Nat→Tm→Zm→Nat→Prop where
  | out {k:Nat}{tm:Tm}{zm:Zm}{nx:Nat}(h:Runs P B c tm zm nx N e tm' zm' nx') (he:e≠.normal) (hle:nx≤nx'):LoopOut P B c N e tm' zm' nx' (k + 1) tm zm nx
  | round {k:Nat}{tm tm1:Tm}{zm zm1:Zm}{nx nx1:Nat}(h:Runs P B c tm zm nx N .normal tm1 zm1 nx1) (hle:nx≤nx1) (h2:LoopOut P B c N e tm' zm' nx' k tm1 zm1 nx1):LoopOut P B c N e tm' zm' nx' (k + 1) tm zm nx
theorem LoopOut.le {c:Code}{N k:Nat}{e:Exit}{tm tm':Tm}{zm zm':Zm}{nx nx':Nat}(h:LoopOut P B c N e tm' zm' nx' k tm zm nx):nx≤nx':=by
  induction h with
  | out h he hle=>exact hle
  | round h hle h2 ih=>omega
theorem LoopOut.runs {c:Code}{N k:Nat}{e:Exit}{tm tm':Tm}{zm zm':Zm}{nx nx':Nat}(h:LoopOut P B c N e tm' zm' nx' k tm zm nx):Runs P B (.loop c) tm zm nx N e tm' zm' nx':=by
  intro H C M a hH hz ht
  refine wp_loop_ghost (fun n a w=>∃ C' M' tm1 zm1 nx1,C'.w=w∧YR B H C' M' zm1 nx1∧YT C' tm1 a N∧YC B H C M zm nx C' M' zm1 nx1∧nx≤nx1∧LoopOut P B c N e tm' zm' nx' n tm1 zm1 nx1) k ⟨C,M,tm,zm,nx,rfl,hz,ht,YC.refl C M zm nx,Nat.le_refl _,h⟩ ?_
  rintro n a w ⟨C1,M1,tm1,zm1,nx1,rfl,h1,h2,h3,h4,h5⟩
  cases h5 with
  | out hr he hle =>
    refine wp_mono (hr H C1 M1 a hH h1 h2) ?_
    rintro e' a' w' ⟨rfl,C2,M2,rfl,hf⟩
    have hq:YFin B H C M zm nx N e' tm' zm' nx' e' a' C2.w:=⟨rfl,C2,M2,rfl,hf.yr,hf.yt,h3.trans hf.yc h4 hle⟩
    cases e' with
    | normal=>exact absurd rfl he
    | _=>exact hq
  | @round k _ tm2 _ zm2 _ nx2 hr hle h6 =>
    refine wp_mono (hr H C1 M1 a (by have:=h6.le; omega) h1 h2) ?_
    rintro e' a' w' ⟨rfl,C2,M2,rfl,hf⟩
    exact⟨k,by omega,C2,M2,tm2,zm2,nx2,rfl,hf.yr,hf.yt,h3.trans hf.yc h4 hle,by omega,h6⟩
theorem loop_out {c:Code}{N:Nat}{K:K3}{u:Bool}:∀(n:Nat),(∀ m,m < n→RunOK P B (run P Gl.G ct u m))→cOk N c=true→∀(tm:Tm) (zm:Zm) (nx:Nat),run P Gl.G ct u n (.loop c) tm zm nx K→KB zm nx →
    ∃ e tm' zm' nx' k,K e tm' zm' nx'∧KB zm' nx'∧LoopOut P B c N e tm' zm' nx' k tm zm nx
  | 0,_,_,tm,zm,nx,h,_=>BadN.elim (n:=14) h
  | n + 1,IH,hO,tm,zm,nx,h,hkb=>by
    cases u with
    | false=>exact BadN.elim (n:=12) h
    | true =>
    obtain⟨e,tm1,zm1,nx1,k1,k4,k5,k6⟩:=IH n (by omega) c tm zm nx (seqK (run P Gl.G ct true n) (.loop c) K) N h hO hkb
    cases e with
    | normal =>
      obtain⟨e2,tm2,zm2,nx2,k,q1,q4,q5⟩:=loop_out n (fun m hm=>IH m (by omega)) hO tm1 zm1 nx1 k1 k4
      exact⟨e2,tm2,zm2,nx2,k + 1,q1,q4,.round k6 k5 q5⟩
    | exit i=>exact⟨_,tm1,zm1,nx1,1,k1,k4,.out k6 (by intro h; cases h) k5⟩
    | goto i=>exact⟨_,tm1,zm1,nx1,1,k1,k4,.out k6 (by intro h; cases h) k5⟩
    | ret=>exact⟨_,tm1,zm1,nx1,1,k1,k4,.out k6 (by intro h; cases h) k5⟩
    | panic c=>exact⟨_,tm1,zm1,nx1,1,k1,k4,.out k6 (by intro h; cases h) k5⟩
    | outgrown=>exact⟨_,tm1,zm1,nx1,1,k1,k4,.out k6 (by intro h; cases h) k5⟩
def WR (P:Program) (B N:Nat) (c:Code) (tm:Tm) (zm:Zm) (nx:Nat) (K:K3):Prop :=
  ∃ e tm' zm' nx',K e tm' zm' nx'∧KB zm' nx'∧nx≤nx'∧Runs P B c tm zm nx N e tm' zm' nx'
section
variable {N:Nat}{tm:Tm}{zm:Zm}{nx:Nat}{K:K3}
theorem WR.mono {c:Code}{K':K3}(h:WR P B N c tm zm nx K) (hk:∀ e tm zm nx,KB zm nx→K e tm zm nx→K' e tm zm nx):WR P B N c tm zm nx K':=by
  obtain⟨e,tm',zm',nx',k1,k2,k3,k4⟩:=h
  exact⟨e,tm',zm',nx',hk _ _ _ _ k2 k1,k2,k3,k4⟩
theorem WR.skip (hkb:KB zm nx) (h:K .normal tm zm nx):WR P B N .skip tm zm nx K:=⟨.normal,tm,zm,nx,h,hkb,Nat.le_refl _,fun H C M a _ hz ht=>wp_skip ⟨rfl,C,M,rfl,hz,ht,YC.refl C M zm nx⟩⟩
theorem WR.label {l:Nat}(hkb:KB zm nx) (h:K .normal tm zm nx):WR P B N (.label l) tm zm nx K:=⟨.normal,tm,zm,nx,h,hkb,Nat.le_refl _,fun H C M a _ hz ht=>wp_label ⟨rfl,C,M,rfl,hz,ht,YC.refl C M zm nx⟩⟩
theorem WR.exit {i:Nat}(hkb:KB zm nx) (h:K (.exit i) tm zm nx):WR P B N (.exit i) tm zm nx K:=⟨.exit i,tm,zm,nx,h,hkb,Nat.le_refl _,fun H C M a _ hz ht=>wp_exit ⟨rfl,C,M,rfl,hz,ht,YC.refl C M zm nx⟩⟩
theorem WR.ret (hkb:KB zm nx) (h:K .ret tm zm nx):WR P B N .ret tm zm nx K:=⟨.ret,tm,zm,nx,h,hkb,Nat.le_refl _,fun H C M a _ hz ht=>wp_ret ⟨rfl,C,M,rfl,hz,ht,YC.refl C M zm nx⟩⟩
def thenK (Q:Tm→Zm→Nat→Prop) (K:K3) (e:Exit):Tm→Zm→Nat→Prop:=match e with
  | .normal=>Q
  | e=>K e
theorem WR.seq {x y:Code}(h:WR P B N x tm zm nx (thenK (fun tm zm nx=>WR P B N y tm zm nx K) K)):WR P B N (.seq x y) tm zm nx K:=by
  obtain⟨e,tm1,zm1,nx1,k1,k4,k5,k6⟩:=h
  cases e with
  | normal =>
    obtain⟨e2,tm2,zm2,nx2,q1,q4,q5,q6⟩:=(show WR P B N y tm1 zm1 nx1 K from k1)
    refine⟨e2,tm2,zm2,nx2,q1,q4,by omega,fun H C M a hH hz ht=>wp_seq (wp_mono (k6 H C M a (by omega) hz ht) ?_)⟩
    rintro e' a' w' ⟨rfl,C',M',rfl,hf⟩
    refine wp_mono (q6 H C' M' a' hH hf.yr hf.yt) ?_
    rintro e' a'' w' ⟨rfl,C'',M'',rfl,hf'⟩
    exact⟨rfl,C'',M'',rfl,hf'.yr,hf'.yt,hf.yc.trans hf'.yc k5 q5⟩
  | exit i=>exact⟨_,tm1,zm1,nx1,k1,k4,k5,fun H C M a hH hz ht=>wp_seq (wp_mono (k6 H C M a hH hz ht) (by rintro e' a' w' ⟨rfl,hf⟩; exact⟨rfl,hf⟩))⟩
  | goto i=>exact⟨_,tm1,zm1,nx1,k1,k4,k5,fun H C M a hH hz ht=>wp_seq (wp_mono (k6 H C M a hH hz ht) (by rintro e' a' w' ⟨rfl,hf⟩; exact⟨rfl,hf⟩))⟩
  | ret=>exact⟨_,tm1,zm1,nx1,k1,k4,k5,fun H C M a hH hz ht=>wp_seq (wp_mono (k6 H C M a hH hz ht) (by rintro e' a' w' ⟨rfl,hf⟩; exact⟨rfl,hf⟩))⟩
  | panic c=>exact⟨_,tm1,zm1,nx1,k1,k4,k5,fun H C M a hH hz ht=>wp_seq (wp_mono (k6 H C M a hH hz ht) (by rintro e' a' w' ⟨rfl,hf⟩; exact⟨rfl,hf⟩))⟩
  | outgrown=>exact⟨_,tm1,zm1,nx1,k1,k4,k5,fun H C M a hH hz ht=>wp_seq (wp_mono (k6 H C M a hH hz ht) (by rintro e' a' w' ⟨rfl,hf⟩; exact⟨rfl,hf⟩))⟩
theorem WR.block {id:Nat}{x:Code}(h:WR P B N x tm zm nx (blockK id K)):WR P B N (.block id x) tm zm nx K:=by
  obtain⟨e,tm1,zm1,nx1,k1,k4,k5,k6⟩:=h
  cases e with
  | exit i =>
    have k1':@Bool.rec (fun _=>Tm→Zm→Nat→Prop) (K (.exit i)) (K .normal) (Nat.beq i id) tm1 zm1 nx1:=k1
    cases hb:Nat.beq i id with
    | true =>
      rw[hb] at k1'
      have hi:=Nat.eq_of_beq_eq_true hb
      refine⟨.normal,tm1,zm1,nx1,k1',k4,k5,fun H C M a hH hz ht=>wp_block (wp_mono (k6 H C M a hH hz ht) ?_)⟩
      rintro e' a' w' ⟨rfl,hf⟩
      simp only[Exit.inBlock,hi,if_true]
      exact⟨rfl,hf⟩
    | false =>
      rw[hb] at k1'
      have hi:¬ i=id:=fun e=>by subst e; rw[Nat.beq_refl] at hb; cases hb
      refine⟨.exit i,tm1,zm1,nx1,k1',k4,k5,fun H C M a hH hz ht=>wp_block (wp_mono (k6 H C M a hH hz ht) ?_)⟩
      rintro e' a' w' ⟨rfl,hf⟩
      simp only[Exit.inBlock,hi,if_false]
      exact⟨rfl,hf⟩
  | normal=>exact⟨_,tm1,zm1,nx1,k1,k4,k5,fun H C M a hH hz ht=>wp_block (wp_mono (k6 H C M a hH hz ht) (by rintro e' a' w' ⟨rfl,hf⟩; exact⟨rfl,hf⟩))⟩
  | goto i=>exact⟨_,tm1,zm1,nx1,k1,k4,k5,fun H C M a hH hz ht=>wp_block (wp_mono (k6 H C M a hH hz ht) (by rintro e' a' w' ⟨rfl,hf⟩; exact⟨rfl,hf⟩))⟩
  | ret=>exact⟨_,tm1,zm1,nx1,k1,k4,k5,fun H C M a hH hz ht=>wp_block (wp_mono (k6 H C M a hH hz ht) (by rintro e' a' w' ⟨rfl,hf⟩; exact⟨rfl,hf⟩))⟩
  | panic c=>exact⟨_,tm1,zm1,nx1,k1,k4,k5,fun H C M a hH hz ht=>wp_block (wp_mono (k6 H C M a hH hz ht) (by rintro e' a' w' ⟨rfl,hf⟩; exact⟨rfl,hf⟩))⟩
  | outgrown=>exact⟨_,tm1,zm1,nx1,k1,k4,k5,fun H C M a hH hz ht=>wp_block (wp_mono (k6 H C M a hH hz ht) (by rintro e' a' w' ⟨rfl,hf⟩; exact⟨rfl,hf⟩))⟩
theorem WR.scope {x:Code}(h:WR P B N x tm zm nx (scopeK K)):WR P B N (.scope x) tm zm nx K:=by
  obtain⟨e,tm1,zm1,nx1,k1,k4,k5,k6⟩:=h
  cases e with
  | goto i=>exact BadN.elim (n:=11) k1
  | normal=>exact⟨_,tm1,zm1,nx1,k1,k4,k5,fun H C M a hH hz ht=>wp_scope_straight (wp_mono (k6 H C M a hH hz ht) (by rintro e' a' w' ⟨rfl,hf⟩; exact⟨rfl,hf⟩))⟩
  | exit i=>exact⟨_,tm1,zm1,nx1,k1,k4,k5,fun H C M a hH hz ht=>wp_scope_straight (wp_mono (k6 H C M a hH hz ht) (by rintro e' a' w' ⟨rfl,hf⟩; exact⟨rfl,hf⟩))⟩
  | ret=>exact⟨_,tm1,zm1,nx1,k1,k4,k5,fun H C M a hH hz ht=>wp_scope_straight (wp_mono (k6 H C M a hH hz ht) (by rintro e' a' w' ⟨rfl,hf⟩; exact⟨rfl,hf⟩))⟩
  | panic c=>exact⟨_,tm1,zm1,nx1,k1,k4,k5,fun H C M a hH hz ht=>wp_scope_straight (wp_mono (k6 H C M a hH hz ht) (by rintro e' a' w' ⟨rfl,hf⟩; exact⟨rfl,hf⟩))⟩
  | outgrown=>exact⟨_,tm1,zm1,nx1,k1,k4,k5,fun H C M a hH hz ht=>wp_scope_straight (wp_mono (k6 H C M a hH hz ht) (by rintro e' a' w' ⟨rfl,hf⟩; exact⟨rfl,hf⟩))⟩
theorem WR.cond {c:Operand}{x y:Code}(h:condK Gl.G tm c fun b tm=>@Bool.rec (fun _=>Prop) (WR P B N y tm zm nx K) (WR P B N x tm zm nx K) b):WR P B N (.cond c x y) tm zm nx K:=by
  obtain⟨b,tm1,hb,hsm,h1⟩:=condK_inv h
  have hev:∀(C:Ctx) (M:Mem) (H:Nat) (a:Act),YR B H C M zm nx→YT C tm a N→a.eval c=.bool b:=fun C M H a hz ht=>by
    have:=ht.operand hz.sr.gl c
    rw[hb] at this
    exact this
  cases b with
  | true =>
    obtain⟨e,tm2,zm1,nx1,k1,k4,k5,k6⟩:=(show WR P B N x tm1 zm nx K from h1)
    exact⟨e,tm2,zm1,nx1,k1,k4,k5,fun H C M a hH hz ht=>wp_cond_true (hev C M H a hz ht) (k6 H C M a hH hz (ht.same hsm))⟩
  | false =>
    obtain⟨e,tm2,zm1,nx1,k1,k4,k5,k6⟩:=(show WR P B N y tm1 zm nx K from h1)
    exact⟨e,tm2,zm1,nx1,k1,k4,k5,fun H C M a hH hz ht=>wp_cond_false (hev C M H a hz ht) (k6 H C M a hH hz (ht.same hsm))⟩
end
theorem run_ok (hE:Env P ct) (u:Bool) (n:Nat):RunOK P B (run P Gl.G ct u n):=by
  induction n using Nat.strongRecOn with
  | _ n IH =>
  cases n with
  | zero=>intro c tm zm nx K N h; exact BadN.elim (n:=14) h
  | succ n =>
    have ih:=IH n (by omega)
    have wr:∀ {c:Code}{tm:Tm}{zm:Zm}{nx:Nat}{K:K3}{N:Nat},run P Gl.G ct u n c tm zm nx K→cOk N c=true→KB zm nx→WR P B N c tm zm nx K:=fun h hO hkb=>ih _ _ _ _ _ _ h hO hkb
    intro c
    cases c with
    | skip=>intro tm zm nx K N h _ hkb; exact WR.skip hkb h
    | label l=>intro tm zm nx K N h _ hkb; exact WR.label hkb h
    | exit i=>intro tm zm nx K N h _ hkb; exact WR.exit hkb h
    | ret=>intro tm zm nx K N h _ hkb; exact WR.ret hkb h
    | region id ops draw =>
      intro tm zm nx K N h hO hkb
      have hD:∀ o∈ops.toList,dOk N o.dst=true:=List.all_eq_true.1 hO
      cases draw with
      | true =>
        obtain⟨tm',zm',nx',k1,k4,k5,k6⟩:=drw_runs ih hE (show drwK (run P Gl.G ct u n) P Gl.G ct ops tm zm nx K from h) hD hkb
        exact⟨.normal,tm',zm',nx',k1,k4,k5,k6⟩
      | false =>
        obtain⟨tm',zm',nx',k1,k4,k5,k6⟩:=rops_runs ih hE (ops:=ops) (N:=N) ops.toList 0 tm zm nx (by simp) hD (show rops (seqCL (run P Gl.G ct u n) P ct) P Gl.G ops.toList ops.toList tm zm nx (K .normal) from h) hkb
        refine⟨.normal,tm',zm',nx',k1,k4,k5,fun H C M a hH hz ht=>wp_region ?_⟩
        rw[List.range_eq_range',←Array.length_toList]
        exact k6 H C M a _ hH hz ht fun C' M' a' hf=>⟨rfl,C',M',rfl,hf⟩
    | seq x y =>
      intro tm zm nx K N h hO hkb
      simp only[cOk,Bool.and_eq_true] at hO
      refine WR.seq ((wr (K:=seqK (run P Gl.G ct u n) y K) h hO.1 hkb).mono fun e tm' zm' nx' hkb' hk=>?_)
      cases e with
      | normal=>exact wr hk hO.2 hkb'
      | _=>exact hk
    | cond c x y =>
      intro tm zm nx K N h hO hkb
      simp only[cOk,Bool.and_eq_true] at hO
      have h0:condK Gl.G tm c (fun b tm=>@Bool.rec (fun _=>Prop) (run P Gl.G ct u n y tm zm nx K) (run P Gl.G ct u n x tm zm nx K) b):=h
      obtain⟨b,tm1,hb,hsm,h1⟩:=condK_inv h0
      have hev:∀(C:Ctx) (M:Mem) (H:Nat) (a:Act),YR B H C M zm nx→YT C tm a N→a.eval c=.bool b:=fun C M H a hz ht=>by
        have:=ht.operand hz.sr.gl c
        rw[hb] at this
        exact this
      cases b with
      | true =>
        obtain⟨e,tm2,zm1,nx1,k1,k4,k5,k6⟩:=ih x tm1 zm nx K N h1 hO.1 hkb
        exact⟨e,tm2,zm1,nx1,k1,k4,k5,fun H C M a hH hz ht=>wp_cond_true (hev C M H a hz ht) (k6 H C M a hH hz (ht.same hsm))⟩
      | false =>
        obtain⟨e,tm2,zm1,nx1,k1,k4,k5,k6⟩:=ih y tm1 zm nx K N h1 hO.2 hkb
        exact⟨e,tm2,zm1,nx1,k1,k4,k5,fun H C M a hH hz ht=>wp_cond_false (hev C M H a hz ht) (k6 H C M a hH hz (ht.same hsm))⟩
    | block id x=>intro tm zm nx K N h hO hkb; exact WR.block (wr (K:=blockK id K) h hO hkb)
    | scope x=>intro tm zm nx K N h hO hkb; exact WR.scope (wr (K:=scopeK K) h hO hkb)
    | loop x =>
      intro tm zm nx K N h hO hkb
      obtain⟨e,tm',zm',nx',k,k1,k4,k5⟩:=loop_out (c:=x) (n + 1) IH (show cOk N x=true from hO) tm zm nx h hkb
      exact⟨e,tm',zm',nx',k1,k4,k5.le,k5.runs⟩
    | _=>intro tm zm nx K N h; exact BadN.elim (n:=13) h
theorem WR.run (hE:Env P ct) {u:Bool}{n N:Nat}{c:Code}{tm:Tm}{zm:Zm}{nx:Nat}{K:K3}(h:run P Gl.G ct u n c tm zm nx K) (hO:cOk N c=true) (hkb:KB zm nx):WR P B N c tm zm nx K:=run_ok hE u n _ _ _ _ _ _ h hO hkb
end
end
end Go.Y
namespace Go.Y
open Go.Ab Go.RowKit
noncomputable section
variable [Gl]
def wkV (n:Nat) (v w:V):Prop:=match w with
  | .unk=>True
  | w=>v.le w∧v.bel n
def wkB (n:Nat) (b:Option Blk) (c:Blk):Prop:=match c.k with
  | .dead=>∃ x,b=some x
  | .lp ..=>False
  | k=>∃ x,b=some x∧x.k=k∧x.sh=c.sh∧x.v.le c.v∧x.v.bel n
def WkT (n:Nat) (tm tm1:Tm):Prop:=∀ t,wkV n (tv tm t) (tv tm1 t)
def WkZ (n:Nat) (zm zm1:Zm):Prop:=∀ id c,gm zm1 id=some c→id < n∧wkB n (gm zm id) c
def cutC (C:Ctx) (n H:Nat):Ctx:={ C with al:=fun id=>C.al id∧(id < n∨H≤id) }
omit [Gl] in
theorem R.cutLow {C:Ctx}{n H:Nat}(v:V) {m:Ab.M}(hb:v.bel n) (h:R C v m):R (cutC C n H) v m:=by
  have h1:=R.cut v hb h
  refine R.keep (C:=C.cut n) ?_ _ _ h1
  exact⟨fun id hid=>⟨hid.1,.inl hid.2⟩,fun _ _=>rfl,fun _ _=>rfl,fun _ _ h=>h,fun _ _ _=>rfl⟩
omit [Gl] in
theorem R.two {C0 C:Ctx}{n H:Nat}(h0:∀ id,C0.al id→id < n∨H≤id) (v:V):∀ {m0 m:Ab.M},R C0 v m0→R C v m→R (cutC C n H) v m:=by
  have aln:∀ {v:V}{id:Nat}{m0:Ab.M},(∃ p s,v=.ptr id p s)∨(∃ e k,v=.row id e k)∨(∃ p e off len cap,v=.sl id p e off len cap)→R C0 v m0→id < n∨H≤id:=by
    rintro v id m0 (⟨p,s,rfl⟩ | ⟨e,k,rfl⟩ | ⟨p,e,off,len,cap,rfl⟩) h
    · exact h0 _ h.1
    · exact h0 _ h.1
    · exact h0 _ h.1
  have purk:∀ {v:V}{m:Ab.M},R C.pur v m→R (cutC C n H) v m:=fun h=>R.keep (C:=C.pur) (C':=cutC C n H) ⟨fun _ h=>h.elim,fun _ h=>h.elim,fun _ h=>h.elim,fun _ _ h=>h,fun _ _ _=>rfl⟩ _ _ h
  induction v with
  | ptr id p s=>intro m0 m h h'; exact⟨⟨h'.1,aln (.inl ⟨_,_,rfl⟩) h⟩,h'.2⟩
  | row id e k=>intro m0 m h h'; exact⟨⟨h'.1,aln (.inr (.inl ⟨_,_,rfl⟩)) h⟩,h'.2⟩
  | yld id=>intro m0 m h h'; exact⟨⟨h'.1,h0 _ h.1⟩,h'.2⟩
  | sl id p e off len cap=>intro m0 m h h'; exact⟨⟨h'.1,aln (.inr (.inr ⟨_,_,_,_,_,rfl⟩)) h⟩,h'.2⟩
  | cons x t ih1 ih2 =>
    intro m0 m h h'
    have hx:(∃ q,R C0 x q)∧∃ q,R C0 t q:=by
      cases m0 with
      | cel s g off=>obtain⟨a,b,h1,h2,h3⟩:=h; exact⟨⟨_,h2⟩,⟨_,h3⟩⟩
      | val v=>obtain⟨cs,a,b,h1,h2,h3,h4⟩:=h; exact⟨⟨_,h3⟩,⟨_,h4⟩⟩
      | list l=>obtain⟨y,ys,h1,h2,h3⟩:=h; exact⟨⟨_,h2⟩,⟨_,h3⟩⟩
    obtain⟨⟨q1,k1⟩,⟨q2,k2⟩⟩:=hx
    cases m with
    | cel s g off=>obtain⟨a,b,h1,h2,h3⟩:=h'; exact⟨a,b,h1,ih1 k1 h2,ih2 k2 h3⟩
    | val v=>obtain⟨cs,a,b,h1,h2,h3,h4⟩:=h'; exact⟨cs,a,b,h1,h2,ih1 k1 h3,ih2 k2 h4⟩
    | list l=>obtain⟨y,ys,h1,h2,h3⟩:=h'; exact⟨y,ys,h1,ih1 k1 h2,ih2 k2 h3⟩
  | arr k f ih =>
    intro m0 m h h'
    have hx:∀ i,i < k→∃ q,R C0 (f i) q:=by
      intro i hi
      cases m0 with
      | cel s g off=>obtain⟨e,h1,h2⟩:=h; exact⟨_,h2 i hi⟩
      | val v=>obtain⟨cs,e,h1,h2,h3⟩:=h; exact⟨_,h3 i hi⟩
      | list l=>exact h.elim
    cases m with
    | cel s g off=>obtain⟨e,h1,h2⟩:=h'; exact⟨e,h1,fun i hi=>by obtain⟨q,k1⟩:=hx i hi; exact ih i k1 (h2 i hi)⟩
    | val v=>obtain⟨cs,e,h1,h2,h3⟩:=h'; exact⟨cs,e,h1,h2,fun i hi=>by obtain⟨q,k1⟩:=hx i hi; exact ih i k1 (h3 i hi)⟩
    | list l=>exact h'
  | fn f c ih =>
    intro m0 m h h'
    obtain⟨_,_,k1,_⟩:=h
    obtain⟨cs,h1,h2,h3⟩:=h'
    exact⟨cs,h1,ih k1 h2,h3⟩
  | tup l ih =>
    intro m0 m h h'
    have hx:∃ q,R C0 l q:=by
      cases m0 with
      | val v=>obtain⟨cs,h1,h2⟩:=h; exact⟨_,h2⟩
      | cel=>exact h.elim
      | list=>exact h.elim
    obtain⟨q,k1⟩:=hx
    cases m with
    | val v=>obtain⟨cs,h1,h2⟩:=h'; exact⟨cs,h1,ih k1 h2⟩
    | cel=>exact h'
    | list=>exact h'
  | _=>intro m0 m _ h'; exact purk (R.pure_of _ rfl h')
omit [Gl] in
theorem wkV_s {C:Ctx}{n H:Nat}{v w:V}{x:Value}(h:wkV n v w) (hr:R C v (.val x)):R (cutC C n H) w (.val x):=by
  unfold wkV at h
  split at h
  · trivial
  · exact R.le v h.1 (R.cutLow v h.2 hr)
omit [Gl] in
theorem BR.mk {B:Nat}{C:Ctx}{n H:Nat}{id:Nat}{b c:Blk}(h:BR B C id b) (hk:b.k=c.k) (hs:b.sh=c.sh) (hv:(∀ k ps x y,c.k≠.lp k ps x y)→∀ m,R C b.v m→R (cutC C n H) c.v m) (hl:∀ k ps x y,c.k=.lp k ps x y→LoopR B C id k ps x y b.v→LoopR B (cutC C n H) id k ps x y c.v):BR B (cutC C n H) id c:=by
  unfold BR at h ⊢
  rw[hk] at h
  cases hkd:c.k<;>simp only[hkd] at h ⊢
  · obtain⟨g,cur,e,h1,h2,h3,h4,h5,h6,hT⟩:=h
    rw[hs] at h4 h5 h6
    exact⟨g,cur,e,h1,h2,h3,h4,h5,hv (by simp [hkd]) _ h6,hT⟩
  · obtain⟨n1,s,cells,h1,h2,h3,h4⟩:=h
    rw[hs] at h1 h2 h4
    exact⟨n1,s,cells,h1,h2,h3,hv (by simp [hkd]) _ h4⟩
  · exact hl _ _ _ _ hkd h
  · obtain⟨g,es,clk,h1,h2,h3,h4⟩:=h
    exact⟨g,es,clk,h1,h2,h3,hv (by simp [hkd]) _ h4⟩
omit [Gl] in
theorem LoopR.two {B:Nat}{C0 C:Ctx}{n H id m:Nat}{ps:Array Tmp}{a b:Code}{v:V}(hold:∀ id,C0.al id→id < n∨H≤id) (h0:LoopR B C0 id m ps a b v) (h:LoopR B C id m ps a b v):LoopR B (cutC C n H) id m ps a b v:=by
  rcases h with ⟨l,r,st,n1,τ,h1,h2,h3,h4,h7,h8,k9,h10⟩ | h
  · rcases h0 with ⟨_,r0,st0,n0,τ0,_,_,_,_,e0,_,h9,_⟩ | ⟨e0,_⟩
    · rw[e0] at h7
      injection h7 with q1 q2
      injection q2 with q2 q3
      subst q1; subst q2; subst q3
      exact .inl ⟨l,r,_,_,_,h1,h2,h3,h4,e0,h8,fun t=>R.two hold _ (h9 t) (k9 t),h10⟩
    · rw[e0] at h7; cases h7
  · exact .inr h
section
variable {P:Program}{ct:CTab}{B N:Nat}
theorem cut_state {H nx0 nx1:Nat}{C C1:Ctx}{M M1:Mem}{zm0 zm1 zm2:Zm}{tm1 tm2:Tm}{a:Act}(hgn:∀ g,noId (Gl.G g)=true) (hH:nx1≤H) (h0:YR B H C M zm0 nx0) (hkb0:KB zm0 nx0) (h1:YR B H C1 M1 zm1 nx1) (ht:YT C1 tm1 a N) (hc:YC B H C M zm0 nx0 C1 M1 zm1 nx1)
    (hwt:WkT nx0 tm1 tm2) (hwz:WkZ nx0 zm1 zm2) :
    ∃ C2 M2,C2.w=C1.w∧YR B H C2 M2 zm2 nx0∧YT C2 tm2 a N∧YC B H C M zm0 nx0 C2 M2 zm2 nx0:=by
  have hold:∀ id,C.al id→id < nx0∨H≤id:=fun id hid=>by
    rcases Nat.lt_or_ge id nx0 with h | h
    · exact .inl h
    · rcases Nat.lt_or_ge id H with h' | h'
      · exact absurd hid (h0.al id h h')
      · exact .inr h'
  let M2:Mem:=fun id=>match gm zm2 id with
    | some c=>some c
    | none=>if (id < nx0∨H≤id)∧gm zm0 id=none then M1 id else none
  have hM2:∀ id c,M2 id=some c→(gm zm2 id=some c∧id < nx0∧wkB nx0 (gm zm1 id) c)∨(M1 id=some c∧M id=some c∧(id < nx0∨H≤id)):=by
    intro id c h
    simp only[M2] at h
    split at h
    · rename_i c' hc'
      cases h
      obtain⟨q1,q2⟩:=hwz id c hc'
      exact .inl ⟨hc',q1,q2⟩
    · split at h
      · rename_i hn
        have:=(hc.fr id hn.1 hn.2).1
        exact .inr ⟨h,by rw[←this]; exact h,hn.1⟩
      · cases h
  have hsome:∀ id c,M2 id=some c→∃ b,M1 id=some b∧(c.live=true→b.live=true):=by
    intro id c h
    rcases hM2 id c h with ⟨_,_,h3⟩ | ⟨h3,_⟩
    · unfold wkB at h3
      split at h3
      · rename_i hk
        obtain⟨x,hx⟩:=h3
        exact⟨x,h1.sub _ _ hx,fun ha=>by unfold Blk.live at ha; rw[hk] at ha; cases ha⟩
      · exact h3.elim
      · obtain⟨x,hx,hk,_⟩:=h3
        exact⟨x,h1.sub _ _ hx,fun ha=>by unfold Blk.live at ha ⊢; rw[hk]; exact ha⟩
    · exact⟨c,h3,fun h=>h⟩
  have hkeep:Keep C (cutC C1 nx0 H):=⟨fun id hid=>⟨hc.kp.al id hid,hold id hid⟩,hc.kp.sv,hc.kp.shp,hc.kp.ok,hc.kp.heap⟩
  refine⟨cutC C1 nx0 H,M2,rfl,⟨⟨h1.sr.base,h1.sr.okLt,?_,?_,?_,?_,fun g=>R.keep (C:=C1.pur) (C':=cutC C1 nx0 H) ⟨fun _ h=>h.elim,fun _ h=>h.elim,fun _ h=>h.elim,fun _ _ h=>h,fun _ _ _=>rfl⟩ _ _ (R.pure_of _ (hgn g) (h1.sr.gl g))⟩,?_,?_⟩,⟨fun t=>wkV_s (hwt t) (ht.tv t),ht.size,ht.defers⟩,⟨⟨hkeep,hc.kp.below,hc.kp.okn⟩,?_,?_⟩⟩
  · intro id c h
    obtain⟨b,hb,_⟩:=hsome id c h
    refine⟨h1.sr.al id b hb,?_⟩
    rcases hM2 id c h with ⟨_,h3,_⟩ | ⟨_,_,h3⟩
    · exact .inl h3
    · exact h3
  · intro id c h
    rcases hM2 id c h with ⟨_,_,h3⟩ | ⟨h3,h4,_⟩
    · unfold wkB at h3
      split at h3
      · rename_i hk
        unfold BR; rw[hk]; trivial
      · exact h3.elim
      · rename_i k hk hk2
        obtain⟨x,hx,q1,q2,q3,q4⟩:=h3
        exact BR.mk (h1.sr.mem id x (h1.sub _ _ hx)) q1 q2 (fun _ m hr=>R.le _ q3 (R.cutLow _ q4 hr)) fun k ps x y e=>absurd e (hk2 k ps x y)
    · by_cases hd:c.k=.dead
      · unfold BR; rw[hd]; trivial
      have hb:=h0.sr.mem id c h4
      unfold BR at hb
      refine BR.mk (h1.sr.mem id c h3) rfl rfl (fun hnl m hr=>?_) fun k ps x y e hl=>?_
      · cases hkd:c.k<;>simp only[hkd] at hb
        · obtain⟨g,cur,e,_,_,_,_,_,h6,_⟩:=hb; exact R.two hold _ h6 hr
        · obtain⟨n1,s,cells,_,_,_,h6⟩:=hb; exact R.two hold _ h6 hr
        · exact absurd hkd hd
        · exact absurd hkd (hnl _ _ _ _)
        · obtain⟨g,es,clk,_,_,_,h6⟩:=hb; exact R.two hold _ h6 hr
      · rw[e] at hb; exact LoopR.two hold hb hl
  · intro id id' c c' b q1 q2 q3 q4 q5 q6
    obtain⟨b1,p1,p2⟩:=hsome id c q1
    obtain⟨b2,p3,p4⟩:=hsome id' c' q3
    exact h1.sr.sep id id' b1 b2 b p1 (p2 q2) p3 (p4 q4) q5 q6
  · intro id c b q1 q2 q3 u
    obtain⟨b1,p1,p2⟩:=hsome id c q1
    exact h1.sr.own id b1 b p1 (p2 q2) q3 u
  · intro id c h
    show M2 id=some c
    simp only[M2,h]
  · intro id q1 q2 q3
    rcases q3.2 with h | h
    · omega
    · omega
  · intro id hid
    rcases hc.al id hid.1 with h | h
    · exact .inl h
    · rcases hid.2 with h' | h'
      · omega
      · omega
  · intro id hid hn
    obtain⟨q1,q2⟩:=hc.fr id hid hn
    have h3:gm zm2 id=none:=by
      cases hz:gm zm2 id with
      | none=>rfl
      | some c =>
        obtain⟨_,h4⟩:=hwz id c hz
        unfold wkB at h4
        split at h4
        · obtain⟨x,hx⟩:=h4; rw[q2] at hx; cases hx
        · exact h4.elim
        · obtain⟨x,hx,_⟩:=h4; rw[q2] at hx; cases hx
    refine⟨?_,h3⟩
    show M2 id=M id
    simp only[M2,h3]
    rw[if_pos ⟨hid,hn⟩,q1]
inductive LoopWk (P:Program) (B:Nat) (c:Code) (N nx0 nb:Nat) (e:Exit) (tm':Tm) (zm':Zm):Nat→Tm→Zm→Prop where
  | out {k:Nat}{tm:Tm}{zm:Zm}{nx1:Nat}(h:Runs P B c tm zm nx0 N e tm' zm' nx1) (he:e≠.normal) (hle:nx0≤nx1) (hb:nx1≤nb):LoopWk P B c N nx0 nb e tm' zm' (k + 1) tm zm
  | round {k:Nat}{tm tm1 tm2:Tm}{zm zm1 zm2:Zm}{nx1:Nat}(h:Runs P B c tm zm nx0 N .normal tm1 zm1 nx1) (hle:nx0≤nx1) (hb:nx1≤nb) (hwt:WkT nx0 tm1 tm2) (hwz:WkZ nx0 zm1 zm2) (h2:LoopWk P B c N nx0 nb e tm' zm' k tm2 zm2):LoopWk P B c N nx0 nb e tm' zm' (k + 1) tm zm
theorem YR.raise {H nx nb:Nat}{C:Ctx}{M:Mem}{zm:Zm}(h:YR B H C M zm nx) (hle:nx≤nb):YR B H C M zm nb:=⟨h.sr,h.sub,fun id h1 h2=>h.al id (by omega) h2⟩
omit [Gl] in
theorem YC.raise {H nx nx' nb:Nat}{C C':Ctx}{M M':Mem}{zm zm':Zm}(h:YC B H C M zm nx C' M' zm' nx') (hle:nx'≤nb):YC B H C M zm nx C' M' zm' nb :=
  ⟨h.kp,fun id hid=>(h.al id hid).imp (fun h=>h) fun h=>⟨h.1,by omega⟩,h.fr⟩
omit [Gl] in
theorem WkZ.kb {n:Nat}{zm zm1:Zm}(h:WkZ n zm zm1):KB zm1 n:=fun id hid=>by
  cases hz:gm zm1 id with
  | none=>rfl
  | some c=>have:=(h id c hz).1; omega
theorem LoopWk.runs (hgn:∀ g,noId (Gl.G g)=true) {c:Code}{nx0 nb k:Nat}{e:Exit}{tm tm':Tm}{zm zm':Zm}(h:LoopWk P B c N nx0 nb e tm' zm' k tm zm) (hkb:KB zm nx0):Runs P B (.loop c) tm zm nx0 N e tm' zm' nb:=by
  intro H C M a hH hz ht
  refine wp_loop_ghost (fun n a w=>∃ C' M' tm1 zm1,C'.w=w∧YR B H C' M' zm1 nx0∧YT C' tm1 a N∧YC B H C M zm nx0 C' M' zm1 nx0∧LoopWk P B c N nx0 nb e tm' zm' n tm1 zm1) k ⟨C,M,tm,zm,rfl,hz,ht,YC.refl C M zm nx0,h⟩ ?_
  rintro n a w ⟨C1,M1,tm1,zm1,rfl,h1,h2,h3,h5⟩
  cases h5 with
  | @out _ _ _ nx1 hr he hle hb =>
    refine wp_mono (hr H C1 M1 a (by omega) h1 h2) ?_
    rintro e' a' w' ⟨rfl,C2,M2,rfl,hf⟩
    have hq:YFin B H C M zm nx0 N e' tm' zm' nb e' a' C2.w:=⟨rfl,C2,M2,rfl,hf.yr.raise hb,hf.yt,(h3.trans hf.yc (Nat.le_refl _) hle).raise hb⟩
    cases e' with
    | normal=>exact absurd rfl he
    | _=>exact hq
  | @round k _ tm2 tm3 _ zm2 zm3 nx1 hr hle hb hwt hwz h6 =>
    refine wp_mono (hr H C1 M1 a (by omega) h1 h2) ?_
    rintro e' a' w' ⟨rfl,C2,M2,rfl,hf⟩
    obtain⟨C3,M3,q1,q2,q3,q4⟩:=cut_state hgn (by omega) hz hkb hf.yr hf.yt (h3.trans hf.yc (Nat.le_refl _) hle) hwt hwz
    exact⟨k,by omega,C3,M3,tm3,zm3,q1,q2,q3,q4,h6⟩
theorem WR.loop (hE:Env P ct) {c:Code}{nx0:Nat}(nb:Nat) {K:K3}(I:Nat→Tm→Zm→Prop)
    (step:∀ m tm zm,I m tm zm→KB zm nx0→WR P B N c tm zm nx0 (fun e tm' zm' nx'=>nx'≤nb∧(e=.normal→∃ m' tm1 zm1,m' < m∧WkT nx0 tm' tm1∧WkZ nx0 zm' zm1∧I m' tm1 zm1)∧(e≠.normal→K e tm' zm' nb))) :
    ∀(m:Nat) (tm:Tm) (zm:Zm),I m tm zm→KB zm nx0→WR P B N (.loop c) tm zm nx0 K:=by
  have key:∀(m:Nat) (tm:Tm) (zm:Zm),I m tm zm→KB zm nx0→∃ e tm' zm' k,K e tm' zm' nb∧KB zm' nb∧nx0≤nb∧LoopWk P B c N nx0 nb e tm' zm' k tm zm:=by
    intro m
    induction m using Nat.strongRecOn with
    | _ m IH =>
    intro tm zm hI hkb
    obtain⟨e,tm1,zm1,nx1,⟨hb,hn,hx⟩,k2,k3,k4⟩:=step m tm zm hI hkb
    by_cases he:e=.normal
    · subst he
      obtain⟨m',tm2,zm2,hlt,hwt,hwz,hI'⟩:=hn rfl
      obtain⟨e,tm',zm',k,q1,q2,q3,q4⟩:=IH m' hlt tm2 zm2 hI' hwz.kb
      exact⟨e,tm',zm',k + 1,q1,q2,q3,.round k4 k3 hb hwt hwz q4⟩
    · exact⟨e,tm1,zm1,1,hx he,fun id hid=>k2 id (by omega),by omega,.out k4 he k3 hb⟩
  intro m tm zm hI hkb
  obtain⟨e,tm',zm',k,q1,q2,q3,q4⟩:=key m tm zm hI hkb
  exact⟨e,tm',zm',nb,q1,q2,q3,q4.runs hE.gn hkb⟩
def mkT:List Nat→List V→Tm
  | t::lt,v::vs=>set v (enc t) (mkT lt vs)
  | _,_=>.e
def mkZ:List Nat→List Blk→Zm
  | i::li,b::bs=>set (some b) (enc i) (mkZ li bs)
  | _,_=>.e
def wkVs (n:Nat):List V→List V→Prop
  | v::vs,w::ws=>wkV n v w∧wkVs n vs ws
  | _,[]=>True
  | [],_::_=>False
def wkBs (n:Nat):List Nat→List (Option Blk)→List Blk→Prop
  | i::li,v::vs,w::ws=>(i < n∧wkB n v w)∧wkBs n li vs ws
  | _,_,[]=>True
  | _,_,_::_=>False
omit [Gl] in
theorem wkV_unk {n:Nat}{v:V}:wkV n v .unk:=trivial
omit [Gl] in
theorem tv_e (t:Nat):tv .e t=.unk:=get_e _ _
omit [Gl] in
theorem WkT_mk {n:Nat}{tm:Tm}:∀ {lt:List Nat}{vs:List V},wkVs n (lt.map (tv tm)) vs→WkT n tm (mkT lt vs)
  | [],vs,_=>fun t=>by cases vs<;>(show wkV n _ (tv .e t); rw[tv_e]; exact wkV_unk)
  | t::lt,[],_=>fun t=>by show wkV n _ (tv .e t); rw[tv_e]; exact wkV_unk
  | t::lt,v::vs,h=>fun q=>by
    show wkV n _ (tv (set v (enc t) (mkT lt vs)) q)
    rw[tv_set]
    split
    · rename_i e; subst e; exact h.1
    · exact WkT_mk (lt:=lt) (vs:=vs) h.2 q
omit [Gl] in
theorem WkZ_mk {n:Nat}{zm:Zm}:∀ {li:List Nat}{bs:List Blk},wkBs n li (li.map (gm zm)) bs→WkZ n zm (mkZ li bs)
  | [],bs,_=>fun t c h=>by cases bs<;>(have h:gm .e t=some c:=h; rw[gm_e] at h; cases h)
  | i::li,[],_=>fun t c h=>by have h:gm .e t=some c:=h; rw[gm_e] at h; cases h
  | i::li,b::bs,h=>fun q c hq=>by
    have h1:gm (set (some b) (enc i) (mkZ li bs)) q=some c:=hq
    clear hq
    rw[gm_set] at h1
    split at h1
    · rename_i e; subst e; cases h1; exact h.1
    · exact WkZ_mk (li:=li) (bs:=bs) h.2 q c h1
omit [Gl] in
theorem KB_mkZ {n:Nat}:∀ {li:List Nat}{bs:List Blk},(li.all fun i=>decide (i < n))=true→KB (mkZ li bs) n
  | [],bs,_=>fun id _=>by cases bs<;>exact gm_e id
  | i::li,[],_=>fun id _=>gm_e id
  | i::li,b::bs,h=>fun id hid=>by
    simp only[List.all_cons,Bool.and_eq_true,decide_eq_true_eq] at h
    show gm (set (some b) (enc i) (mkZ li bs)) id=none
    rw[gm_set,if_neg (by omega)]
    exact KB_mkZ (li:=li) (bs:=bs) h.2 id hid
def outK (lt li:List Nat) (Q:Exit→List V→List (Option Blk)→Nat→Prop):K3:=fun e tm zm nx=>Q e (lt.map (tv tm)) (li.map (gm zm)) nx
def retQ (c:CSpec) (l:List V) (v:V) (zm:Zm) (_:Nat):Prop:=(frz (gm zm) 12 v).le (c.res l)∧(c.fresh=true→(frz (gm zm) 12 v).own)
theorem csound_of (hE:Env P ct) {f:FuncId}{fn:Func}{c:Code}{s:CSpec}(hf:P.funcs[f]?=some fn) (hb:fn.body=some c)
    (h:∀(B N:Nat) args,s.pre args=true→fn.ntmps≤N→WR P B N c (bindT (args.map borrow) 0 .e) .e 0 (retK P fn.results.toList (retQ s args))):CSoundG P f s:=by
  obtain⟨hname,hcode⟩:=hE.fns.get hf
  refine⟨⟨fn,hf,hname,by rw[hb]; rfl⟩,fun C args vals hok hg hargs hpre=>?_⟩
  let C0:Ctx:={ C.pur with ok:=fun u b=>u=true∧∃ u',C.ok u' b }
  have hbor:∀(l:List V) (vs:List Value),R C.pur (mkL l) (.list vs)→R C0 (mkL (l.map borrow)) (.list vs):=by
    intro l
    induction l with
    | nil=>intro vs h; exact h
    | cons v l ih =>
      intro vs h
      obtain⟨x,xs,rfl,h1,h2⟩:=h
      exact⟨x,xs,rfl,R.borrow (ok':=C0.ok) v (fun u b h=>⟨rfl,u,h⟩) h1,ih xs h2⟩
  have hargs':=hbor _ _ hargs
  have hgl:∀ g,R C0 (Gl.G g) (.val (.pointer (some ⟨g,0,none⟩))):=fun g=>by
    have:=R.borrow (ok':=C0.ok) (Gl.G g) (C:=C.pur) (fun u b h=>⟨rfl,u,h⟩) (hg g)
    rw[hE.gb] at this; exact this
  obtain⟨e,tm',zm',nx',k1,_,_,hrun⟩:=h C.w.heap.size (vals.length + (fn.ntmps - vals.length)) args hpre (by omega)
  have hyr:YR C.w.heap.size nx' C0 (fun _=>none) .e 0 :=
    ⟨⟨Nat.le_refl _,(fun u b h=>by obtain⟨_,u',h⟩:=h; exact hok u' b h),(fun _ _ h=>(by cases h)),(fun _ _ h=>(by cases h)),(fun _ _ _ _ _ h=>(by cases h)),(fun _ _ _ h=>(by cases h)),hgl⟩,(fun id b hb=>by rw[gm_e] at hb; cases hb),fun _ _ _ h=>h⟩
  refine calls_of_wp hf hb (wp_mono (hrun nx' C0 (fun _=>none) _ (Nat.le_refl _) hyr (YT.enter hargs' fn.ntmps)) ?_)
  rintro e' a w' ⟨rfl,C1,M1,rfl,hfin⟩
  have fin:someK (rvA P tm' zm' fn.results.toList) (fun v=>retQ s args v zm' nx')→a.defers=[]∧∃ v,(results fn a.tmps).run P C1.w=.ok v C1.w∧(Below C.w.heap.size C.w C1.w∧∃ r,Ending.returned v=.returned r ∧
      R { C.pur with w:=C1.w,ok:=fun u b=>(s.fresh=false∧∃ u',C.ok u' b)∨(C.w.heap.size≤b∧b < C1.w.heap.size) } (s.res args) (.val r)):=by
    intro hr
    obtain⟨v,hv,hle,hfresh⟩:=someK_inv hr
    obtain⟨x,hx,hrx⟩:=rvA_s hfin.yr hfin.yt hv
    refine⟨hfin.yt.defers,x,hx,hfin.yc.kp.below,x,rfl,?_⟩
    have h1:=R.frz hfin.yr.sr hfin.yr.sub 12 v _ hrx
    refine R.le _ hle ?_
    have hof:∀ u b,C1.ok u b→(u=true∧∃ u',C.ok u' b)∨(C.w.heap.size≤b∧b < C1.w.heap.size):=by
      intro u b hb
      have hlt:=hfin.yr.sr.okLt u b hb
      rcases hfin.yc.kp.okn u b hb with (h2 | ⟨_,h2⟩) | h2
      · exact .inl h2
      · exact absurd h2.1 (by simp)
      · exact .inr ⟨h2,hlt⟩
    cases hfr:s.fresh with
    | false =>
      refine R.keep (C:=C1.opened C.w.heap.size) (C':={ C.pur with w:=C1.w,ok:=fun u b=>(false=false∧∃ u',C.ok u' b)∨(C.w.heap.size≤b∧b < C1.w.heap.size) }) ⟨fun _ h=>h.elim,fun _ h=>h.elim,fun _ h=>h.elim,?_,fun _ _ _=>rfl⟩ _ _ h1
      intro u b hb
      rcases hb with hb | hb
      · rcases hof u b hb with h2 | h2
        · exact .inl ⟨rfl,h2.2⟩
        · exact .inr h2
      · exact .inr hb
    | true =>
      have h2:=R.own _ (hfresh hfr) h1
      refine R.keep (C:={ C1.opened C.w.heap.size with ok:=fun _ b=>(C1.opened C.w.heap.size).ok false b }) (C':={ C.pur with w:=C1.w,ok:=fun u b=>(true=false∧∃ u',C.ok u' b)∨(C.w.heap.size≤b∧b < C1.w.heap.size) }) ⟨fun _ h=>h.elim,fun _ h=>h.elim,fun _ h=>h.elim,?_,fun _ _ _=>rfl⟩ _ _ h2
      intro u b hb
      rcases hb with hb | hb
      · rcases hof false b hb with h3 | h3
        · exact absurd h3.1 (by simp)
        · exact .inr h3
      · exact .inr hb
  cases e' with
  | normal=>exact fin k1
  | ret=>exact fin k1
  | _=>exact k1.elim
end
end
end Go.Y
namespace Go.Y
open Go.Ab Go.RowKit
noncomputable section
variable [Gl]
section
variable {P:Program}{ct:CTab}{B N:Nat}
def cFst (c:Code):Code:=match c with
  | .seq a _=>a
  | c=>c
def cSnd (c:Code):Code:=match c with
  | .seq _ b=>b
  | c=>c
def cBdy (c:Code):Code:=match c with
  | .block _ b=>b
  | .loop b=>b
  | .scope b=>b
  | c=>c
def cIsSeq (c:Code):Bool:=match c with
  | .seq _ _=>true
  | _=>false
def cIsLoop (c:Code):Bool:=match c with
  | .loop _=>true
  | _=>false
def cIsBlk (i:Nat) (c:Code):Bool:=match c with
  | .block j _=>Nat.beq j i
  | _=>false
omit [Gl] in
theorem cIsSeq_eq {c:Code}(h:cIsSeq c=true):c=.seq (cFst c) (cSnd c):=by
  cases c<;>first | rfl | cases h
omit [Gl] in
theorem cIsLoop_eq {c:Code}(h:cIsLoop c=true):c=.loop (cBdy c):=by
  cases c<;>first | rfl | cases h
omit [Gl] in
theorem cIsBlk_eq {i:Nat}{c:Code}(h:cIsBlk i c=true):c=.block i (cBdy c):=by
  cases c<;>first
    | cases h
    | (have:=Nat.eq_of_beq_eq_true h; subst this; rfl)
section
variable {tm tm1:Tm}{zm zm1:Zm}{nx:Nat}{K:K3}{c:Code}
theorem WR.seq' (hc:cIsSeq c=true) (h:WR P B N (cFst c) tm zm nx (thenK (fun tm zm nx=>WR P B N (cSnd c) tm zm nx K) K)):WR P B N c tm zm nx K:=by
  rw[cIsSeq_eq hc]; exact WR.seq h
theorem WR.block' {i:Nat}(hc:cIsBlk i c=true) (h:WR P B N (cBdy c) tm zm nx (blockK i K)):WR P B N c tm zm nx K:=by
  rw[cIsBlk_eq hc]; exact WR.block h
theorem WR.weak (hE:Env P ct) (hwt:WkT nx tm tm1) (hwz:WkZ nx zm zm1) (hkb:KB zm nx) (h:WR P B N c tm1 zm1 nx K):WR P B N c tm zm nx K:=by
  obtain⟨e,tm',zm',nx',k1,k2,k3,k4⟩:=h
  refine⟨e,tm',zm',nx',k1,k2,k3,fun H C M a hH hz ht=>?_⟩
  obtain⟨C3,M3,q1,q2,q3,q4⟩:=cut_state hE.gn (by omega) hz hkb hz ht (YC.refl C M zm nx) hwt hwz
  have h5:=k4 H C3 M3 a hH q2 q3
  rw[q1] at h5
  refine wp_mono h5 ?_
  rintro e' a' w' ⟨rfl,C',M',rfl,hf⟩
  exact⟨rfl,C',M',rfl,hf.yr,hf.yt,q4.trans hf.yc (Nat.le_refl _) k3⟩
theorem WR.count (hE:Env P ct) (nb n:Nat) (S:Nat→Tm) (Z:Nat→Zm) (hkb:KB zm nx) (hc:cIsLoop c=true) (hwt:WkT nx tm (S 0)) (hwz:WkZ nx zm (Z 0))
    (step:∀ t,t < n→WR P B N (cBdy c) (S t) (Z t) nx (fun e tm' zm' nx'=>nx'≤nb∧e=.normal∧WkT nx tm' (S (t + 1))∧WkZ nx zm' (Z (t + 1))))
    (out:WR P B N (cBdy c) (S n) (Z n) nx (fun e tm' zm' nx'=>nx'≤nb∧e≠.normal∧K e tm' zm' nb)):WR P B N c tm zm nx K:=by
  rw[cIsLoop_eq hc]
  refine WR.weak hE hwt hwz hkb ?_
  refine WR.loop hE nb (fun m tm zm=>∃ t,t + m=n∧tm=S t∧zm=Z t) ?_ n (S 0) (Z 0) ⟨0,by omega,rfl,rfl⟩ hwz.kb
  rintro m tm2 zm2 ⟨t,ht,rfl,rfl⟩ hk
  cases m with
  | zero =>
    obtain rfl:t=n:=by omega
    refine out.mono fun e tm' zm' nx' _ h=>⟨h.1,fun he=>absurd he h.2.1,fun _=>h.2.2⟩
  | succ m =>
    refine (step t (by omega)).mono fun e tm' zm' nx' _ h=>⟨h.1,fun _=>⟨m,S (t + 1),Z (t + 1),by omega,h.2.2.1,h.2.2.2,t + 1,by omega,rfl,rfl⟩,fun he=>absurd h.2.1 he⟩
theorem WR.go (hE:Env P ct) {u:Bool}{n nt:Nat}(hN:nt≤N) (hO:cOk nt c=true) (hkb:KB zm nx) {Q:K3}(h:Go.Y.run P Gl.G ct u n c tm zm nx Q) (hQ:∀ e tm zm nx,KB zm nx→Q e tm zm nx→K e tm zm nx):WR P B N c tm zm nx K :=
  (WR.run hE h (cOk_mono hN hO) hkb).mono hQ
end
def valK (Q:V→Prop) (v:V) (zm:Zm) (_:Nat):Prop:=Q (frz (gm zm) 12 v)
def retV (c:CSpec) (l:List V) (v:V):Prop:=v.le (c.res l)∧(c.fresh=true→v.own)
theorem csound_run (hE:Env P ct) {f:FuncId}{fn:Func}{c:Code}{s:CSpec}(u:Bool) (n:Nat) (hf:P.funcs[f]?=some fn) (hb:fn.body=some c)
    (h:∀ args,s.pre args=true→Go.Y.run P Gl.G ct u n c (bindT (args.map borrow) 0 .e) .e 0 (retK P fn.results.toList (valK (retV s args)))):CSoundG P f s :=
  csound_of hE hf hb fun B N args hp hN=>WR.run hE (h args hp) (cOk_mono hN ((hE.fns.get hf).2 c hb)) (fun id _=>gm_e id)
end
end
end Go.Y
namespace Go.Y
open Go.Ab Go.RowKit
noncomputable section
variable [Gl]
abbrev Q4:=Exit→List V→List (Option Blk)→Nat→Prop
section
variable {P:Program}{ct:CTab}{B N nt nx:Nat}{c c2:Code}{tm:Tm}{zm:Zm}{K:K3}{u:Bool}{fu:Nat}
theorem WR.piece (hE:Env P ct) (hN:nt≤N) (hO:cOk nt c=true) (hkb:KB zm nx) (lt li:List Nat) {e:Exit}{vs0:List V}{bs0:List (Option Blk)}{nx':Nat}(vs:List V) (bs:List Blk)
    (h:∀ Q:Q4,Go.Y.run P Gl.G ct u fu c tm zm nx (outK lt li Q)=Q e vs0 bs0 nx')
    (hK:∀ tm' zm',lt.map (tv tm')=vs0→li.map (gm zm')=bs0→KB zm' nx'→K e tm' zm' nx'):WR P B N c tm zm nx K:=by
  have h1:Go.Y.run P Gl.G ct u fu c tm zm nx (outK lt li fun e2 v b n=>e2=e∧v=vs0∧b=bs0∧n=nx'):=by rw[h]; exact⟨rfl,rfl,rfl,rfl⟩
  refine WR.go hE hN hO hkb h1 ?_
  rintro e2 tm2 zm2 nx2 hk ⟨rfl,h2,h3,rfl⟩
  exact hK tm2 zm2 h2 h3 hk
theorem WR.then (hE:Env P ct) (hN:nt≤N) (hO:cOk nt c=true) (hkb:KB zm nx) (lt li:List Nat) {vs0:List V}{bs0:List (Option Blk)}{nx':Nat}(vs:List V) (bs:List Blk)
    (h:∀ Q:Q4,Go.Y.run P Gl.G ct u fu c tm zm nx (outK lt li Q)=Q .normal vs0 bs0 nx') (hv:wkVs nx' vs0 vs) (hb:wkBs nx' li bs0 bs)
    (hK:KB (mkZ li bs) nx'→WR P B N c2 (mkT lt vs) (mkZ li bs) nx' K):WR P B N c tm zm nx (thenK (fun tm zm nx=>WR P B N c2 tm zm nx K) K):=by
  refine WR.piece hE hN hO hkb lt li vs bs h fun tm' zm' h1 h2 hk=>?_
  have hz:WkZ nx' zm' (mkZ li bs):=WkZ_mk (by rw[h2]; exact hb)
  exact WR.weak hE (WkT_mk (by rw[h1]; exact hv)) hz hk (hK hz.kb)
theorem exit_then (hE:Env P ct) {i:Nat}(lt li:List Nat) {vs0:List V}{bs0:List (Option Blk)}(vs:List V) (bs:List Blk) (tm':Tm) (zm':Zm)
    (h1:lt.map (tv tm')=vs0) (h2:li.map (gm zm')=bs0) (hk:KB zm' nx) (hv:wkVs nx vs0 vs) (hb:wkBs nx li bs0 bs) (hK:KB (mkZ li bs) nx→WR P B N c2 (mkT lt vs) (mkZ li bs) nx K) :
    blockK i (thenK (fun tm zm nx=>WR P B N c2 tm zm nx K) K) (.exit i) tm' zm' nx:=by
  have hz:WkZ nx zm' (mkZ li bs):=WkZ_mk (by rw[h2]; exact hb)
  show @Bool.rec (fun _=>Tm→Zm→Nat→Prop) _ _ (Nat.beq i i) tm' zm' nx
  rw[Nat.beq_refl]
  exact WR.weak hE (WkT_mk (by rw[h1]; exact hv)) hz hk (hK hz.kb)
theorem WR.loopN (hE:Env P ct) (hN:nt≤N) (hO:cOk nt (cBdy c)=true) (hkb:KB zm nx) (hc:cIsLoop c=true) (nb n:Nat) (lt li:List Nat) (vs:Nat→List V) (bs:Nat→List Blk)
    (h0:wkVs nx (lt.map (tv tm)) (vs 0)) (h1:wkBs nx li (li.map (gm zm)) (bs 0))
    (vs':Nat→List V) (bs':Nat→List (Option Blk)) (nx':Nat→Nat)
    (step:∀ t,t < n→(∀ Q:Q4,Go.Y.run P Gl.G ct u fu (cBdy c) (mkT lt (vs t)) (mkZ li (bs t)) nx (outK lt li Q)=Q .normal (vs' t) (bs' t) (nx' t))∧nx' t≤nb∧wkVs nx (vs' t) (vs (t + 1))∧wkBs nx li (bs' t) (bs (t + 1)))
    (lt2 li2:List Nat) {e:Exit}{vs2:List V}{bs2:List (Option Blk)}{nx2:Nat}(he:e≠.normal)
    (out:∀ Q:Q4,Go.Y.run P Gl.G ct u fu (cBdy c) (mkT lt (vs n)) (mkZ li (bs n)) nx (outK lt2 li2 Q)=Q e vs2 bs2 nx2) (hnx2:nx2≤nb)
    (hK:∀ tm' zm',lt2.map (tv tm')=vs2→li2.map (gm zm')=bs2→KB zm' nb→K e tm' zm' nb):WR P B N c tm zm nx K:=by
  have hz0:WkZ nx zm (mkZ li (bs 0)):=WkZ_mk h1
  have kbs:∀ t,t≤n→KB (mkZ li (bs t)) nx:=by
    intro t ht
    cases t with
    | zero=>exact hz0.kb
    | succ t =>
      obtain⟨_,_,_,q⟩:=step t (by omega)
      have:∀(li:List Nat) (bs0:List (Option Blk)) (bs:List Blk),wkBs nx li bs0 bs→KB (mkZ li bs) nx:=by
        intro li
        induction li with
        | nil=>intro bs0 bs _ id hid; cases bs<;>exact gm_e id
        | cons i li ih =>
          intro bs0 bs h
          cases bs with
          | nil=>intro id hid; exact gm_e id
          | cons b bs =>
            cases bs0 with
            | nil=>exact h.elim
            | cons x bs0 =>
              obtain⟨⟨q1,q2⟩,q3⟩:=h
              intro id hid
              show gm (set (some b) (enc i) (mkZ li bs)) id=none
              rw[gm_set,if_neg (by omega)]
              exact ih bs0 bs q3 id hid
      exact this _ _ _ q
  refine WR.count hE nb n (fun t=>mkT lt (vs t)) (fun t=>mkZ li (bs t)) hkb hc (WkT_mk h0) hz0 ?_ ?_
  · intro t ht
    obtain⟨q1,q2,q3,q4⟩:=step t ht
    refine WR.piece hE hN hO (kbs t (by omega)) lt li (vs (t + 1)) (bs (t + 1)) q1 fun tm' zm' h1 h2 hk=>⟨q2,rfl,WkT_mk (by rw[h1]; exact q3),WkZ_mk (by rw[h2]; exact q4)⟩
  · refine WR.piece hE hN hO (kbs n (Nat.le_refl _)) lt2 li2 vs2 [] out fun tm' zm' h1 h2 hk=>⟨hnx2,he,hK tm' zm' h1 h2 fun id hid=>hk id (by omega)⟩
end
end
end Go.Y
