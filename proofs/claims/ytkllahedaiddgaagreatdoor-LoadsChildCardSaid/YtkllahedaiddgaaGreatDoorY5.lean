/- Loops with what stays true of them; contracts from runs. No condition. -/
import Derived.Test.YtkllahedaiddgaaGreatDoorB16
set_option linter.unusedSimpArgs false
set_option linter.unusedVariables false
namespace Go.Y
open Go.Ab Go.RowKit
noncomputable section
variable [Gl]
omit [Gl] in
theorem qz {id:Nat}{b:Blk}:∀ {l:List (Nat×Blk)},l.lookup id=some b→∃ x∈l,x.1=id
 | [],h=>by cases h
 | x::l,h=>by
  simp only[List.lookup] at h
  cases hx:id==x.1 with
  | true=>exact⟨x,by simp,(by simpa using hx:id=x.1).symm⟩
  | false =>
   rw[hx] at h
   obtain⟨y,hy,e⟩:=qz h
   exact⟨y,by simp [hy],e⟩
theorem OpSem.agree {P:Program}{B:Nat}{o:Oper}{ρ:Operand→V}{m m':Mem}{n:Nat}{e:Eff}(h:OpSem P B o ρ m n e) (hr:∀ id∈e.rd,m' id=m id) (hu:∀ x∈e.up,m' x.1=m x.1):OpSem P B o ρ m' n e :=
 fun C M ρc h1 h2 h3 h4 h5=>h C M ρc h1 (fun id hid=>(h2 id hid).trans (hr id hid)) (fun x hx=>(h3 x hx).trans (hu x hx)) h4 h5
section
variable {P:Program}{B:Nat}{o:Oper}{tm:Tm}{zm:Zm}{nx:Nat}
end
structure YT (C:Ctx) (tm:Tm) (a:Act) (N:Nat):Prop where
 tv:∀ t,R C (tv tm t) (.val (a.tmps.getD t undef))
 size:a.tmps.size=N
 defers:a.defers=[]
omit [Gl] in
theorem zqf {tm:Tm}{v:V}{t d:Nat}:tv (set v (enc d) tm) t=if t=d then v else tv tm t:=Xh _ _ _ _ _
omit [Gl] in
theorem zgm (ops:Array Oper) (j:Nat):zdg ops.toList j=(ops[j]?).bind (·.dst):=by
 unfold zdg; rw[Array.getElem?_toList]
section
variable {P:Program}{B H:Nat}{C:Ctx}{M:Mem}{tm:Tm}{zm:Zm}{nx:Nat}{a:Act}{N:Nat}
def YO:List V→Nat→Tm→Tm
 | [],_,t=>t
 | x::l,i,t=>YO l (i + 1) (set x (enc i) t)
omit [Gl] in
theorem Z9:∀(l:List V) (i:Nat) (t:Tm) (q:Nat),tv (YO l i t) q=if i≤q∧q < i + l.length then l.getD (q - i) .unk else tv t q
 | [],i,t,q=>by rw[if_neg (by simp only[List.length_nil]; omega)]; rfl
 | x::l,i,t,q=>by
  rw[show YO (x::l) i t=YO l (i + 1) (set x (enc i) t) from rfl,Z9 l,zqf]
  by_cases h1:i + 1≤q∧q < i + 1 + l.length
  ·rw[if_pos h1,if_pos (by simp only[List.length_cons]; omega)]
   rw[show q - i=(q - (i + 1)) + 1 by omega]; rfl
  ·rw[if_neg h1]
   by_cases h2:q=i
   ·subst h2; rw[if_pos rfl,if_pos (by simp)]; simp
   ·rw[if_neg h2,if_neg (by simp only[List.length_cons]; omega)]
omit [Gl] in
theorem wm:∀ {l:List V}{vs:List Value},R C (mkL l) (.list vs)→l.length=vs.length∧∀ i,i < l.length→R C (l.getD i .unk) (.val (vs.getD i undef))
 | [],vs,h=>by obtain rfl:vs=[]:=h; exact⟨rfl,fun i hi=>by simp at hi⟩
 | x::l,vs,h=>by
  obtain⟨v,vs',rfl,h1,h2⟩:=h
  obtain⟨h3,h4⟩:=wm (l:=l) h2
  refine⟨by simp [h3],fun i hi=>?_⟩
  cases i with
  | zero=>exact h1
  | succ i=>exact h4 i (by simpa using hi)
omit [Gl] in
theorem X5:∀ {l r:List V}{vs ws:List Value},R C (mkL l) (.list vs)→R C (mkL r) (.list ws)→R C (mkL (l++r)) (.list (vs++ws))
 | [],r,vs,ws,h1,h2=>by obtain rfl:vs=[]:=h1; exact h2
 | x::l,r,vs,ws,h1,h2=>by
  obtain⟨v,vs',rfl,h3,h4⟩:=h1
  exact⟨v,vs'++ws,rfl,h3,X5 h4 h2⟩
omit [Gl] in
theorem YT.enter {l:List V}{vs:List Value}(h:R C (mkL l) (.list vs)) (n:Nat) :
  YT C (YO l 0 .e) { tmps:=vs.toArray++Array.replicate (n - vs.toArray.size) undef,defers:=[] } (vs.length + (n - vs.length)):=by
 obtain⟨h1,h2⟩:=wm h
 refine⟨fun t=>?_,by simp,rfl⟩
 rw[Z9]
 by_cases ht:t < l.length
 ·rw[if_pos (by omega)]
  have h3:(vs.toArray++Array.replicate (n - vs.toArray.size) undef).getD t undef=vs.getD t undef:=by
   rw[Array.getD_eq_getD_getElem?,Array.getElem?_append_left (by simpa [←h1] using ht)]
   simp
  rw[h3]
  exact h2 t ht
 ·rw[if_neg (by omega)]
  show R C (get .unk (enc t) .e) _
  rw[XL]; trivial
end
end
end Go.Y
namespace Go.Y
open Go.Ab Go.RowKit
noncomputable section
variable [Gl]
def xX (P:Program) (f:FuncId) (c:CSpec):Prop :=
 (∃ fn,P.funcs[f]?=some fn∧(fn.name == "runtime.NumGoroutine")=false∧fn.body.isNone=false) ∧
 ∀(C:Ctx) (args:List V) (vals:List Value),(∀ u b,C.ok u b→b < C.w.heap.size)→(∀ g,R C.pur (Gl.G g) (.val (.pointer (some ⟨g,0,none⟩))))→R C.pur (mkL args) (.list vals)→c.pre args →
  Calls P f vals.toArray C.w fun e w'=>Below C.w.heap.size C.w w'∧∃ r,e=.returned r ∧
   R { C.pur with w:=w',ok:=fun u b=>(c.fresh=false∧∃ u',C.ok u' b)∨(C.w.heap.size≤b∧b < w'.heap.size) } (c.res args) (.val r)
omit [Gl] in
theorem vx {N M:Nat}(h:N≤M):∀ {c:Code},cOk N c=true→cOk M c=true:=by
 have hd:∀ d,dOk N d=true→dOk M d=true:=by
  intro d hd
  cases d with
  | none=>rfl
  | some d=>simp only[dOk,decide_eq_true_eq] at hd ⊢; exact Nat.lt_of_lt_of_le hd h
 intro c
 induction c with
 | region id ops draw=>intro hc; simp only[cOk,List.all_eq_true] at hc ⊢; exact fun o ho=>hd _ (hc o ho)
 | seq a b ih1 ih2=>intro hc; simp only[cOk,Bool.and_eq_true] at hc ⊢; exact⟨ih1 hc.1,ih2 hc.2⟩
 | cond t a b ih1 ih2=>intro hc; simp only[cOk,Bool.and_eq_true] at hc ⊢; exact⟨ih1 hc.1,ih2 hc.2⟩
 | block id c ih=>intro hc; exact ih hc
 | loop c ih=>intro hc; exact ih hc
 | scope c ih=>intro hc; exact ih hc
 | rangeFunc f ps a b ih1 ih2 =>
  intro hc
  simp only[cOk,Bool.and_eq_true,List.all_eq_true,decide_eq_true_eq] at hc ⊢
  exact⟨fun p hp=>Nat.lt_of_lt_of_le (hc.1 p hp) h,ih1 hc.2.1,ih2 hc.2.2⟩
 | _=>intro _; rfl
def zuZ (f:Func):Bool:=!(f.name == "runtime.NumGoroutine")&&(match f.body with | some c=>cOk f.ntmps c | none=>true)
def FnsOk (P:Program):Prop:=P.funcs.toList.all zuZ=true
omit [Gl] in
theorem FnsOk.get {P:Program}(h:FnsOk P) {f:Nat}{fn:Func}(hf:P.funcs[f]?=some fn):(fn.name == "runtime.NumGoroutine")=false∧∀ c,fn.body=some c→cOk fn.ntmps c=true:=by
 have h2:=List.all_eq_true.1 h fn (by
  obtain⟨hlt,he⟩:=Array.getElem?_eq_some_iff.1 hf
  rw[←he]
  exact Array.getElem_mem_toList hlt)
 simp only[zuZ,Bool.and_eq_true,Bool.not_eq_true'] at h2
 refine⟨h2.1,fun c hc=>?_⟩
 have h3:=h2.2
 rw[hc] at h3
 exact h3
section
variable {P:Program}{ct:zfd}{B:Nat}{r:RUN}
omit [Gl] in
theorem YM {C:Ctx}{v:V}{vs:List Value}(h:R C v (.list vs)):R C (mkL (unL v)) (.list vs):=R.unL v h
omit [Gl] in
theorem Qo {o:Oper}{f:Operand}{args:Array Operand}{ts:Array TypeId}{ρ:Operand→V}{ρc:Operand→Value}{C:Ctx}(ho:o.op=.call ⟨.value f,args,ts⟩) (hx:∀ x∈o.op.operands.toList,R C (ρ x) (.val (ρc x))):R C (ρ f) (.val (ρc f))∧R C (mkL (args.toList.map ρ)) (.list (args.toList.map ρc)) :=
 ⟨hx f (by simp [ho,Op.operands,Call.operands]),R.mkL (C:=C) (ρ:=ρ) (ρc:=ρc) args.toList fun x hxx=>hx x (by simp [ho,Op.operands,Call.operands]; exact .inr (by simpa using hxx))⟩
theorem zgk {C:Ctx}{M:Mem}{c:CSpec}{fid:FuncId}{s:Sem Next}{vals:List Value}{l:V}(hs:SR B C M) (hGn:∀ g,vJ (Gl.G g)=true) (hc:xX P fid c)
  (hrun:s.run P C.w=.ok (.enter fid vals.toArray) C.w) (hl:(c.fresh=true∧R (C.opened B) l (.list vals))∨R C.pur l (.list vals)) (hp:c.pre (unL l)) :
  Does P s C.w fun val w'=>∃ C',C'.w=w'∧R C' (Qu c l) (.val val)∧Kp B C C'∧SR B C' M∧(∀ id,C'.al id→C.al id):=by
 let ok':World→Bool→Nat→Prop:=fun w' u b=>(C.ok u b∨(u=true∧C.ok false b))∨(C.w.heap.size≤b∧b < w'.heap.size)
 unfold Does
 rw[hrun]
 have fin:∀(e':Ending) (w':World) (r:Value) (D:Ctx),Below C.w.heap.size C.w w'→e'=.returned r→(c.fresh=true∨∀ u b,D.ok u b→C.ok u b) →
   R { D.pur with w:=w',ok:=fun u b=>(c.fresh=false∧∃ u',D.ok u' b)∨(C.w.heap.size≤b∧b < w'.heap.size) } (c.res (unL l)) (.val r) →
   ∃ v,e'=.returned v∧∃ C',C'.w=w'∧R C' (Qu c l) (.val v)∧Kp B C C'∧SR B C' M∧(∀ id,C'.al id→C.al id):=by
  intro e' w' r D hb he hD hr
  obtain⟨hs2,hk2⟩:=hs.grown hb (ok' w') (fun u b h=>.inl (.inl h)) (fun u b h=>h)
  refine⟨r,he,{ C with w:=w',ok:=ok' w' },rfl,?_,hk2,hs2,fun id h=>h⟩
  unfold Qu
  cases hf:c.fresh with
  | true =>
   refine R.keep (C:={ D.pur with w:=w',ok:=_ }) (C':={ C with w:=w',ok:=ok' w' }) ⟨fun _ h=>h.elim,fun _ h=>h.elim,fun _ h=>h.elim,?_,fun _ _ _=>rfl⟩ _ _ hr
   intro u b hb2
   rcases hb2 with ⟨h8,_⟩ | h8
   ·rw[hf] at h8; cases h8
   ·exact .inr h8
  | false =>
   have hD':∀ u b,D.ok u b→C.ok u b:=by
    rcases hD with h | h
    ·rw[hf] at h; cases h
    ·exact h
   have h8:=R.borrow (ok':=ok' w') _ (C:={ D.pur with w:=w',ok:=_ }) ?_ hr
   ·exact R.keep (C:={ D.pur with w:=w',ok:=ok' w' }) (C':={ C with w:=w',ok:=ok' w' }) ⟨fun _ h=>h.elim,fun _ h=>h.elim,fun _ h=>h.elim,fun _ _ h=>h,fun _ _ _=>rfl⟩ _ _ h8
   ·intro u b hb2
    rcases hb2 with ⟨_,u',h9⟩ | h9
    ·cases u'
     ·exact .inl (.inr ⟨rfl,hD' _ _ h9⟩)
     ·exact .inl (.inl (hD' _ _ h9))
    ·exact .inr h9
 rcases hl with ⟨hf,hl⟩ | hl
 ·refine (hc.2 (C.opened B) (unL l) _ ?_ (fun g=>R.keep (Keep.opened C B) _ _ (R.pure_of _ (hGn g) (hs.gl g))) (YM hl) hp).mono fun e' w' ⟨hb,r,he,hr⟩=>fin e' w' r (C.opened B) hb he (.inl hf) hr
  intro u b hb
  rcases hb with hb | hb
  ·exact hs.okLt u b hb
  ·exact hb.2
 ·exact (hc.2 C.pur (unL l) _ hs.okLt (fun g=>R.pure_of _ (hGn g) (R.pure_of _ (hGn g) (hs.gl g))) (YM hl) hp).mono fun e' w' ⟨hb,r,he,hr⟩=>fin e' w' r C.pur hb he (.inr fun _ _ h=>h) hr
end
end
end Go.Y
namespace Go.Y
open Go.Ab Go.RowKit
noncomputable section
variable [Gl]
section
variable {P:Program}{ct:zfd}{B:Nat}{r:RUN}
omit [Gl] in
theorem X8 {C:Ctx}{caps:V}{cs:List Value}(h:R C caps (.list cs)):R C (mkL (unL caps)) (.list cs):=R.unL caps h
def wq:Blk:=⟨.dead,.nl,.unk⟩
end
end
end Go.Y
namespace Go.Y
open Go.Ab Go.RowKit
noncomputable section
variable [Gl]
def Vt (C:Ctx) (n H:Nat):Ctx:={ C with al:=fun id=>C.al id∧(id < n∨H≤id) }
omit [Gl] in
theorem R.cutLow {C:Ctx}{n H:Nat}(v:V) {m:Ab.M}(hb:v.bel n) (h:R C v m):R (Vt C n H) v m:=by
 have h1:=R.cut v hb h
 refine R.keep (C:=C.cut n) ?_ _ _ h1
 exact⟨fun id hid=>⟨hid.1,.inl hid.2⟩,fun _ _=>rfl,fun _ _=>rfl,fun _ _ h=>h,fun _ _ _=>rfl⟩
omit [Gl] in
theorem R.two {C0 C:Ctx}{n H:Nat}(h0:∀ id,C0.al id→id < n∨H≤id) (v:V):∀ {m0 m:Ab.M},R C0 v m0→R C v m→R (Vt C n H) v m:=by
 have aln:∀ {v:V}{id:Nat}{m0:Ab.M},(∃ p s,v=.ptr id p s)∨(∃ e k,v=.row id e k)∨(∃ p e off len cap,v=.sl id p e off len cap)→R C0 v m0→id < n∨H≤id:=by
  rintro v id m0 (⟨p,s,rfl⟩ | ⟨e,k,rfl⟩ | ⟨p,e,off,len,cap,rfl⟩) h
  ·exact h0 _ h.1
  ·exact h0 _ h.1
  ·exact h0 _ h.1
 have purk:∀ {v:V}{m:Ab.M},R C.pur v m→R (Vt C n H) v m:=fun h=>R.keep (C:=C.pur) (C':=Vt C n H) ⟨fun _ h=>h.elim,fun _ h=>h.elim,fun _ h=>h.elim,fun _ _ h=>h,fun _ _ _=>rfl⟩ _ _ h
 induction v with
 | ptr id p s=>intro m0 m h h'; exact⟨⟨h'.1,aln (.inl ⟨_,_,rfl⟩) h⟩,h'.2⟩
 | row id e k=>intro m0 m h h'; exact⟨⟨h'.1,aln (.inr (.inl ⟨_,_,rfl⟩)) h⟩,h'.2⟩
 | yld id=>intro m0 m h h'; exact⟨⟨h'.1,h0 _ h.1⟩,h'.2⟩
 | sl id p e off len cap=>intro m0 m h h'; exact⟨⟨h'.1,aln (.inr (.inr ⟨_,_,_,_,_,rfl⟩)) h⟩,h'.2⟩
 | cons x t ih1 ih2 =>
  intro m0 m h h'
  have hx:(∃ q,R C0 x q)∧∃ q,R C0 t q:=by
   cases m0 with
   | cel s g off=>obtain⟨a,b,h1,h2,h3⟩:=h; exact⟨⟨_,h2⟩,⟨_,h3⟩⟩
   | val v=>obtain⟨cs,a,b,h1,h2,h3,h4⟩:=h; exact⟨⟨_,h3⟩,⟨_,h4⟩⟩
   | list l=>obtain⟨y,ys,h1,h2,h3⟩:=h; exact⟨⟨_,h2⟩,⟨_,h3⟩⟩
  obtain⟨⟨q1,k1⟩,⟨q2,k2⟩⟩:=hx
  cases m with
  | cel s g off=>obtain⟨a,b,h1,h2,h3⟩:=h'; exact⟨a,b,h1,ih1 k1 h2,ih2 k2 h3⟩
  | val v=>obtain⟨cs,a,b,h1,h2,h3,h4⟩:=h'; exact⟨cs,a,b,h1,h2,ih1 k1 h3,ih2 k2 h4⟩
  | list l=>obtain⟨y,ys,h1,h2,h3⟩:=h'; exact⟨y,ys,h1,ih1 k1 h2,ih2 k2 h3⟩
 | arr k f ih =>
  intro m0 m h h'
  have hx:∀ i,i < k→∃ q,R C0 (f i) q:=by
   intro i hi
   cases m0 with
   | cel s g off=>obtain⟨e,h1,h2⟩:=h; exact⟨_,h2 i hi⟩
   | val v=>obtain⟨cs,e,h1,h2,h3⟩:=h; exact⟨_,h3 i hi⟩
   | list l=>exact h.elim
  cases m with
  | cel s g off=>obtain⟨e,h1,h2⟩:=h'; exact⟨e,h1,fun i hi=>by obtain⟨q,k1⟩:=hx i hi; exact ih i k1 (h2 i hi)⟩
  | val v=>obtain⟨cs,e,h1,h2,h3⟩:=h'; exact⟨cs,e,h1,h2,fun i hi=>by obtain⟨q,k1⟩:=hx i hi; exact ih i k1 (h3 i hi)⟩
  | list l=>exact h'
 | fn f c ih =>
  intro m0 m h h'
  obtain⟨_,_,k1,_⟩:=h
  obtain⟨cs,h1,h2,h3⟩:=h'
  exact⟨cs,h1,ih k1 h2,h3⟩
 | tup l ih =>
  intro m0 m h h'
  have hx:∃ q,R C0 l q:=by
   cases m0 with
   | val v=>obtain⟨cs,h1,h2⟩:=h; exact⟨_,h2⟩
   | cel=>exact h.elim
   | list=>exact h.elim
  obtain⟨q,k1⟩:=hx
  cases m with
  | val v=>obtain⟨cs,h1,h2⟩:=h'; exact⟨cs,h1,ih k1 h2⟩
  | cel=>exact h'
  | list=>exact h'
 | _=>intro m0 m _ h'; exact purk (R.pure_of _ rfl h')
omit [Gl] in
theorem BR.mk {B:Nat}{C:Ctx}{n H:Nat}{id:Nat}{b c:Blk}(h:BR B C id b) (hk:b.k=c.k) (hs:b.sh=c.sh) (hv:(∀ k ps x y,c.k≠.lp k ps x y)→∀ m,R C b.v m→R (Vt C n H) c.v m) (hl:∀ k ps x y,c.k=.lp k ps x y→LoopR B C id k ps x y b.v→LoopR B (Vt C n H) id k ps x y c.v):BR B (Vt C n H) id c:=by
 unfold BR at h ⊢
 rw[hk] at h
 cases hkd:c.k<;>simp only[hkd] at h ⊢
 ·obtain⟨g,cur,e,h1,h2,h3,h4,h5,h6,hT⟩:=h
  rw[hs] at h4 h5 h6
  exact⟨g,cur,e,h1,h2,h3,h4,h5,hv (by simp [hkd]) _ h6,hT⟩
 ·obtain⟨n1,s,cells,h1,h2,h3,h4⟩:=h
  rw[hs] at h1 h2 h4
  exact⟨n1,s,cells,h1,h2,h3,hv (by simp [hkd]) _ h4⟩
 ·exact hl _ _ _ _ hkd h
 ·obtain⟨g,es,clk,h1,h2,h3,h4⟩:=h
  exact⟨g,es,clk,h1,h2,h3,hv (by simp [hkd]) _ h4⟩
omit [Gl] in
theorem LoopR.two {B:Nat}{C0 C:Ctx}{n H id m:Nat}{ps:Array Tmp}{a b:Code}{v:V}(hold:∀ id,C0.al id→id < n∨H≤id) (h0:LoopR B C0 id m ps a b v) (h:LoopR B C id m ps a b v):LoopR B (Vt C n H) id m ps a b v:=by
 rcases h with ⟨l,r,st,n1,τ,h1,h2,h3,h4,h7,h8,k9,h10⟩ | h
 ·rcases h0 with ⟨_,r0,st0,n0,τ0,_,_,_,_,e0,_,h9,_⟩ | ⟨e0,_⟩
  ·rw[e0] at h7
   injection h7 with q1 q2
   injection q2 with q2 q3
   subst q1; subst q2; subst q3
   exact .inl ⟨l,r,_,_,_,h1,h2,h3,h4,e0,h8,fun t=>R.two hold _ (h9 t) (k9 t),h10⟩
  ·rw[e0] at h7; cases h7
 ·exact .inr h
section
variable {P:Program}{ct:zfd}{B N:Nat}
end
end
end Go.Y
