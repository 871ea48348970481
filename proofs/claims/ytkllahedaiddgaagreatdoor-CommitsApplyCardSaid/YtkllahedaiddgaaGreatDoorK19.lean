/- A law that returns true and writes nothing that was there: its outcome has the row's form. No condition. -/
import Derived.Test.YtkllahedaiddgaaGreatDoorK13
import Derived.OpenShut
import Derived.ProofKit
set_option linter.unusedSimpArgs false
set_option linter.unusedVariables false
namespace Go.K
open Go.Ab Go.RowKit Go.Y
noncomputable section
theorem ZN {H:Type}{enc:TypeId×Value→H}{P:Program}{W:World}{base fuel:Nat}{sp:Nat→Bool}{held:Bool}{t e:TypeId}{k:IntKind}{n:Nat}{cs:List Value}{l:List Int}{p:List MemPlace}(ht:P.underlying t=some (.array n e)) (he:P.underlying e=some (.int k)) (hc:P.cellsOf e=1)
  (h:DataW.trod enc P W base sp held fuel t cs=some (.agg (l.map fun x=>.lit (.int k x)),p)):∀ i,i < n→cs[i]?=some (.int k (l.getD i 0)):=by
 intro i hi
 obtain⟨xs,m,rfl,hx,hlen,hn,hel⟩:=DataW.trod_array ht h
 have h0:=hel i hi
 rw[hc,Nat.mul_one] at h0
 have hxi:i < xs.length:=by omega
 rw[List.getElem?_eq_getElem hxi] at h0
 obtain⟨v,e1,e2,_⟩:=DataW.trod_int he h0
 have h1:l.map (fun x=>(DataW.lit (.int k x):DataW H))=xs.map (·.1):=by
  have:=(Prod.mk.inj hx).1
  exact DataW.agg.inj this
 have h2:=congrArg (fun z=>z[i]?) h1
 simp only[List.getElem?_map] at h2
 rw[List.getElem?_eq_getElem hxi] at h2
 have hl:i < l.length:=by
  have:=congrArg List.length h1
  simp only[List.length_map] at this
  omega
 rw[List.getElem?_eq_getElem hl] at h2
 simp only[Option.map_some,Option.some.injEq] at h2
 rw[e2] at h2
 have h3:l[i]=v:=by simpa using h2
 have h4:cs[i]?=some (.int k v):=by
  have:=congrArg (fun z=>z[0]?) e1
  simpa [List.getElem?_take,List.getElem?_drop] using this
 rw[h4,List.getD_eq_getElem?_getD,List.getElem?_eq_getElem hl,h3]; rfl
theorem zer [KGl] {P:Program}{fid:FuncId}{s:zk}(h:KCS P fid s) {C:Ctx}{l:List KV}{vals:List Value}(hok:∀ u b,C.ok u b→b < C.w.heap.size) (hg:∀ g,R C.pur (Gl.G g) (.val (.pointer (some ⟨g,0,none⟩))))
  (hargs:R C.pur (mkL (l.map KV.v)) (.list vals)) (hs:s l fun v=>v=.bool true) (hn:xy (mkL (l.map KV.v))=true):Calls P fid vals.toArray C.w fun e w'=>RowKit.Below C.w.heap.size C.w w'∧e=.returned (.bool true):=by
 obtain⟨v,rfl,h2⟩:=h.2 l _ hs
 have hc:=h2 C.w.heap.size (fun _=>none) 0 0 (l.map KV.v) (fun D M vs _ _ hr=>R.keep (Keep.opened D _) _ _ (R.pure_of _ hn hr))
 have hz:GR C.w.heap.size 0 C.pur (fun _=>none) (fun _=>none) 0 :=
  ⟨⟨Nat.le_refl _,hok,(fun _ _ h=>(by cases h)),(fun _ _ h=>(by cases h)),(fun _ _ _ _ _ h=>(by cases h)),(fun _ _ _ h=>(by cases h)),hg⟩,(fun id b hb=>(by cases hb)),fun _ _ _ h=>h⟩
 refine (hc 0 C.pur (fun _=>none) vals (Nat.le_refl _) (Nat.le_refl _) hz hargs).mono ?_
 rintro e w' ⟨val,he,C',M',hw,hR,_,hk⟩
 subst hw
 refine⟨hk.kp.below,?_⟩
 rw[he,show val=.bool true from hR]
theorem zjJ [KGl] {P:Program}{fid:FuncId}{s:zk}(hf:∃ fn,P.funcs[fid]?=some fn∧(fn.name == "runtime.NumGoroutine")=false∧fn.body.isNone=false)
  (h:∀ l K,s l K→∃ E:KEnv,KOk E∧E.P=P∧∃(n:Nat) (Q:KV→Prop) (w:KV) (l':List KV),K w∧xw w.v=true∧(∀ r:KV,Q r→Imp r.v w.v)∧(∀ C m,R C (mkL (l.map KV.v)) m→R C (mkL (l'.map KV.v)) m)∧zo E (zp E n) 0 fid l' .e 0 0 fun r _ _ _=>Q r):KCS P fid s:=by
 refine⟨hf,fun l K hs=>?_⟩
 obtain⟨E,hE,rfl,n,Q,w,l',h1,h2,h3,h5,h4⟩:=h l K hs
 have hc:xi E.P fid { pre:=fun l0=>@decide (l0=l'.map KV.v) (Classical.propDecidable _),res:=fun _=>w.v,fresh:=true }:=by
  have hme:MB (am (.e:KZ)) 0:=by rw[Xj]; exact jv 0
  refine⟨hf,fun C l0 vals hok hg hargs hpre=>?_⟩
  have hl:l0=l'.map KV.v:=@of_decide_eq_true _ (Classical.propDecidable _) hpre
  subst hl
  obtain⟨_,r,zm',nx',mx',q1,q2,q3⟩:=vc (B:=C.w.heap.size) (jh hE n) hE h4 hme (Nat.le_refl 0)
  have hz:GR C.w.heap.size (nx' + mx') C.pur (fun _=>none) (am .e) 0 :=
   ⟨⟨Nat.le_refl _,hok,(fun _ _ h=>(by cases h)),(fun _ _ h=>(by cases h)),(fun _ _ _ _ _ h=>(by cases h)),(fun _ _ _ h=>(by cases h)),hg⟩,(fun id b hb=>by rw[Xj] at hb; cases hb),fun _ _ _ h=>h⟩
  refine (q3 (nx' + mx') C.pur (fun _=>none) vals (by omega) (by omega) hz hargs).mono ?_
  rintro e w' ⟨val,he,C',M',hw,hR,_,hc⟩
  subst hw
  exact⟨hc.kp.below,val,he,R.noref _ h2 (h3 r q1 _ _ hR)⟩
 refine⟨w,h1,fun B μ nx mx l0 hl0=>?_⟩
 exact xZ (B:=B) (μ:=μ) (nx:=nx) (mx:=mx) hE.gn hc rfl (fun C M vals hs hm hr=>h5 _ _ (hl0 C M vals hs hm hr)) (by rw[j2]; exact @decide_eq_true _ (Classical.propDecidable _) rfl)
def pkK (h:Nat→Nat) (n:Nat) (K:Nat→Prop):Prop:=@Nat.rec (fun _=>(Nat→Prop)→Prop) (fun K=>K 0) (fun n ih K=>ih fun acc=>zJ (Nat.add acc (Nat.mul (h n) (Nat.pow 256 n))) K) n K
theorem Vh (h:Nat→Nat):∀(n:Nat) (K:Nat→Prop),pkK h n K=K (pkA h n)
 | 0,K=>rfl
 | n + 1,K=>by
  show pkK h n (fun acc=>zJ (Nat.add acc (Nat.mul (h n) (Nat.pow 256 n))) K)=_
  rw[Vh h n,zP]; rfl
end
end Go.K
namespace Go.K
open Go.Ab
open Go.ChangeShapes Go.WideShapes Go.ChangeAt Go.RowKit
section
variable {H:Type}{enc:TypeId×Value→H}{P:Program}
theorem wR (hl:laidOutB P=true) {W W':World}(hb:Below W.heap.size W W') :
  ∀ {ts:List TypeId}{vs:List Value}{ds:List (DataW H)}{ps:List MemPlace},(ts.all fun t=>P.readableRec t&&decide (t < P.types.size))=true →
   DataW.TrodAll enc P W 0 (fun _=>true) true ts vs ds ps→(∀ x∈ps,x.block < W.heap.size)→∀ sp:Nat→Bool,(∀ x∈ps,sp x.block=true)→DataW.TrodAll enc P W' 0 sp true ts vs ds ps
 | [],vs,ds,ps,_,h,_,sp,_=>by
  obtain⟨rfl,rfl,rfl⟩:=trodAll_nil h
  exact trodAll_mk0
 | t::ts,vs,ds,ps,hr,h,hlt,sp,hsp=>by
  obtain⟨v,vs1,d,ds1,a,b,rfl,rfl,rfl,h1,h2⟩:=trodAll_cons h
  simp only[List.all_cons,Bool.and_eq_true,decide_eq_true_eq] at hr
  refine⟨a,b,?_,wR hl hb hr.2 h2 (fun x hx=>hlt x (List.mem_append_right _ hx)) sp (fun x hx=>hsp x (List.mem_append_right _ hx)),rfl⟩
  exact WideElems.Trod_stays hl hr.1.1 hr.1.2 h1 (fun x hx=>hb.same (hlt x (List.mem_append_left _ hx))) (fun x hx=>hsp x (List.mem_append_left _ hx))
theorem zfE (hl:laidOutB P=true) {f:Func}{s:ChangeSpec}{apart fresh handsOn again:Bool}{tb:TypeId}{W W':World}{args:Array Value}{ds gs:List (DataW H)}{VK:List MemPlace}
  (hW:DataW.Whole enc P f.params.toList s.vars apart W args.toList ds gs VK)
  (hr:(f.params.toList.all fun t=>P.readableRec t&&decide (t < P.types.size))=true) (hv:s.vars=[])
  (hs:s.fn H (ds++gs)={ results:=[.lit (.bool true)],args:=ds }) (ht:f.resultTypes=#[tb]) (hu:P.underlying tb=some .bool) (hb:Below W.heap.size W W') :
  s.post enc P f apart fresh handsOn again W args (.bool true) W':=by
 have hlt:∀ p∈VK,p.block < W.heap.size:=hW.lt
 have hW0:=hW
 obtain⟨p,q,hA,hV,rfl,hfz,hnd⟩:=hW
 rw[hv] at hV
 obtain⟨rfl,rfl⟩:=trodVars_none hV
 have harg:∀ sp:Nat→Bool,(∀ x∈p++[],sp x.block=true)→DataW.TrodAll enc P W' 0 sp true f.params.toList args.toList ds p:=fun sp hsp =>
  wR hl hb hr hA (fun x hx=>hlt x (List.mem_append_left _ hx)) sp (fun x hx=>hsp x (List.mem_append_left _ hx))
 have hres:∀(b:Nat) (sp:Nat→Bool) (hd:Bool),DataW.TrodAll enc P W' b sp hd f.resultTypes.toList ((Value.bool true).resultList f.resultTypes.size) [.lit (.bool true)] []:=fun b sp hd=>by
  rw[ht]; exact trodAll_mk1 (shut_bool hu true)
 refine⟨ds,[],p++[],[],p,[],hW0,?_,?_,?_,hb.frame _,fun _=>⟨?_,[.lit (.bool true)]++ds,[],[]++p++[],⟨[]++p,[],?_,?_,rfl,?_,?_⟩,fun x hx _=>hx⟩⟩
 ·rw[hs]; exact hres _ _ _
 ·rw[hs]; exact harg _ (fun x hx=>by simpa using hlt x hx)
 ·rw[hv,hs]; exact rfl
 ·exact ok_one ht rfl (okWide_bool_mk hu true)
 ·exact trodAll_append (harg _ (fun _ _=>rfl)) (hres _ _ _)
 ·rw[hv]; exact rfl
 ·intro b off hx
  have h1:=hlt _ hx
  rw[hb.frozen (p:=⟨b,off,none⟩) h1]
  exact hfz b off hx
 ·exact hnd
end
end Go.K
