/- A call from a world's start; an array of numbers, opened. No condition. -/
import Derived.Test.YtkllahedaiddgaaGreatDoorK13
import Derived.OpenShut
set_option linter.unusedSimpArgs false
set_option linter.unusedVariables false
namespace Go.K
open Go.Ab Go.RowKit Go.Y
noncomputable section
theorem Xs {H:Type}{enc:TypeId×Value→H}{P:Program}{W:World}{base fuel:Nat}{sp:Nat→Bool}{held:Bool}{t e:TypeId}{k:IntKind}{n:Nat}{cs:List Value}{l:List Int}{p:List MemPlace}(ht:P.underlying t=some (.array n e)) (he:P.underlying e=some (.int k)) (hc:P.cellsOf e=1)
  (h:DataW.trod enc P W base sp held fuel t cs=some (.agg (l.map fun x=>.lit (.int k x)),p)):∀ i,i < n→cs[i]?=some (.int k (l.getD i 0)):=by
 intro i hi
 obtain⟨xs,m,rfl,hx,hlen,hn,hel⟩:=DataW.trod_array ht h
 have h0:=hel i hi
 rw[hc,Nat.mul_one] at h0
 have hxi:i < xs.length:=by omega
 rw[List.getElem?_eq_getElem hxi] at h0
 obtain⟨v,e1,e2,_⟩:=DataW.trod_int he h0
 have h1:l.map (fun x=>(DataW.lit (.int k x):DataW H))=xs.map (·.1):=by
  have:=(Prod.mk.inj hx).1
  exact DataW.agg.inj this
 have h2:=congrArg (fun z=>z[i]?) h1
 simp only[List.getElem?_map] at h2
 rw[List.getElem?_eq_getElem hxi] at h2
 have hl:i < l.length:=by
  have:=congrArg List.length h1
  simp only[List.length_map] at this
  omega
 rw[List.getElem?_eq_getElem hl] at h2
 simp only[Option.map_some,Option.some.injEq] at h2
 rw[e2] at h2
 have h3:l[i]=v:=by simpa using h2
 have h4:cs[i]?=some (.int k v):=by
  have:=congrArg (fun z=>z[0]?) e1
  simpa [List.getElem?_take,List.getElem?_drop] using this
 rw[h4,List.getD_eq_getElem?_getD,List.getElem?_eq_getElem hl,h3]; rfl
theorem zfJ [KGl] {P:Program}{fid:FuncId}{s:zh}(h:KCS P fid s) {C:Ctx}{l:List KV}{vals:List Value}(hok:∀ u b,C.ok u b→b < C.w.heap.size) (hg:∀ g,R C.pur (Gl.G g) (.val (.pointer (some ⟨g,0,none⟩))))
  (hargs:R C.pur (mkL (l.map KV.v)) (.list vals)) (hs:s l fun v=>v=.bool true) (hn:vJ (mkL (l.map KV.v))=true):Calls P fid vals.toArray C.w fun e w'=>RowKit.Below C.w.heap.size C.w w'∧e=.returned (.bool true):=by
 obtain⟨v,rfl,h2⟩:=h.2 l _ hs
 have hc:=h2 C.w.heap.size (fun _=>none) 0 0 (l.map KV.v) (fun D M vs _ _ hr=>R.keep (Keep.opened D _) _ _ (R.pure_of _ hn hr))
 have hz:GR C.w.heap.size 0 C.pur (fun _=>none) (fun _=>none) 0 :=
  ⟨⟨Nat.le_refl _,hok,(fun _ _ h=>(by cases h)),(fun _ _ h=>(by cases h)),(fun _ _ _ _ _ h=>(by cases h)),(fun _ _ _ h=>(by cases h)),hg⟩,(fun id b hb=>(by cases hb)),fun _ _ _ h=>h⟩
 refine (hc 0 C.pur (fun _=>none) vals (Nat.le_refl _) (Nat.le_refl _) hz hargs).mono ?_
 rintro e w' ⟨val,he,C',M',hw,hR,_,hk⟩
 subst hw
 refine⟨hk.kp.below,?_⟩
 rw[he,show val=.bool true from hR]
end
end Go.K
