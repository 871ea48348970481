/- Contracts over arguments that are known in another form; bytes, packed. No condition. -/
import Derived.Test.YtkllahedaiddgaaGreatDoorK19
set_option linter.unusedSimpArgs false
set_option linter.unusedVariables false
namespace Go.K
open Go.Ab Go.RowKit Go.Y
noncomputable section
theorem zbR [KGl] {P:Program}{fid:FuncId}{s:zh}(hf:∃ fn,P.funcs[fid]?=some fn∧(fn.name == "runtime.NumGoroutine")=false∧fn.body.isNone=false)
  (h:∀ l K,s l K→∃ E:KEnv,KOk E∧E.P=P∧∃(n:Nat) (Q:KV→Prop) (w:KV) (l':List KV),K w∧zA w.v=true∧(∀ r:KV,Q r→Imp r.v w.v)∧(∀ C m,R C (mkL (l.map KV.v)) m→R C (mkL (l'.map KV.v)) m)∧zi E (zj E n) 0 fid l' .e 0 0 fun r _ _ _=>Q r):KCS P fid s:=by
 refine⟨hf,fun l K hs=>?_⟩
 obtain⟨E,hE,rfl,n,Q,w,l',h1,h2,h3,h5,h4⟩:=h l K hs
 have hc:xX E.P fid { pre:=fun l0=>@decide (l0=l'.map KV.v) (Classical.propDecidable _),res:=fun _=>w.v,fresh:=true }:=by
  have hme:MB (am (.e:KZ)) 0:=by rw[J8]; exact qg 0
  refine⟨hf,fun C l0 vals hok hg hargs hpre=>?_⟩
  have hl:l0=l'.map KV.v:=@of_decide_eq_true _ (Classical.propDecidable _) hpre
  subst hl
  obtain⟨_,r,zm',nx',mx',q1,q2,q3⟩:=vY (B:=C.w.heap.size) (ZJ hE n) hE h4 hme (Nat.le_refl 0)
  have hz:GR C.w.heap.size (nx' + mx') C.pur (fun _=>none) (am .e) 0 :=
   ⟨⟨Nat.le_refl _,hok,(fun _ _ h=>(by cases h)),(fun _ _ h=>(by cases h)),(fun _ _ _ _ _ h=>(by cases h)),(fun _ _ _ h=>(by cases h)),hg⟩,(fun id b hb=>by rw[J8] at hb; cases hb),fun _ _ _ h=>h⟩
  refine (q3 (nx' + mx') C.pur (fun _=>none) vals (by omega) (by omega) hz hargs).mono ?_
  rintro e w' ⟨val,he,C',M',hw,hR,_,hc⟩
  subst hw
  exact⟨hc.kp.below,val,he,R.noref _ h2 (h3 r q1 _ _ hR)⟩
 refine⟨w,h1,fun B μ nx mx l0 hl0=>?_⟩
 exact vd (B:=B) (μ:=μ) (nx:=nx) (mx:=mx) hE.gn hc rfl (fun C M vals hs hm hr=>h5 _ _ (hl0 C M vals hs hm hr)) (by rw[wF]; exact @decide_eq_true _ (Classical.propDecidable _) rfl)
def pkK (h:Nat→Nat) (n:Nat) (K:Nat→Prop):Prop:=@Nat.rec (fun _=>(Nat→Prop)→Prop) (fun K=>K 0) (fun n ih K=>ih fun acc=>zW (Nat.add acc (Nat.mul (h n) (Nat.pow 256 n))) K) n K
theorem V0 (h:Nat→Nat):∀(n:Nat) (K:Nat→Prop),pkK h n K=K (pkA h n)
 | 0,K=>rfl
 | n + 1,K=>by
  show pkK h n (fun acc=>zW (Nat.add acc (Nat.mul (h n) (Nat.pow 256 n))) K)=_
  rw[V0 h n,zZ]; rfl
end
end Go.K
