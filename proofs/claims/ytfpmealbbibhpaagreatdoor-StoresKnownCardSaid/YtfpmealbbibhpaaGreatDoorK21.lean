/- Tables of closed contracts of one function. No condition. -/
import Derived.Test.YtfpmealbbibhpaaGreatDoorK17
set_option linter.unusedVariables false
namespace Go.K
open Go.Ab Go.RowKit Go.Y
noncomputable section
variable [KGl]
def kvbsR (l m : List KV) : Bool := @List.rec KV (fun _ => List KV → Bool) (fun m => @List.rec KV (fun _ => Bool) true (fun _ _ _ => false) m) (fun x _ ih m => @List.rec KV (fun _ => Bool) false (fun y m _ => nd (ih m) (kvb x y)) m) l m
omit [KGl] in
theorem kvbsR_s : ∀ {l m : List KV}, kvbsR l m = true → l = m
  | [], [], _ => rfl
  | [], y :: m, h => by cases (show false = true from h)
  | x :: l, [], h => by cases (show false = true from h)
  | x :: l, y :: m, h => by
    replace h : nd (kvbsR l m) (kvb x y) = true := h
    rw [nd_iff] at h
    rw [kvbsR_s h.1, kvb_s h.2]
def sMem (L : List (List KV × KV)) : KSpec := fun l K => @List.rec (List KV × KV) (fun _ => Prop) (BadN 320) (fun x _ ih => @Bool.rec (fun _ => Prop) ih (K x.2) (kvbsR l x.1)) L
def allM (P : Program) (fid : FuncId) (L : List (List KV × KV)) : Prop := @List.rec (List KV × KV) (fun _ => Prop) True (fun x _ ih => KCS P fid (kcon x.1 x.2) ∧ kvbs x.1 x.1 = true ∧ ih) L
theorem sMem_s {P : Program} {fid : FuncId} (hf : ∃ fn, P.funcs[fid]? = some fn ∧ (fn.name == "runtime.NumGoroutine") = false ∧ fn.body.isNone = false) : ∀ {L : List (List KV × KV)}, allM P fid L → KCS P fid (sMem L)
  | [], _ => ⟨hf, fun l K h => (show BadN 320 from h).elim⟩
  | x :: L, hL => by
    obtain ⟨h1, h2, h3⟩ := (show KCS P fid (kcon x.1 x.2) ∧ kvbs x.1 x.1 = true ∧ allM P fid L from hL)
    refine ⟨hf, fun l K h => ?_⟩
    replace h : @Bool.rec (fun _ => Prop) (sMem L l K) (K x.2) (kvbsR l x.1) := h
    cases hk : kvbsR l x.1 with
    | true =>
      rw [hk] at h
      obtain rfl := kvbsR_s hk
      exact h1.2 x.1 K (by show chk (kvbs x.1 x.1) 190 (K x.2); rw [h2]; exact h)
    | false => rw [hk] at h; exact (sMem_s hf h3).2 l K h
def KEnv.olo (E : KEnv) (g : FuncId → Bool) : KEnv := { E with ol := g }
theorem KOk.olo {E : KEnv} (h : KOk E) (g : FuncId → Bool) : KOk (E.olo g) := ⟨h.fns, h.ct, h.gn, h.mixed, h.ex, h.cb, h.as⟩
end
end Go.K
