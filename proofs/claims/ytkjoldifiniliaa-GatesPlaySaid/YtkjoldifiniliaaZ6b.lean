/- Values held against one another. No condition. -/
import Derived.Test.YtkjoldifiniliaaZ6
set_option linter.unusedVariables false
set_option linter.unusedSimpArgs false
set_option linter.constructorNameAsVariable false
namespace Go.Ab
open Go.RowKit
noncomputable section

def asAgg (x : X) (f : List X → Prop) : Prop := @X.rec (fun _ => Prop) (fun _ => Unit) (fun _ => Unit) (fun _ _ => False) (fun _ => False) (fun _ _ => False) (fun _ => False) (fun _ => False) (fun a0 a1 _ => (fun _ l => f l) a0 a1) (fun _ _ _ _ _ _ => False) (fun _ _ _ => False) (fun _ _ _ => False) (fun _ _ _ _ _ _ => False) False False False (fun _ _ _ => False) (fun _ _ => False) (fun _ _ => False) (fun _ _ _ => False) False () (fun _ _ _ _ => ()) () (fun _ _ _ _ _ _ _ _ => ()) (fun _ _ _ _ _ _ _ _ _ _ => ()) x
def asArr (x : X) (f : Nat → Tr X → X → Prop) : Prop := @X.rec (fun _ => Prop) (fun _ => Unit) (fun _ => Unit) (fun _ _ => False) (fun _ => False) (fun _ _ => False) (fun _ => False) (fun _ => False) (fun _ _ _ => False) (fun a0 a1 a2 a3 _ _ => (fun _ n t d => f n t d) a0 a1 a2 a3) (fun _ _ _ => False) (fun _ _ _ => False) (fun _ _ _ _ _ _ => False) False False False (fun _ _ _ => False) (fun _ _ => False) (fun _ _ => False) (fun _ _ _ => False) False () (fun _ _ _ _ => ()) () (fun _ _ _ _ _ _ _ _ => ()) (fun _ _ _ _ _ _ _ _ _ _ => ()) x
theorem asAgg_inv {x : X} {f : List X → Prop} (h : asAgg x f) : ∃ c l, x = .agg c l ∧ f l := by cases x <;> first | exact ⟨_, _, rfl, h⟩ | exact False.elim h
theorem asArr_inv {x : X} {f : Nat → Tr X → X → Prop} (h : asArr x f) : ∃ c n t d, x = .arr c n t d ∧ f n t d := by cases x <;> first | exact ⟨_, _, _, _, rfl, h⟩ | exact False.elim h
/-- True or false, worked out or not. -/
inductive EB where
  | c (b : Bool)
  | s (b : Bool)
def EB.v : EB → Bool
  | .c b => b
  | .s b => b
def andE (a b : EB) : EB := @EB.rec (fun _ => EB) (fun x => @Bool.rec (fun _ => EB) (.c false) b x) (fun x => @EB.rec (fun _ => EB) (fun y => @Bool.rec (fun _ => EB) (.c false) (.s x) y) (fun y => .s (x && y)) b) a
theorem andE_v (a b : EB) : (andE a b).v = (a.v && b.v) := by
  cases a with
  | c x => cases x <;> rfl
  | s x => cases b with
    | c y => cases x <;> cases y <;> rfl
    | s y => rfl
abbrev EK := TypeId → X → X → (EB → Prop) → Prop
/-- Both lists, field by field. -/
def eqLK (ih : EK) (ts : List Nat) : List X → List X → (EB → Prop) → Prop :=
  @List.rec Nat (fun _ => List X → List X → (EB → Prop) → Prop)
    (fun l r f => @List.rec X (fun _ => Prop) (@List.rec X (fun _ => Prop) (f (.c true)) (fun _ _ _ => False) r) (fun _ _ _ => False) l)
    (fun t _ rec l r f => @List.rec X (fun _ => Prop) False (fun x l _ => @List.rec X (fun _ => Prop) False (fun y r _ => ih t x y fun a => rec l r fun b => f (andE a b)) r) l) ts
/-- Both arrays, element by element. -/
def eqAK (ih : EK) (te : TypeId) (t1 : Tr X) (d1 : X) (t2 : Tr X) (d2 : X) (n : Nat) : (EB → Prop) → Prop :=
  @Nat.rec (fun _ => (EB → Prop) → Prop) (fun f => f (.c true)) (fun i rec f => rec fun b => ih te (get d1 (enc i) t1) (get d2 (enc i) t2) fun a => f (andE b a)) n
def strEq (s t : ByteArray) : Bool := s.data.toList == t.data.toList
def eqI2 (x y : X) (f : EB → Prop) : Prop := numK x (fun k a => numK y (fun k1 b => ifP (ikEq k k1) (f (.c (eqI a b)))) (fun k1 b => ifP (ikEq k k1) (f (.s (a == b))))) (fun k a => numK y (fun k1 b => ifP (ikEq k k1) (f (.s (a == b)))) (fun k1 b => ifP (ikEq k k1) (f (.s (a == b)))))
def eqB2 (x y : X) (f : EB → Prop) : Prop := boolK x (fun a => boolK y (fun b => f (.c (boolEq a b))) (fun b => f (.s (a == b)))) (fun a => boolK y (fun b => f (.s (a == b))) (fun b => f (.s (a == b))))
def eqK (T : Tr TI) (fuel : Nat) : EK := @Nat.rec (fun _ => EK) (fun _ _ _ _ => False) (fun _ ih t x y f =>
  tyE T t fun k cm => ifP cm (@TK.rec (fun _ => Prop) (fun _ => eqI2 x y f) (eqB2 x y f) (strX x fun s => strX y fun t => f (.c (strEq s t)))
    (fun _ ts => asAgg x fun l => asAgg y fun r => eqLK ih ts l r f) (fun n _ te => asArr x fun n1 t1 d1 => asArr y fun n2 t2 d2 => ifP (Nat.beq n n1) (ifP (Nat.beq n n2) (eqAK ih te t1 d1 t2 d2 n f))) (fun _ _ _ => False) False k)) fuel
section
variable {P : Program} {B : Nat} {o : Oper} {tm zm : Tr X} {nx : Pth} {T : Tr TI} {K : KT}

theorem eqI2_inv {x y : X} {f : EB → Prop} (h : eqI2 x y f) : ∃ k a b e, x.toV P = .int k a ∧ y.toV P = .int k b ∧ e.v = (a == b) ∧ f e := by
  have fin : ∀ {k k1 : IntKind} {a b : Int} {e : EB}, ifP (ikEq k k1) (f e) → e.v = (a == b) → x.toV P = .int k a → y.toV P = .int k1 b → ∃ k a b e, x.toV P = .int k a ∧ y.toV P = .int k b ∧ e.v = (a == b) ∧ f e := by
    intro k k1 a b e h he hx hy
    obtain ⟨h1, h2⟩ := ifP_inv h
    obtain rfl := ikEq_eq h1
    exact ⟨k, a, b, e, hx, hy, he, h2⟩
  rcases numK_inv h with ⟨k, a, rfl, h1⟩ | ⟨k, a, rfl, h1⟩
  · rcases numK_inv h1 with ⟨k1, b, rfl, h2⟩ | ⟨k1, b, rfl, h2⟩
    · exact fin (a := a) (b := b) h2 (eqI_eq a b) rfl rfl
    · exact fin h2 rfl rfl rfl
  · rcases numK_inv h1 with ⟨k1, b, rfl, h2⟩ | ⟨k1, b, rfl, h2⟩
    · exact fin h2 rfl rfl rfl
    · exact fin h2 rfl rfl rfl
theorem eqB2_inv {x y : X} {f : EB → Prop} (h : eqB2 x y f) : ∃ a b e, x.toV P = .bool a ∧ y.toV P = .bool b ∧ e.v = (a == b) ∧ f e := by
  rcases boolK_inv h with ⟨a, rfl, h1⟩ | ⟨a, rfl, h1⟩
  · rcases boolK_inv h1 with ⟨b, rfl, h2⟩ | ⟨b, rfl, h2⟩
    · exact ⟨a, b, .c (boolEq a b), rfl, rfl, boolEq_eq a b, h2⟩
    · exact ⟨a, b, _, rfl, rfl, rfl, h2⟩
  · rcases boolK_inv h1 with ⟨b, rfl, h2⟩ | ⟨b, rfl, h2⟩
    · exact ⟨a, b, _, rfl, rfl, rfl, h2⟩
    · exact ⟨a, b, _, rfl, rfl, rfl, h2⟩
theorem eqLK_inv {d : Nat} {ih : EK} (h : ∀ t x y f, ih t x y f → eqT P d t (x.toV P) (y.toV P) = true ∧ ∃ e : EB, e.v = eqV (x.toV P) (y.toV P) ∧ f e) :
    ∀ (fs : List Field) (l r : List X) (f : EB → Prop), (fs.all fun f => f.name != "_") = true → eqLK ih (fs.map (·.type)) l r f → eqFs (eqT P d) fs (X.toVL P l) (X.toVL P r) = true ∧ ∃ e : EB, e.v = eqV (X.toVL P l) (X.toVL P r) ∧ f e
  | [], l, r, f, _, hk => by
    cases l with
    | nil => cases r with
      | nil => exact ⟨rfl, .c true, rfl, hk⟩
      | cons => exact False.elim hk
    | cons => exact False.elim hk
  | fd :: fs, l, r, f, hn, hk => by
    simp only [List.all_cons, Bool.and_eq_true] at hn
    cases l with
    | nil => exact False.elim hk
    | cons x l => cases r with
      | nil => exact False.elim hk
      | cons y r =>
        obtain ⟨h1, e1, h2, h2'⟩ := h _ _ _ _ (show ih fd.type x y (fun a => eqLK ih (fs.map (·.type)) l r fun b => f (andE a b)) from hk)
        obtain ⟨h3, e2, h4, h4'⟩ := eqLK_inv h fs l r _ hn.2 h2'
        refine ⟨?_, andE e1 e2, ?_, h4'⟩
        · simp only [X.toVL, eqFs, Bool.and_eq_true]
          exact ⟨⟨hn.1, h1⟩, h3⟩
        · rw [andE_v, h2, h4]; rfl
theorem eqAK_inv {d : Nat} {ih : EK} (h : ∀ t x y f, ih t x y f → eqT P d t (x.toV P) (y.toV P) = true ∧ ∃ e : EB, e.v = eqV (x.toV P) (y.toV P) ∧ f e) (te : TypeId) (t1 : Tr X) (d1 : X) (t2 : Tr X) (d2 : X) :
    ∀ (n : Nat) (f : EB → Prop), eqAK ih te t1 d1 t2 d2 n f → (∀ i, i < n → eqT P d te ((get d1 (enc i) t1).toV P) ((get d2 (enc i) t2).toV P) = true) ∧ ∃ e : EB, e.v = ((List.range n).all fun i => eqV ((get d1 (enc i) t1).toV P) ((get d2 (enc i) t2).toV P)) ∧ f e
  | 0, f, hk => ⟨fun i hi => by omega, .c true, rfl, hk⟩
  | n + 1, f, hk => by
    obtain ⟨h1, e1, h2, h2'⟩ := eqAK_inv h te t1 d1 t2 d2 n _ (show eqAK ih te t1 d1 t2 d2 n (fun b => ih te (get d1 (enc n) t1) (get d2 (enc n) t2) fun a => f (andE b a)) from hk)
    obtain ⟨h3, e2, h4, h4'⟩ := h _ _ _ _ h2'
    refine ⟨fun i hi => ?_, andE e1 e2, ?_, h4'⟩
    · rcases Nat.lt_or_ge i n with h5 | h5
      · exact h1 i h5
      · obtain rfl : i = n := by omega
        exact h3
    · rw [List.range_succ, List.all_append, andE_v, h2, h4]
      simp only [List.all_cons, List.all_nil, Bool.and_true]
theorem eqK_inv (hT : TTok P T) : ∀ (d : Nat) (t : TypeId) (x y : X) (f : EB → Prop), eqK T d t x y f → eqT P d t (x.toV P) (y.toV P) = true ∧ ∃ e : EB, e.v = eqV (x.toV P) (y.toV P) ∧ f e
  | 0, t, x, y, f, h => False.elim h
  | d + 1, t, x, y, f, h0 => by
    obtain ⟨c, sc, z, k, cm, ht, hcm, h1⟩ := tyE_inv hT h0
    obtain ⟨hc, h2⟩ := ifP_inv h1
    have hm := hcm hc
    cases k with
    | int ik =>
      obtain ⟨k, a, b, e, hx, hy, he, h3⟩ := eqI2_inv (P := P) (show eqI2 x y f from h2)
      have hu : P.underlying t = some (.int ik) := ht.k
      rw [hx, hy]
      exact ⟨by simp [eqT, hu], e, he, h3⟩
    | bool =>
      obtain ⟨a, b, e, hx, hy, he, h3⟩ := eqB2_inv (P := P) (show eqB2 x y f from h2)
      have hu : P.underlying t = some .bool := ht.k
      rw [hx, hy]
      exact ⟨by simp [eqT, hu], e, he, h3⟩
    | str =>
      obtain ⟨a, rfl, h3⟩ := strX_inv (show strX x _ from h2)
      obtain ⟨b, rfl, h4⟩ := strX_inv h3
      have hu : P.underlying t = some .string := ht.k
      refine ⟨by simp [eqT, hu, X.toV], .c (strEq a b), ?_, h4⟩
      show strEq a b = (a.toList == b.toList)
      simp [strEq, ByteArray.toList_eq]
    | struct cs ts =>
      obtain ⟨fs, hu, hts, hnm, hst, _, _⟩ := hm
      obtain ⟨c1, l, rfl, h3⟩ := asAgg_inv (show asAgg x _ from h2)
      obtain ⟨c2, r, rfl, h4⟩ := asAgg_inv h3
      rw [← hts] at h4
      obtain ⟨h5, h6⟩ := eqLK_inv (eqK_inv hT d) fs.toList l r f hnm h4
      refine ⟨?_, h6⟩
      unfold eqT
      simp only [hu, hst, Bool.not_false, Bool.true_and]
      exact h5
    | array n e te =>
      obtain ⟨hu, _, _⟩ := hm
      obtain ⟨c1, n1, t1, d1, rfl, h3⟩ := asArr_inv (show asArr x _ from h2)
      obtain ⟨c2, n2, t2, d2, rfl, h4⟩ := asArr_inv h3
      obtain ⟨hb1, h5⟩ := ifP_inv h4
      obtain ⟨hb2, h6⟩ := ifP_inv h5
      obtain rfl := nbeq hb1
      obtain rfl := nbeq hb2
      obtain ⟨h7, h8⟩ := eqAK_inv (eqK_inv hT d) te t1 d1 t2 d2 n f h6
      rw [toV_arr, toV_arr]
      refine ⟨?_, h8⟩
      unfold eqT
      simp only [hu, beq_self_eq_true, Bool.true_and, List.all_eq_true, List.mem_range]
      exact h7
    | _ => exact False.elim h2

def z_eqA (op : BinOp) (b : EB) (K : X → Prop) : Prop := @BinOp.rec (fun _ => Prop) False False False False False False False False False False False (@EB.rec (fun _ => Prop) (fun b => K (.bool b)) (fun b => K (.sbool b)) b) (@EB.rec (fun _ => Prop) (fun b => K (.bool (bRec b false true))) (fun b => K (.sbool (!b))) b) False False False False op
/-- Compound values. -/
def z_eq (T : Tr TI) (op : BinOp) (t : TypeId) (x y : X) (zm : Tr X) (nx : Pth) (K : KT) : Prop :=
  tyK T t fun c sc _ k => okSt c sc k x (okSt c sc k y (eqK T (nat_lit 12) t x y fun b => z_eqA op b (kk zm nx K)))
theorem z_eq_inv (hT : TTok P T) {op : BinOp} {t t1 : TypeId} {x y : Operand} (ho : o.op = .binOp op t x y t1) (hwm : WFM P zm) (hws : WFS P tm) (hag : ((evO tm x).toV P).isAgg = true) (h0 : z_eq T op t (evO tm x) (evO tm y) zm nx K) : ∃ v zm' nx' up rd e, ZStep P B o tm zm zm' nx nx' v up rd e ∧ K v zm' nx' up rd := by
  obtain ⟨c, sc, z, k, ht, h1⟩ := tyK_inv hT h0
  obtain ⟨hf1, h2⟩ := okSt_inv ht h1
  obtain ⟨hf2, h3⟩ := okSt_inv ht h2
  obtain ⟨h4, e, he, h5⟩ := eqK_inv hT 12 t _ _ _ h3
  have hsh : shp P 12 t = shOf P c := by
    have := ht.sh
    unfold tshape at this
    split at this
    · split at this
      · exact Option.some.inj this
      · cases this
    · cases this
  have g1 : (rho P tm x).fits (shp P 12 t) = true := by rw [hsh, ← hf1.sh, ← evO_toV]; exact (hf1.wf (evO_wf hws x)).fits
  have g2 : (rho P tm y).fits (shp P 12 t) = true := by rw [hsh, ← hf2.sh, ← evO_toV]; exact (hf2.wf (evO_wf hws y)).fits
  have ha1 : (rho P tm x).isAgg = true := by rw [← evO_toV]; exact hag
  rw [evO_toV, evO_toV] at h4 he
  -- the flag is that of the type
  have hcm : lay P 12 t = true ∧ P.eqGuardType P.depth t = false ∧ (rho P tm y).isAgg = true := by
    obtain ⟨c', sc', z', k', cm, ht', hc', h6⟩ := tyE_inv hT (show tyE T t _ from h3)
    obtain ⟨h7, h8⟩ := ifP_inv h6
    have hm := hc' h7
    cases k' with
    | struct cs ts =>
      obtain ⟨fs, hu, hts, hnm, hst, hl, hg⟩ := hm
      obtain ⟨c1, l, hx, h9⟩ := asAgg_inv (show asAgg (evO tm x) _ from h8)
      obtain ⟨c2, r, hy, h10⟩ := asAgg_inv h9
      refine ⟨hl, hg, ?_⟩
      rw [← evO_toV, hy]
      cases r <;> rfl
    | array n e te =>
      obtain ⟨hu, hl, hg⟩ := hm
      obtain ⟨c1, n1, t1, d1, hx, h9⟩ := asArr_inv (show asArr (evO tm x) _ from h8)
      obtain ⟨c2, n2, t2, d2, hy, h10⟩ := asArr_inv h9
      refine ⟨hl, hg, ?_⟩
      rw [← evO_toV, hy]; rfl
    | int ik =>
      obtain ⟨k, a, b, e, hx, _⟩ := eqI2_inv (P := P) (show eqI2 (evO tm x) _ _ from h8)
      rw [hx] at hag; cases hag
    | bool =>
      obtain ⟨a, b, e, hx, _⟩ := eqB2_inv (P := P) (show eqB2 (evO tm x) _ _ from h8)
      rw [hx] at hag; cases hag
    | str =>
      obtain ⟨a, hx, _⟩ := strX_inv (show strX (evO tm x) _ from h8)
      rw [hx] at hag; cases hag
    | _ => exact False.elim h8
  have hsem : ∀ (hop : op = .eql ∨ op = .neq), OpSem P B o (rho P tm) (zmem P zm) (num nx) (pureE (.bool (if op = .eql then eqV (rho P tm x) (rho P tm y) else !eqV (rho P tm x) (rho P tm y)))) := fun hop => sem_eq_agg ho hop hcm.1 h4 g1 g2 ha1 hcm.2.2 hcm.2.1
  cases op <;> first | exact False.elim h5 | skip
  · have h6 := hsem (.inl rfl)
    rw [if_pos rfl, ← he] at h6
    cases e with
    | c b => exact ⟨_, _, _, _, _, _, ZStep.pure (rd := []) (v := .bool b) hwm (.one (.lf rfl)) h6 noRd, h5⟩
    | s b => exact ⟨_, _, _, _, _, _, ZStep.pure (rd := []) (v := .sbool b) hwm (.one (.lf rfl)) h6 noRd, h5⟩
  · have h6 := hsem (.inr rfl)
    rw [if_neg (by decide), ← he] at h6
    cases e with
    | c b =>
      refine ⟨_, _, _, _, _, _, ZStep.pure (v := .bool (bRec b false true)) hwm (.one (.lf rfl)) ?_ noRd, h5⟩
      have e : bRec b false true = !b := by cases b <;> rfl
      rw [e]; exact h6
    | s b => exact ⟨_, _, _, _, _, _, ZStep.pure (rd := []) (v := .sbool (!b)) hwm (.one (.lf rfl)) h6 noRd, h5⟩

def z_bin2 (T : Tr TI) (tm : Tr X) (op : BinOp) (t : TypeId) (x y : Operand) (zm : Tr X) (nx : Pth) (K : KT) : Prop := @X.rec (fun _ => Prop) (fun _ => Unit) (fun _ => Unit) (fun _ _ => (z_bin T tm op t x y zm nx K)) (fun _ => (z_bin T tm op t x y zm nx K)) (fun _ _ => (z_bin T tm op t x y zm nx K)) (fun _ => (z_bin T tm op t x y zm nx K)) (fun _ => (z_bin T tm op t x y zm nx K)) (fun a0 a1 _ => (fun _ _ => z_eq T op t (evO tm x) (evO tm y) zm nx K) a0 a1) (fun a0 a1 a2 a3 _ _ => (fun _ _ _ _ => z_eq T op t (evO tm x) (evO tm y) zm nx K) a0 a1 a2 a3) (fun _ _ _ => (z_bin T tm op t x y zm nx K)) (fun _ _ _ => (z_bin T tm op t x y zm nx K)) (fun _ _ _ _ _ _ => (z_bin T tm op t x y zm nx K)) (z_bin T tm op t x y zm nx K) (z_bin T tm op t x y zm nx K) (z_bin T tm op t x y zm nx K) (fun _ _ _ => (z_bin T tm op t x y zm nx K)) (fun _ _ => (z_bin T tm op t x y zm nx K)) (fun _ _ => (z_bin T tm op t x y zm nx K)) (fun _ _ _ => (z_bin T tm op t x y zm nx K)) (z_bin T tm op t x y zm nx K) () (fun _ _ _ _ => ()) () (fun _ _ _ _ _ _ _ _ => ()) (fun _ _ _ _ _ _ _ _ _ _ => ()) (evO tm x)
theorem z_bin2_inv (hT : TTok P T) {op : BinOp} {t t1 : TypeId} {x y : Operand} (ho : o.op = .binOp op t x y t1) (hwm : WFM P zm) (hws : WFS P tm) (h : z_bin2 T tm op t x y zm nx K) : ∃ v zm' nx' up rd e, ZStep P B o tm zm zm' nx nx' v up rd e ∧ K v zm' nx' up rd := by
  unfold z_bin2 at h
  cases hx : evO tm x with
  | agg c l => rw [hx] at h; exact z_eq_inv hT ho hwm hws (by rw [hx]; cases l <;> rfl) (by rw [hx]; exact h)
  | arr c n t d => rw [hx] at h; exact z_eq_inv hT ho hwm hws (by rw [hx]; rfl) (by rw [hx]; exact h)
  | _ => rw [hx] at h; exact z_bin_inv hT ho hwm h
end

end
end Go.Ab
