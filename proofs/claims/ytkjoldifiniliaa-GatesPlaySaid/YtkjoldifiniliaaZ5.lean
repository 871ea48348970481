/- More operations of the run that the kernel carries out. No condition. -/
import Derived.Test.YtkjoldifiniliaaZ4
set_option linter.unusedVariables false
set_option linter.unusedSimpArgs false
set_option linter.constructorNameAsVariable false
namespace Go.Ab
open Go.RowKit
noncomputable section
section
variable {P : Program} {B : Nat} {o : Oper} {tm zm : Tr X} {nx : Pth} {T : Tr TI} {K : KT}
theorem noRd {P : Program} {zm : Tr X} : ∀ id ∈ ([] : List Pth), ∃ b, zmem P zm (num id) = some b := by intro id h; cases h
def kk (zm : Tr X) (nx : Pth) (K : KT) (v : X) : Prop := K v zm nx [] []

def z_nil (tm : Tr X) (x : Operand) (zm : Tr X) (nx : Pth) (K : KT) : Prop := @X.rec (fun _ => Prop) (fun _ => Unit) (fun _ => Unit) (fun _ _ => False) (fun _ => False) (fun _ _ => False) (fun _ => False) (fun _ => False) (fun _ _ _ => False) (fun _ _ _ _ _ _ => False) (fun id p c => K (.ptr id p c) zm nx [] []) (fun _ _ _ => False) (fun _ _ _ _ _ _ => False) False False False (fun a0 a1 _ => (fun f l => K (.fn f l) zm nx [] []) a0 a1) (fun _ _ => False) (fun _ _ => False) (fun _ _ _ => False) False () (fun _ _ _ _ => ()) () (fun _ _ _ _ _ _ _ _ => ()) (fun _ _ _ _ _ _ _ _ _ _ => ()) (evO tm x)
theorem z_nil_inv {x : Operand} (ho : o.op = .nilCheck x) (hwm : WFM P zm) (hws : WFS P tm) (h : z_nil tm x zm nx K) : ∃ v zm' nx' up rd e, ZStep P B o tm zm zm' nx nx' v up rd e ∧ K v zm' nx' up rd := by
  have hw := evO_wf hws x
  have hr := evO_toV P tm x
  unfold z_nil at h
  generalize evO tm x = y at h hw hr
  cases y with
  | ptr id p c => exact ⟨_, _, _, _, _, _, ZStep.pure hwm hw (by rw [hr]; exact sem_nilCheck ho (.inl ⟨_, _, _, hr.symm⟩)) noRd, h⟩
  | fn f l => exact ⟨_, _, _, _, _, _, ZStep.pure hwm hw (by rw [hr]; exact sem_nilCheck ho (.inr (.inr ⟨_, _, hr.symm⟩))) noRd, h⟩
  | _ => exact False.elim h


/-! ### Two values -/
def isShl (op : BinOp) : Bool := match op with | .shl => true | _ => false
def isShr (op : BinOp) : Bool := match op with | .shr => true | _ => false
def shN (k : IntKind) (m : Nat) : Nat := bRec (Nat.ble m (bitsF k)) m (bitsF k)
theorem shN_eq (k : IntKind) (m : Nat) : shN k m = min m k.bits := by
  unfold shN
  rw [bitsF_eq]
  cases h : Nat.ble m k.bits with
  | true => exact (Nat.min_eq_left (Nat.le_of_ble_eq_true h)).symm
  | false =>
    show k.bits = min m k.bits
    refine (Nat.min_eq_right ?_).symm
    rcases Nat.lt_or_ge k.bits m with h1 | h1
    · omega
    · rw [Nat.ble_eq_true_of_le h1] at h; cases h
def z_int (op : BinOp) (k : IntKind) (a : Int) (k1 : IntKind) (b : Int) (K : X → Prop) : Prop :=
  bRec (isShl op) (asNat b fun m => fI k (wrF k (mulI a (.ofNat (Nat.pow (nat_lit 2) (shN k m))))) K)
    (bRec (isShr op) (asNat b fun m => fI k (shrI a (shN k m)) K) (ifP (ikEq k k1) (zbin op k a b K)))
def boolEq (a b : Bool) : Bool := bRec a b (bRec b false true)
theorem boolEq_eq (a b : Bool) : boolEq a b = (a == b) := by cases a <;> cases b <;> rfl
def z_bool (op : BinOp) (a b : Bool) (K : X → Prop) : Prop := @BinOp.rec (fun _ => Prop) False False False False False False False False False False False (K (.bool (boolEq a b))) (K (.bool (bRec (boolEq a b) false true))) False False False False op
def isBoolK (k : TK) : Bool := @TK.rec (fun _ => Bool) (fun _ => false) true false (fun _ _ => false) (fun _ _ _ => false) (fun _ _ _ => false) false k
def z_sbool (op : BinOp) (a b : Bool) (K : X → Prop) : Prop := @BinOp.rec (fun _ => Prop) False False False False False False False False False False False (K (.sbool (a == b))) (K (.sbool (!(a == b)))) False False False False op
def boolK (x : X) (f g : Bool → Prop) : Prop := @X.rec (fun _ => Prop) (fun _ => Unit) (fun _ => Unit) (fun _ _ => False) (f) (fun _ _ => False) (g) (fun _ => False) (fun _ _ _ => False) (fun _ _ _ _ _ _ => False) (fun _ _ _ => False) (fun _ _ _ => False) (fun _ _ _ _ _ _ => False) False False False (fun _ _ _ => False) (fun _ _ => False) (fun _ _ => False) (fun _ _ _ => False) False () (fun _ _ _ _ => ()) () (fun _ _ _ _ _ _ _ _ => ()) (fun _ _ _ _ _ _ _ _ _ _ => ()) x
theorem boolK_inv {x : X} {f g : Bool → Prop} (h : boolK x f g) : (∃ b, x = .bool b ∧ f b) ∨ (∃ b, x = .sbool b ∧ g b) := by
  cases x <;> first | exact .inl ⟨_, rfl, h⟩ | exact .inr ⟨_, rfl, h⟩ | exact False.elim h
def sI (k k1 : IntKind) (n : Int) (K : X → Prop) : Prop := ifP (ikEq k k1) (K (.sint k n))
def sB (k k1 : IntKind) (b : Bool) (K : X → Prop) : Prop := ifP (ikEq k k1) (K (.sbool b))
/-- Two whole numbers that are not both worked out. -/
def z_sint (op : BinOp) (k : IntKind) (a : Int) (k1 : IntKind) (b : Int) (K : X → Prop) : Prop :=
  @BinOp.rec (fun _ => Prop) (sI k k1 (k.wrap (a + b)) K) (sI k k1 (k.wrap (a - b)) K) (sI k k1 (k.wrap (a * b)) K) (b ≠ 0 ∧ sI k k1 (k.wrap (a.tdiv b)) K) (b ≠ 0 ∧ sI k k1 (a.tmod b) K)
    (sI k k1 (k.wrap (BitVec.ofInt k.bits a &&& BitVec.ofInt k.bits b).toNat) K) (sI k k1 (k.wrap (BitVec.ofInt k.bits a ||| BitVec.ofInt k.bits b).toNat) K) (sI k k1 (k.wrap (BitVec.ofInt k.bits a ^^^ BitVec.ofInt k.bits b).toNat) K)
    (0 ≤ b ∧ K (.sint k (k.wrap (a * 2 ^ (min b.toNat k.bits))))) (0 ≤ b ∧ K (.sint k (a.fdiv (2 ^ (min b.toNat k.bits))))) (sI k k1 (k.wrap (BitVec.ofInt k.bits a &&& ~~~ BitVec.ofInt k.bits b).toNat) K)
    (sB k k1 (a == b) K) (sB k k1 (a != b) K) (sB k k1 (decide (a < b)) K) (sB k k1 (decide (a ≤ b)) K) (sB k k1 (decide (b < a)) K) (sB k k1 (decide (b ≤ a)) K) op
theorem z_sint_inv {op : BinOp} {t t1 : TypeId} {x y : Operand} {k k1 : IntKind} {a b : Int} {K : X → Prop} (ho : o.op = .binOp op t x y t1) (hx : rho P tm x = .int k a) (hy : rho P tm y = .int k1 b) (h : z_sint op k a k1 b K) :
    ∃ v, WF P v ∧ OpSem P B o (rho P tm) (zmem P zm) (num nx) (pureE (v.toV P)) ∧ K v := by
  have hI : ∀ {n : Int}, sI k k1 n K → bin op k a b = .int k n → binOk op b → ∃ v, WF P v ∧ OpSem P B o (rho P tm) (zmem P zm) (num nx) (pureE (v.toV P)) ∧ K v := by
    intro n h hb hok
    obtain ⟨h1, h2⟩ := ifP_inv h
    obtain rfl := ikEq_eq h1
    refine ⟨.sint k n, .lf rfl, ?_, h2⟩
    have := sem_bin (P := P) (B := B) (ρ := rho P tm) (m := zmem P zm) (n := num nx) ho hx hy hok
    rw [hb] at this; exact this
  have hB : ∀ {c : Bool}, sB k k1 c K → bin op k a b = .bool c → binOk op b → ∃ v, WF P v ∧ OpSem P B o (rho P tm) (zmem P zm) (num nx) (pureE (v.toV P)) ∧ K v := by
    intro n h hb hok
    obtain ⟨h1, h2⟩ := ifP_inv h
    obtain rfl := ikEq_eq h1
    refine ⟨.sbool n, .lf rfl, ?_, h2⟩
    have := sem_bin (P := P) (B := B) (ρ := rho P tm) (m := zmem P zm) (n := num nx) ho hx hy hok
    rw [hb] at this; exact this
  cases op
  case add => exact hI h rfl trivial
  case sub => exact hI h rfl trivial
  case mul => exact hI h rfl trivial
  case quo => have h' : b ≠ 0 ∧ _ := h; exact hI h'.2 rfl h'.1
  case rem => have h' : b ≠ 0 ∧ _ := h; exact hI h'.2 rfl h'.1
  case and => exact hI h rfl trivial
  case or => exact hI h rfl trivial
  case xor => exact hI h rfl trivial
  case andNot => exact hI h rfl trivial
  case shl =>
    have h' : 0 ≤ b ∧ K (.sint k (k.wrap (a * 2 ^ (min b.toNat k.bits)))) := h
    exact ⟨_, .lf rfl, sem_shift ho (.inl rfl) hx hy h'.1, h'.2⟩
  case shr =>
    have h' : 0 ≤ b ∧ K (.sint k (a.fdiv (2 ^ (min b.toNat k.bits)))) := h
    exact ⟨_, .lf rfl, sem_shift ho (.inr rfl) hx hy h'.1, h'.2⟩
  case eql => exact hB h rfl trivial
  case neq => exact hB h rfl trivial
  case lss => exact hB h rfl trivial
  case leq => exact hB h rfl trivial
  case gtr => exact hB h rfl trivial
  case geq => exact hB h rfl trivial
theorem z_sbool_inv (hT : TTok P T) {op : BinOp} {t t1 : TypeId} {x y : Operand} {a b : Bool} {K : X → Prop} (ho : o.op = .binOp op t x y t1) (hx : rho P tm x = .bool a) (hy : rho P tm y = .bool b) (h : tyK T t fun _ _ _ k => ifP (isBoolK k) (z_sbool op a b K)) :
    ∃ v, WF P v ∧ OpSem P B o (rho P tm) (zmem P zm) (num nx) (pureE (v.toV P)) ∧ K v := by
  obtain ⟨c, sc, z, k, ht, h2⟩ := tyK_inv hT h
  obtain ⟨hk, h3⟩ := ifP_inv h2
  cases k <;> first | (cases hk; done) | skip
  have hu : P.underlying t = some .bool := ht.k
  cases op <;> first | exact False.elim h3 | skip
  · exact ⟨_, .lf rfl, sem_eq_bool ho (.inl rfl) hx hy hu, h3⟩
  · exact ⟨_, .lf rfl, sem_eq_bool ho (.inr rfl) hx hy hu, h3⟩
def numK (x : X) (f g : IntKind → Int → Prop) : Prop := @X.rec (fun _ => Prop) (fun _ => Unit) (fun _ => Unit) (f) (fun _ => False) (g) (fun _ => False) (fun _ => False) (fun _ _ _ => False) (fun _ _ _ _ _ _ => False) (fun _ _ _ => False) (fun _ _ _ => False) (fun _ _ _ _ _ _ => False) False False False (fun _ _ _ => False) (fun _ _ => False) (fun _ _ => False) (fun _ _ _ => False) False () (fun _ _ _ _ => ()) () (fun _ _ _ _ _ _ _ _ => ()) (fun _ _ _ _ _ _ _ _ _ _ => ()) x
theorem numK_inv {x : X} {f g : IntKind → Int → Prop} (h : numK x f g) : (∃ k n, x = .int k n ∧ f k n) ∨ (∃ k n, x = .sint k n ∧ g k n) := by
  cases x <;> first | exact .inl ⟨_, _, rfl, h⟩ | exact .inr ⟨_, _, rfl, h⟩ | exact False.elim h

def z_bin (T : Tr TI) (tm : Tr X) (op : BinOp) (t : TypeId) (x y : Operand) (zm : Tr X) (nx : Pth) (K : KT) : Prop := @X.rec (fun _ => Prop) (fun _ => Unit) (fun _ => Unit) (fun k a => numK (evO tm y) (fun k1 b => z_int op k a k1 b (kk zm nx K)) (fun k1 b => z_sint op k a k1 b (kk zm nx K))) (fun a => boolK (evO tm y) (fun b => tyK T t fun _ _ _ k => ifP (isBoolK k) (z_bool op a b (kk zm nx K))) (fun b => tyK T t fun _ _ _ k => ifP (isBoolK k) (z_sbool op a b (kk zm nx K)))) (fun k a => numK (evO tm y) (fun k1 b => z_sint op k a k1 b (kk zm nx K)) (fun k1 b => z_sint op k a k1 b (kk zm nx K))) (fun a => boolK (evO tm y) (fun b => tyK T t fun _ _ _ k => ifP (isBoolK k) (z_sbool op a b (kk zm nx K))) (fun b => tyK T t fun _ _ _ k => ifP (isBoolK k) (z_sbool op a b (kk zm nx K)))) (fun _ => False) (fun _ _ _ => False) (fun _ _ _ _ _ _ => False) (fun _ _ _ => False) (fun _ _ _ => False) (fun _ _ _ _ _ _ => False) False False False (fun _ _ _ => False) (fun _ _ => False) (fun _ _ => False) (fun _ _ _ => False) False () (fun _ _ _ _ => ()) () (fun _ _ _ _ _ _ _ _ => ()) (fun _ _ _ _ _ _ _ _ _ _ => ()) (evO tm x)
theorem z_bin_inv (hT : TTok P T) {op : BinOp} {t t1 : TypeId} {x y : Operand} (ho : o.op = .binOp op t x y t1) (hwm : WFM P zm) (h : z_bin T tm op t x y zm nx K) : ∃ v zm' nx' up rd e, ZStep P B o tm zm zm' nx nx' v up rd e ∧ K v zm' nx' up rd := by
  have hr := evO_toV P tm x
  unfold z_bin at h
  generalize evO tm x = u at h hr
  cases u with
  | int k a =>
    have hrx : rho P tm x = .int k a := hr.symm
    rcases numK_inv (show numK (evO tm y) (fun k1 b => z_int op k a k1 b (kk zm nx K)) (fun k1 b => z_sint op k a k1 b (kk zm nx K)) from h) with ⟨k1, b, hy, h1⟩ | ⟨k1, b, hy, h1⟩
    rotate_left
    · have hry : rho P tm y = .int k1 b := by rw [← evO_toV, hy]; rfl
      obtain ⟨v, q1, q2, q3⟩ := z_sint_inv (zm := zm) (nx := nx) ho hrx hry h1
      exact ⟨_, _, _, _, _, _, ZStep.pure hwm (.one q1) q2 noRd, q3⟩
    have hry : rho P tm y = .int k1 b := by rw [← evO_toV, hy]; rfl
    unfold z_int at h1
    cases hs : isShl op with
    | true =>
      rw [hs] at h1
      have hop : op = .shl := by cases op <;> first | rfl | cases hs
      obtain ⟨h2, h3⟩ := asNat_inv (show asNat b _ from h1)
      rw [fI_eq, wrF_eq, mulI_eq, shN_eq] at h3
      refine ⟨_, _, _, _, _, _, ZStep.pure hwm (.one (.lf rfl)) ?_ noRd, h3⟩
      have := sem_shift (P := P) (B := B) (ρ := rho P tm) (m := zmem P zm) (n := num nx) ho (.inl hop) hrx hry h2
      subst hop
      have e : shift .shl k a b = (X.int k (k.wrap (a * Int.ofNat (Nat.pow 2 (min b.toNat k.bits))))).toV P := by
        simp only [shift, X.toV]
        congr 2
      rw [e] at this
      exact this
    | false =>
      rw [hs] at h1
      cases hs2 : isShr op with
      | true =>
        have h1' : asNat b (fun m => fI k (shrI a (shN k m)) (kk zm nx K)) := by
          have : bRec false _ (bRec (isShr op) _ _) := h1
          rw [hs2] at this; exact this
        have hop : op = .shr := by cases op <;> first | rfl | cases hs2
        obtain ⟨h2, h3⟩ := asNat_inv h1'
        rw [fI_eq, shrI_eq, shN_eq] at h3
        refine ⟨_, _, _, _, _, _, ZStep.pure hwm (.one (.lf rfl)) ?_ noRd, h3⟩
        have := sem_shift (P := P) (B := B) (ρ := rho P tm) (m := zmem P zm) (n := num nx) ho (.inr hop) hrx hry h2
        subst hop
        exact this
      | false =>
        have h1' : ifP (ikEq k k1) (zbin op k a b (kk zm nx K)) := by
          have : bRec false _ (bRec (isShr op) _ _) := h1
          rw [hs2] at this; exact this
        obtain ⟨h2, h3⟩ := ifP_inv h1'
        obtain rfl := ikEq_eq h2
        obtain ⟨h4, v, h5, h6, h7⟩ := zbin_inv (P := P) h3
        refine ⟨_, _, _, _, _, _, ZStep.pure hwm (.one h6) ?_ noRd, h7⟩
        rw [← h5]
        exact sem_bin ho hrx hry h4
  | sint k a =>
    have hrx : rho P tm x = .int k a := hr.symm
    rcases numK_inv (show numK (evO tm y) (fun k1 b => z_sint op k a k1 b (kk zm nx K)) (fun k1 b => z_sint op k a k1 b (kk zm nx K)) from h) with ⟨k1, b, hy, h1⟩ | ⟨k1, b, hy, h1⟩
    · have hry : rho P tm y = .int k1 b := by rw [← evO_toV, hy]; rfl
      obtain ⟨v, q1, q2, q3⟩ := z_sint_inv (zm := zm) (nx := nx) ho hrx hry h1
      exact ⟨_, _, _, _, _, _, ZStep.pure hwm (.one q1) q2 noRd, q3⟩
    · have hry : rho P tm y = .int k1 b := by rw [← evO_toV, hy]; rfl
      obtain ⟨v, q1, q2, q3⟩ := z_sint_inv (zm := zm) (nx := nx) ho hrx hry h1
      exact ⟨_, _, _, _, _, _, ZStep.pure hwm (.one q1) q2 noRd, q3⟩
  | bool a =>
    have hrx : rho P tm x = .bool a := hr.symm
    rcases boolK_inv (show boolK (evO tm y) (fun b => tyK T t fun _ _ _ k => ifP (isBoolK k) (z_bool op a b (kk zm nx K))) (fun b => tyK T t fun _ _ _ k => ifP (isBoolK k) (z_sbool op a b (kk zm nx K))) from h) with ⟨b, hy, h1⟩ | ⟨b, hy, h1⟩
    · obtain ⟨c, sc, z, k, ht, h2⟩ := tyK_inv hT h1
      obtain ⟨hk, h3⟩ := ifP_inv h2
      have hry : rho P tm y = .bool b := by rw [← evO_toV, hy]; rfl
      cases k <;> first | (cases hk; done) | skip
      have hu : P.underlying t = some .bool := ht.k
      cases op <;> first | exact False.elim h3 | skip
      · refine ⟨_, _, _, _, _, _, ZStep.pure (v := .bool (boolEq a b)) hwm (.one (.lf rfl)) ?_ noRd, h3⟩
        rw [boolEq_eq]
        exact sem_eq_bool ho (.inl rfl) hrx hry hu
      · refine ⟨_, _, _, _, _, _, ZStep.pure (v := .bool (bRec (boolEq a b) false true)) hwm (.one (.lf rfl)) ?_ noRd, h3⟩
        have e : bRec (boolEq a b) false true = !(a == b) := by cases a <;> cases b <;> rfl
        rw [e]
        exact sem_eq_bool ho (.inr rfl) hrx hry hu
    · have hry : rho P tm y = .bool b := by rw [← evO_toV, hy]; rfl
      obtain ⟨v, q1, q2, q3⟩ := z_sbool_inv (zm := zm) (nx := nx) hT ho hrx hry h1
      exact ⟨_, _, _, _, _, _, ZStep.pure hwm (.one q1) q2 noRd, q3⟩
  | sbool a =>
    have hrx : rho P tm x = .bool a := hr.symm
    rcases boolK_inv (show boolK (evO tm y) (fun b => tyK T t fun _ _ _ k => ifP (isBoolK k) (z_sbool op a b (kk zm nx K))) (fun b => tyK T t fun _ _ _ k => ifP (isBoolK k) (z_sbool op a b (kk zm nx K))) from h) with ⟨b, hy, h1⟩ | ⟨b, hy, h1⟩
    · have hry : rho P tm y = .bool b := by rw [← evO_toV, hy]; rfl
      obtain ⟨v, q1, q2, q3⟩ := z_sbool_inv (zm := zm) (nx := nx) hT ho hrx hry h1
      exact ⟨_, _, _, _, _, _, ZStep.pure hwm (.one q1) q2 noRd, q3⟩
    · have hry : rho P tm y = .bool b := by rw [← evO_toV, hy]; rfl
      obtain ⟨v, q1, q2, q3⟩ := z_sbool_inv (zm := zm) (nx := nx) hT ho hrx hry h1
      exact ⟨_, _, _, _, _, _, ZStep.pure hwm (.one q1) q2 noRd, q3⟩
  | _ => exact False.elim h

/-! ### One value -/
def notX (x : X) (K : X → Prop) : Prop := @X.rec (fun _ => Prop) (fun _ => Unit) (fun _ => Unit) (fun _ _ => False) (fun b => K (.bool (bRec b false true))) (fun _ _ => False) (fun b => K (.sbool (!b))) (fun _ => False) (fun _ _ _ => False) (fun _ _ _ _ _ _ => False) (fun _ _ _ => False) (fun _ _ _ => False) (fun _ _ _ _ _ _ => False) False False False (fun _ _ _ => False) (fun _ _ => False) (fun _ _ => False) (fun _ _ _ => False) False () (fun _ _ _ _ => ()) () (fun _ _ _ _ _ _ _ _ => ()) (fun _ _ _ _ _ _ _ _ _ _ => ()) x
def z_un (tm : Tr X) (op : UnOp) (x : Operand) (zm : Tr X) (nx : Pth) (K : KT) : Prop :=
  @UnOp.rec (fun _ => Prop) (numK (evO tm x) (fun k a => fI k (wrF k (subI (.ofNat (nat_lit 0)) a)) (kk zm nx K)) (fun k a => K (.sint k (k.wrap (0 - a))) zm nx [] [])) (numK (evO tm x) (fun k a => fI k (k.wrap (BitVec.ofInt k.bits (if k.signed then -1 else k.max) ^^^ BitVec.ofInt k.bits a).toNat) (kk zm nx K)) (fun k a => K (.sint k (k.wrap (BitVec.ofInt k.bits (if k.signed then -1 else k.max) ^^^ BitVec.ofInt k.bits a).toNat)) zm nx [] []))
    (notX (evO tm x) (kk zm nx K)) False op
theorem z_un_inv {op : UnOp} {t : TypeId} {x : Operand} (ho : o.op = .unOp op t x) (hwm : WFM P zm) (h : z_un tm op x zm nx K) : ∃ v zm' nx' up rd e, ZStep P B o tm zm zm' nx nx' v up rd e ∧ K v zm' nx' up rd := by
  cases op with
  | neg =>
    rcases numK_inv (show numK (evO tm x) _ _ from h) with ⟨k, a, hx, h1⟩ | ⟨k, a, hx, h1⟩
    · have hrx : rho P tm x = .int k a := by rw [← evO_toV, hx]; rfl
      rw [fI_eq, wrF_eq, subI_eq] at h1
      exact ⟨_, _, _, _, _, _, ZStep.pure hwm (.one (.lf rfl)) (sem_unary ho (.inl rfl) hrx) noRd, h1⟩
    · have hrx : rho P tm x = .int k a := by rw [← evO_toV, hx]; rfl
      exact ⟨_, _, _, _, _, _, ZStep.pure hwm (.one (.lf rfl)) (sem_unary ho (.inl rfl) hrx) noRd, h1⟩
  | xor =>
    rcases numK_inv (show numK (evO tm x) _ _ from h) with ⟨k, a, hx, h1⟩ | ⟨k, a, hx, h1⟩
    · have hrx : rho P tm x = .int k a := by rw [← evO_toV, hx]; rfl
      rw [fI_eq] at h1
      exact ⟨_, _, _, _, _, _, ZStep.pure hwm (.one (.lf rfl)) (sem_unary ho (.inr rfl) hrx) noRd, h1⟩
    · have hrx : rho P tm x = .int k a := by rw [← evO_toV, hx]; rfl
      exact ⟨_, _, _, _, _, _, ZStep.pure hwm (.one (.lf rfl)) (sem_unary ho (.inr rfl) hrx) noRd, h1⟩
  | not =>
    have h0 : notX (evO tm x) (kk zm nx K) := h
    have hr := evO_toV P tm x
    unfold notX at h0
    generalize evO tm x = u at h0 hr
    cases u with
    | bool b =>
      refine ⟨_, _, _, _, _, _, ZStep.pure (v := .bool (bRec b false true)) hwm (.one (.lf rfl)) ?_ noRd, h0⟩
      have e : bRec b false true = !b := by cases b <;> rfl
      rw [e]
      exact sem_not ho hr.symm
    | sbool b => exact ⟨_, _, _, _, _, _, ZStep.pure (v := .sbool (!b)) hwm (.one (.lf rfl)) (sem_not ho hr.symm) noRd, h0⟩
    | _ => exact False.elim h0
  | plus => exact False.elim h
def intK (k : TK) (f : IntKind → Prop) : Prop := @TK.rec (fun _ => Prop) f False False (fun _ _ => False) (fun _ _ _ => False) (fun _ _ _ => False) False k
theorem intK_inv {k : TK} {f : IntKind → Prop} (h : intK k f) : ∃ i, k = .int i ∧ f i := by cases k <;> first | exact ⟨_, rfl, h⟩ | exact False.elim h
def z_conv (T : Tr TI) (tm : Tr X) (src dst : TypeId) (x : Operand) (zm : Tr X) (nx : Pth) (K : KT) : Prop :=
  tyK T src fun _ _ _ _ => tyK T dst fun _ _ _ k => intK k fun k => numK (evO tm x) (fun _ a => fI k (wrF k a) (kk zm nx K)) (fun _ a => K (.sint k (k.wrap a)) zm nx [] [])
theorem z_conv_inv (hT : TTok P T) {src dst : TypeId} {x : Operand} (ho : o.op = .convert src dst x) (hwm : WFM P zm) (h : z_conv T tm src dst x zm nx K) : ∃ v zm' nx' up rd e, ZStep P B o tm zm zm' nx nx' v up rd e ∧ K v zm' nx' up rd := by
  obtain ⟨_, _, _, _, hs, h2⟩ := tyK_inv hT h
  obtain ⟨_, _, _, k, hd, h3⟩ := tyK_inv hT h2
  obtain ⟨k, rfl, h4⟩ := intK_inv h3
  obtain ⟨u, hu⟩ := hs.un
  rcases numK_inv h4 with ⟨k0, a, hx, h1⟩ | ⟨k0, a, hx, h1⟩
  · have hrx : rho P tm x = .int k0 a := by rw [← evO_toV, hx]; rfl
    rw [fI_eq, wrF_eq] at h1
    exact ⟨_, _, _, _, _, _, ZStep.pure hwm (.one (.lf rfl)) (sem_conv ho hrx hd.k (by rw [hu]; rfl)) noRd, h1⟩
  · have hrx : rho P tm x = .int k0 a := by rw [← evO_toV, hx]; rfl
    exact ⟨_, _, _, _, _, _, ZStep.pure hwm (.one (.lf rfl)) (sem_conv ho hrx hd.k (by rw [hu]; rfl)) noRd, h1⟩

/-! ### Places -/
def snoc (p : List Step) (s : Step) : List Step := @List.rec Step (fun _ => List Step) [s] (fun x _ ih => x :: ih) p
theorem snoc_eq (p : List Step) (s : Step) : snoc p s = p ++ [s] := by
  induction p with
  | nil => rfl
  | cons x p ih => show x :: snoc p s = x :: (p ++ [s]); rw [ih]
def fsnoc (p : List Step) (s : Step) (f : List Step → Prop) : Prop := @List.rec Step (fun _ => (List Step → Prop) → Prop) (fun f => f [s]) (fun x _ ih f => ih fun l => f (x :: l)) p f
theorem fsnoc_eq (p : List Step) (s : Step) (f : List Step → Prop) : fsnoc p s f = f (p ++ [s]) := by
  induction p generalizing f with
  | nil => rfl
  | cons x p ih => exact ih fun l => f (x :: l)
def structK (k : TK) (f : List Nat → Prop) : Prop := @TK.rec (fun _ => Prop) (fun _ => False) False False (fun l _ => f l) (fun _ _ _ => False) (fun _ _ _ => False) False k
theorem structK_inv {k : TK} {f : List Nat → Prop} (h : structK k f) : ∃ l m, k = .struct l m ∧ f l := by cases k <;> first | exact ⟨_, _, rfl, h⟩ | exact False.elim h
def nthN (l : List Nat) : Nat → (Nat → Prop) → Prop := @List.rec Nat (fun _ => Nat → (Nat → Prop) → Prop) (fun _ _ => False) (fun x _ ih k f => @Nat.rec (fun _ => Prop) (f x) (fun k _ => ih k f) k) l
theorem nthN_inv : ∀ {l : List Nat} {k : Nat} {f : Nat → Prop}, nthN l k f → ∃ x, l[k]? = some x ∧ f x
  | [], k, f, h => False.elim h
  | x :: l, 0, f, h => ⟨x, rfl, h⟩
  | x :: l, k + 1, f, h => by
    obtain ⟨y, h1, h2⟩ := nthN_inv (l := l) h
    exact ⟨y, by simpa using h1, h2⟩
def z_field (T : Tr TI) (tm : Tr X) (t : TypeId) (x : Operand) (i : Nat) (zm : Tr X) (nx : Pth) (K : KT) : Prop :=
  asPtr (evO tm x) fun id p c => tyK T t fun c1 _ _ k => ifP (Nat.beq c c1) (structK k fun l => nthN l i fun ci => fsnoc p (.fld i) fun p => K (.ptr id p ci) zm nx [] [])
theorem z_field_inv (hT : TTok P T) {t : TypeId} {x : Operand} {i : Nat} (ho : o.op = .fieldAddr t x i) (hwm : WFM P zm) (h : z_field T tm t x i zm nx K) : ∃ v zm' nx' up rd e, ZStep P B o tm zm zm' nx nx' v up rd e ∧ K v zm' nx' up rd := by
  obtain ⟨id, p, c, hx, h1⟩ := asPtr_inv h
  obtain ⟨c1, _, _, k, ht, h2⟩ := tyK_inv hT h1
  obtain ⟨hc, h3⟩ := ifP_inv h2
  obtain ⟨l, m, rfl, h4⟩ := structK_inv h3
  obtain ⟨ci, hci, h5⟩ := nthN_inv h4
  rw [fsnoc_eq] at h5
  have hc' := nbeq hc
  obtain ⟨pl, _, hpl⟩ := ht.k
  obtain ⟨d, hd, hsf, _⟩ := hpl i ci hci
  rw [← hc'] at hsf
  have hrx : rho P tm x = .ptr (num id) p (shOf P c) := by rw [← evO_toV, hx]; rfl
  refine ⟨_, _, _, _, _, _, ZStep.pure (v := .ptr id (p ++ [.fld i]) ci) hwm (.one (.lf rfl)) ?_ noRd, h5⟩
  unfold fdAt at hd
  split at hd
  · rename_i fs hu
    split at hd
    · rename_i fd hf
      split at hd
      · rename_i inf hi
        split at hd
        · cases hd
        · rename_i hz
          simp only [Option.some.injEq] at hd
          subst hd
          exact sem_fieldAddr ho hrx hu hf hi hz hsf
      · cases hd
    · cases hd
  · cases hd

def z_idxP (e n : Nat) (m : Nat) (c c1 : Nat) (id : Pth) (p : List Step) (zm : Tr X) (nx : Pth) (K : KT) : Prop := ifP (Nat.beq c c1) (ifP (Nat.ble (Nat.succ m) n) (fsnoc p (.idx m) fun p => K (.ptr id p e) zm nx [] []))
def z_idxS (x : X) (e : Nat) (m : Nat) (zm : Tr X) (nx : Pth) (K : KT) : Prop := @X.rec (fun _ => Prop) (fun _ => Unit) (fun _ => Unit) (fun _ _ => False) (fun _ => False) (fun _ _ => False) (fun _ => False) (fun _ => False) (fun _ _ _ => False) (fun _ _ _ _ _ _ => False) (fun _ _ _ => False) (fun id ce n => ifP (Nat.beq ce e) (ifP (Nat.ble (Nat.succ m) n) (blkV (get .unk id zm) fun _ => K (.ptr id [.idx m] e) zm nx [] [id]))) (fun id p ce off len _ => ifP (Nat.beq ce e) (ifP (Nat.ble (Nat.succ m) len) (forceN (Nat.add off m) fun i => fsnoc p (.idx i) fun p => K (.ptr id p e) zm nx [] []))) False False False (fun _ _ _ => False) (fun _ _ => False) (fun _ _ => False) (fun _ _ _ => False) False () (fun _ _ _ _ => ()) () (fun _ _ _ _ _ _ _ _ => ()) (fun _ _ _ _ _ _ _ _ _ _ => ()) x
def z_index (T : Tr TI) (tm : Tr X) (t : TypeId) (x ix : Operand) (zm : Tr X) (nx : Pth) (K : KT) : Prop :=
  asInt (evO tm ix) fun _ j => asNat j fun m => tyK T t fun c1 _ _ k =>
    @TK.rec (fun _ => Prop) (fun _ => False) False False (fun _ _ => False) (fun n e _ => asPtr (evO tm x) fun id p c => z_idxP e n m c c1 id p zm nx K) (fun e _ _ => z_idxS (evO tm x) e m zm nx K) False k
theorem ble_lt {m n : Nat} (h : Nat.ble (Nat.succ m) n = true) : m < n := Nat.le_of_ble_eq_true h
theorem iaAt_spec {t : TypeId} {n : Nat} {e : Shape} (h : iaAt P t n e = true) : ∃ el i, P.underlying t = some (.array n el) ∧ P.info? el = some i ∧ i.size = e.size := by
  unfold iaAt at h
  split at h
  · rename_i k el hu
    simp only [Bool.and_eq_true, beq_iff_eq] at h
    obtain ⟨rfl, h2⟩ := h
    split at h2
    · rename_i i hi; exact ⟨el, i, hu, hi, by simpa using h2⟩
    · cases h2
  · cases h
theorem ixAt_spec {t : TypeId} {e : Shape} (h : ixAt P t e = true) : ∃ el i, P.underlying t = some (.slice el) ∧ P.info? el = some i ∧ i.size = e.size := by
  unfold ixAt at h
  split at h
  · rename_i el hu
    split at h
    · rename_i i hi; exact ⟨el, i, hu, hi, by simpa using h⟩
    · cases h
  · cases h
theorem z_index_inv (hT : TTok P T) {t : TypeId} {x ix : Operand} (ho : o.op = .indexAddr t x ix) (hwm : WFM P zm) (h : z_index T tm t x ix zm nx K) : ∃ v zm' nx' up rd e, ZStep P B o tm zm zm' nx nx' v up rd e ∧ K v zm' nx' up rd := by
  obtain ⟨ki, j, hj, h1⟩ := asInt_inv h
  obtain ⟨hj0, h2⟩ := asNat_inv h1
  obtain ⟨c1, sc, z, k, ht, h3⟩ := tyK_inv hT h2
  have hri : rho P tm ix = .int ki j := by rw [← evO_toV, hj]; rfl
  cases k with
  | array n e te =>
    obtain ⟨id, p, c, hx, h4⟩ := asPtr_inv (show asPtr (evO tm x) (fun id p c => z_idxP e n j.toNat c c1 id p zm nx K) from h3)
    obtain ⟨hc, h5⟩ := ifP_inv h4
    obtain ⟨hb, h6⟩ := ifP_inv h5
    rw [fsnoc_eq] at h6
    have hc' := nbeq hc
    obtain ⟨hia, hsh, _⟩ := ht.k
    obtain ⟨el, i, hu, hi, hz⟩ := iaAt_spec hia
    have hrx : rho P tm x = .ptr (num id) p (.arr n (shOf P e)) := by rw [← evO_toV, hx, ← hsh, ← hc']; rfl
    have hlt := ble_lt hb
    exact ⟨_, _, _, _, _, _, ZStep.pure (v := .ptr id (p ++ [.idx j.toNat]) e) hwm (.one (.lf rfl)) (sem_indexAddr_array ho hrx hri hu hi hz ⟨hj0, by omega⟩) noRd, h6⟩
  | slice e te sz =>
    have h4 : z_idxS (evO tm x) e j.toNat zm nx K := h3
    have hr := evO_toV P tm x
    obtain ⟨hix, hu0, _⟩ := ht.k
    obtain ⟨el, i, hu, hi, hz⟩ := ixAt_spec hix
    unfold z_idxS at h4
    generalize evO tm x = y at h4 hr
    cases y with
    | row id ce n =>
      obtain ⟨hc, h5⟩ := ifP_inv (show ifP (Nat.beq ce e) _ from h4)
      obtain ⟨hb, h6⟩ := ifP_inv h5
      obtain ⟨v, b, hblk, hal, _, _, _, h7⟩ := blkV_inv (P := P) h6
      have hc' := nbeq hc
      have hrx : rho P tm x = .row (num id) (shOf P e) n := by rw [← hr, ← hc']; rfl
      have hm : zmem P zm (num id) = some b := by rw [zmem_num]; exact hblk
      have hlt := ble_lt hb
      exact ⟨_, _, _, _, _, _, ZStep.pure (v := .ptr id [.idx j.toNat] e) (rd := [id]) hwm (.one (.lf rfl)) (sem_indexAddr_row ho hrx hri hm hal hu hi hz ⟨hj0, by omega⟩) (by intro i hi; simp only [List.mem_singleton] at hi; subst hi; exact ⟨b, hm⟩), h7⟩
    | sl id p ce off len cap =>
      obtain ⟨hc, h5⟩ := ifP_inv (show ifP (Nat.beq ce e) _ from h4)
      obtain ⟨hb, h6⟩ := ifP_inv h5
      rw [forceN_eq, fsnoc_eq] at h6
      have hc' := nbeq hc
      have hrx : rho P tm x = .sl (num id) p (shOf P e) off len cap := by rw [← hr, ← hc']; rfl
      have hlt := ble_lt hb
      exact ⟨_, _, _, _, _, _, ZStep.pure (v := .ptr id (p ++ [.idx (off + j.toNat)]) e) hwm (.one (.lf rfl)) (sem_indexAddr_sl ho hrx hri hu hi hz ⟨hj0, by omega⟩) noRd, h6⟩
    | _ => exact False.elim h4
  | _ => exact False.elim h3

/-! ### Tuples, functions, lengths -/
def nthK (l : List X) : Nat → (X → Prop) → Prop := @List.rec X (fun _ => Nat → (X → Prop) → Prop) (fun _ _ => False) (fun x _ ih k f => @Nat.rec (fun _ => Prop) (f x) (fun k _ => ih k f) k) l
theorem nthK_inv (P : Program) : ∀ {l : List X} {k : Nat} {f : X → Prop}, nthK l k f → ∃ x, x ∈ l ∧ V.nth (X.toVL P l) k = some (x.toV P) ∧ f x
  | [], k, f, h => False.elim h
  | x :: l, 0, f, h => ⟨x, by simp, rfl, h⟩
  | x :: l, k + 1, f, h => by
    obtain ⟨y, h1, h2, h3⟩ := nthK_inv P (l := l) h
    exact ⟨y, List.mem_cons_of_mem _ h1, h2, h3⟩
def z_extract (tm : Tr X) (x : Operand) (k : Nat) (zm : Tr X) (nx : Pth) (K : KT) : Prop := asTup (evO tm x) fun l => nthK l k fun v => fX v fun v => K v zm nx [] []
theorem z_extract_inv {x : Operand} {k : Nat} (ho : o.op = .extract x k) (hwm : WFM P zm) (hws : WFS P tm) (h : z_extract tm x k zm nx K) : ∃ v zm' nx' up rd e, ZStep P B o tm zm zm' nx nx' v up rd e ∧ K v zm' nx' up rd := by
  obtain ⟨l, hx, h1⟩ := asTup_inv h
  obtain ⟨v, hm, hn, h2⟩ := nthK_inv P h1
  rw [fX_eq] at h2
  have hw := evO_wf hws x
  rw [hx] at hw
  have hv : WF P v := by
    cases hw with
    | one h => exact absurd h.plain (by simp [X.plain])
    | tup h => exact h v hm
  have hrx : rho P tm x = .tup (X.toVL P l) := by rw [← evO_toV, hx]; rfl
  exact ⟨_, _, _, _, _, _, ZStep.pure hwm (.one hv) (sem_extract ho hrx hn) noRd, h2⟩
def evL (tm : Tr X) (l : List Operand) : List X := @List.rec Operand (fun _ => List X) [] (fun o _ ih => evO tm o :: ih) l
def fevL (tm : Tr X) (l : List Operand) : (List X → Prop) → Prop := @List.rec Operand (fun _ => (List X → Prop) → Prop) (fun f => f []) (fun o _ ih f => fXp (evO tm o) fun x => ih fun l => f (x :: l)) l
theorem fevL_inv {P : Program} {tm : Tr X} (hws : WFS P tm) : ∀ {l : List Operand} {f : List X → Prop}, fevL tm l f → (∀ y ∈ evL tm l, WF P y) ∧ f (evL tm l)
  | [], f, h => ⟨(by intro y hy; cases hy), h⟩
  | o :: l, f, h => by
    obtain ⟨h1, h2⟩ := fXp_inv (show fXp (evO tm o) (fun x => fevL tm l fun l => f (x :: l)) from h)
    obtain ⟨h3, h4⟩ := fevL_inv hws (l := l) h2
    refine ⟨fun y hy => ?_, h4⟩
    rcases List.mem_cons.1 (show y ∈ evO tm o :: evL tm l from hy) with rfl | hy
    · exact (evO_wf hws o).wf fun l e => by rw [e] at h1; cases h1
    · exact h3 y hy
theorem evL_toV (P : Program) (tm : Tr X) : ∀ (l : List Operand), X.toVL P (evL tm l) = mkL (l.map (rho P tm))
  | [] => rfl
  | o :: l => by
    show V.cons ((evO tm o).toV P) (X.toVL P (evL tm l)) = V.cons _ _
    rw [evO_toV, evL_toV P tm l]
def fnK (f : Fn) (g : FuncId → Prop) : Prop := @Fn.rec (fun _ => Prop) g (fun _ => False) (fun _ _ => False) (fun _ _ _ _ => False) (fun _ => False) f
theorem fnK_inv {f : Fn} {g : FuncId → Prop} (h : fnK f g) : ∃ i, f = .func i ∧ g i := by cases f <;> first | exact ⟨_, rfl, h⟩ | exact False.elim h
def nilL (l : List Operand) (p : Prop) : Prop := @List.rec Operand (fun _ => Prop) p (fun _ _ _ => False) l
theorem nilL_inv {l : List Operand} {p : Prop} (h : nilL l p) : l = [] ∧ p := by cases l <;> first | exact ⟨rfl, h⟩ | exact False.elim h
def z_makeFunc (tm : Tr X) (f : Fn) (first cap : Array Operand) (zm : Tr X) (nx : Pth) (K : KT) : Prop := fnK f fun i => nilL first.toList (fevL tm cap.toList fun l => K (.fn i l) zm nx [] [])
theorem z_makeFunc_inv {f : Fn} {first cap : Array Operand} (ho : o.op = .makeFunc f first cap) (hwm : WFM P zm) (hws : WFS P tm) (h : z_makeFunc tm f first cap zm nx K) : ∃ v zm' nx' up rd e, ZStep P B o tm zm zm' nx nx' v up rd e ∧ K v zm' nx' up rd := by
  obtain ⟨i, rfl, h1⟩ := fnK_inv h
  obtain ⟨h2, h3⟩ := nilL_inv h1
  obtain ⟨h4, h5⟩ := fevL_inv hws h3
  have hf : first = #[] := by obtain ⟨l⟩ := first; simpa using h2
  subst hf
  refine ⟨_, _, _, _, _, _, ZStep.pure (v := .fn i (evL tm cap.toList)) hwm (.one (.fn h4)) ?_ noRd, h5⟩
  show OpSem P B o (rho P tm) (zmem P zm) (num nx) ⟨.fn i (X.toVL P (evL tm cap.toList)), [], [], []⟩
  rw [evL_toV]
  exact sem_makeFunc ho

def lenX (x : X) (f : Nat → Prop) : Prop := @X.rec (fun _ => Prop) (fun _ => Unit) (fun _ => Unit) (fun _ _ => False) (fun _ => False) (fun _ _ => False) (fun _ => False) (fun _ => False) (fun _ _ _ => False) (fun _ _ _ _ _ _ => False) (fun _ _ _ => False) (fun _ _ n => f n) (fun _ _ _ _ n _ => f n) False (f (nat_lit 0)) False (fun _ _ _ => False) (fun _ _ => False) (fun _ _ => False) (fun _ _ _ => False) False () (fun _ _ _ _ => ()) () (fun _ _ _ _ _ _ _ _ => ()) (fun _ _ _ _ _ _ _ _ _ _ => ()) x
def strX (x : X) (f : ByteArray → Prop) : Prop := @X.rec (fun _ => Prop) (fun _ => Unit) (fun _ => Unit) (fun _ _ => False) (fun _ => False) (fun _ _ => False) (fun _ => False) (f) (fun _ _ _ => False) (fun _ _ _ _ _ _ => False) (fun _ _ _ => False) (fun _ _ _ => False) (fun _ _ _ _ _ _ => False) False False False (fun _ _ _ => False) (fun _ _ => False) (fun _ _ => False) (fun _ _ _ => False) False () (fun _ _ _ _ => ()) () (fun _ _ _ _ _ _ _ _ => ()) (fun _ _ _ _ _ _ _ _ _ _ => ()) x
theorem strX_inv {x : X} {f : ByteArray → Prop} (h : strX x f) : ∃ s, x = .str s ∧ f s := by cases x <;> first | exact ⟨_, rfl, h⟩ | exact False.elim h
def z_len (T : Tr TI) (tm : Tr X) (t : TypeId) (x : Operand) (zm : Tr X) (nx : Pth) (K : KT) : Prop :=
  tyK T t fun _ _ _ k => @TK.rec (fun _ => Prop) (fun _ => False) False (strX (evO tm x) fun s => forceN s.size fun n => K (.int .i64 (.ofNat n)) zm nx [] []) (fun _ _ => False) (fun n _ _ => K (.int .i64 (.ofNat n)) zm nx [] [])
    (fun _ _ _ => lenX (evO tm x) fun n => K (.int .i64 (.ofNat n)) zm nx [] []) False k
theorem z_len_inv (hT : TTok P T) {t : TypeId} {x : Operand} (ho : o.op = .call { callee := .builtin .len, args := #[x], argTypes := #[t] }) (hwm : WFM P zm) (h : z_len T tm t x zm nx K) : ∃ v zm' nx' up rd e, ZStep P B o tm zm zm' nx nx' v up rd e ∧ K v zm' nx' up rd := by
  obtain ⟨c, sc, z, k, ht, h1⟩ := tyK_inv hT h
  cases k with
  | str =>
    obtain ⟨s, hs, h2⟩ := strX_inv (show strX (evO tm x) _ from h1)
    rw [forceN_eq] at h2
    have hrx : rho P tm x = .str s := by rw [← evO_toV, hs]; rfl
    exact ⟨_, _, _, _, _, _, ZStep.pure hwm (.one (.lf rfl)) (sem_len_str ho hrx ht.k) noRd, h2⟩
  | array n e te =>
    obtain ⟨el, i, hu, _⟩ := iaAt_spec ht.k.1
    exact ⟨_, _, _, _, _, _, ZStep.pure (v := .int .i64 (.ofNat n)) hwm (.one (.lf rfl)) (sem_len_arr ho hu) noRd, h1⟩
  | slice e te sz =>
    have hr := evO_toV P tm x
    have h2 : lenX (evO tm x) (fun n => K (.int .i64 (.ofNat n)) zm nx [] []) := h1
    unfold lenX at h2
    generalize evO tm x = y at h2 hr
    have fin : ∀ n, (rho P tm x).len = some n → K (.int .i64 (.ofNat n)) zm nx [] [] → ∃ v zm' nx' up rd e, ZStep P B o tm zm zm' nx nx' v up rd e ∧ K v zm' nx' up rd := fun n hl hk =>
      ⟨_, _, _, _, _, _, ZStep.pure (v := .int .i64 (.ofNat n)) hwm (.one (.lf rfl)) (sem_len ho hl ht.k.2.1) noRd, hk⟩
    cases y with
    | row id ce n => exact fin n (by rw [← hr]; rfl) h2
    | sl id p ce off n cap => exact fin n (by rw [← hr]; rfl) h2
    | nils => exact fin 0 (by rw [← hr]; rfl) h2
    | _ => exact False.elim h2
  | _ => exact False.elim h1

end
end
end Go.Ab
