/- Arithmetic that the kernel carries out quickly. No condition. -/
import Derived.Test.YtkjoldifiniliaaZ2
set_option linter.unusedVariables false
set_option linter.unusedSimpArgs false
namespace Go.Ab
open Go.RowKit
noncomputable section

def iRec {α : Type} (n : Int) (f g : Nat → α) : α := @Int.rec (fun _ => α) f g n
def bRec {α : Type} (b : Bool) (t f : α) : α := @Bool.rec (fun _ => α) f t b
def ikRec {α : Type} (k : IntKind) (a b c d e f g h : α) : α := @IntKind.rec (fun _ => α) a b c d e f g h k
def ikEq (k l : IntKind) : Bool :=
  ikRec k (ikRec l true false false false false false false false) (ikRec l false true false false false false false false) (ikRec l false false true false false false false false) (ikRec l false false false true false false false false)
    (ikRec l false false false false true false false false) (ikRec l false false false false false true false false) (ikRec l false false false false false false true false) (ikRec l false false false false false false false true)
theorem ikEq_eq {k l : IntKind} (h : ikEq k l = true) : k = l := by cases k <;> cases l <;> first | rfl | cases h
def bitsF (k : IntKind) : Nat := ikRec k (nat_lit 8) (nat_lit 16) (nat_lit 32) (nat_lit 64) (nat_lit 8) (nat_lit 16) (nat_lit 32) (nat_lit 64)
theorem bitsF_eq (k : IntKind) : bitsF k = k.bits := by cases k <;> rfl

def forceN (m : Nat) (f : Nat → Prop) : Prop := @Nat.rec (fun _ => Prop) (f (nat_lit 0)) (fun p _ => f (Nat.succ p)) m
theorem forceN_eq (m : Nat) (f : Nat → Prop) : forceN m f = f m := by cases m <;> rfl
def forceI (n : Int) (f : Int → Prop) : Prop := iRec n (fun m => forceN m fun m => f (.ofNat m)) (fun m => forceN m fun m => f (.negSucc m))
theorem forceI_eq (n : Int) (f : Int → Prop) : forceI n f = f n := by
  cases n with
  | ofNat m => exact forceN_eq m fun m => f (.ofNat m)
  | negSucc m => exact forceN_eq m fun m => f (.negSucc m)

def addI (a b : Int) : Int := iRec a (fun m => iRec b (fun n => .ofNat (Nat.add m n)) (fun n => a + b)) (fun m => a + b)
theorem addI_eq (a b : Int) : addI a b = a + b := by cases a <;> cases b <;> rfl
def subN (m n : Nat) : Int := @Nat.rec (fun _ => Int) (.ofNat (Nat.sub m n)) (fun k _ => .negSucc k) (Nat.sub n m)
theorem subN_eq (m n : Nat) : subN m n = Int.subNatNat m n := by
  show subN m n = (match n - m with | 0 => .ofNat (m - n) | .succ k => .negSucc k)
  unfold subN
  show @Nat.rec (fun _ => Int) (.ofNat (m - n)) (fun k _ => .negSucc k) (n - m) = _
  cases n - m <;> rfl
def subI (a b : Int) : Int := iRec a (fun m => iRec b (fun n => subN m n) (fun n => a - b)) (fun m => a - b)
theorem subI_eq (a b : Int) : subI a b = a - b := by
  cases a with
  | negSucc m => rfl
  | ofNat m =>
    cases b with
    | negSucc n => rfl
    | ofNat n =>
      show subN m n = _
      rw [subN_eq]
      exact Int.subNatNat_eq_coe
def mulI (a b : Int) : Int := iRec a (fun m => iRec b (fun n => .ofNat (Nat.mul m n)) (fun n => a * b)) (fun m => a * b)
theorem mulI_eq (a b : Int) : mulI a b = a * b := by cases a <;> cases b <;> rfl
def quoI (a b : Int) : Int := iRec a (fun m => iRec b (fun n => .ofNat (Nat.div m n)) (fun n => a.tdiv b)) (fun m => a.tdiv b)
theorem quoI_eq (a b : Int) : quoI a b = a.tdiv b := by cases a <;> cases b <;> rfl
def remI (a b : Int) : Int := iRec a (fun m => iRec b (fun n => .ofNat (Nat.mod m n)) (fun n => a.tmod b)) (fun m => a.tmod b)
theorem remI_eq (a b : Int) : remI a b = a.tmod b := by cases a <;> cases b <;> rfl
def shrI (a : Int) (n : Nat) : Int := iRec a (fun m => .ofNat (Nat.div m (Nat.pow (nat_lit 2) n))) (fun m => a.fdiv ((2 : Nat) ^ n : Nat))
theorem shrI_eq (a : Int) (n : Nat) : shrI a n = a.fdiv (2 ^ n) := by
  have : ((2 ^ n : Nat) : Int) = (2 : Int) ^ n := by simp
  rw [← this]
  cases a with
  | ofNat m => exact (Int.ofNat_fdiv m (2 ^ n)).symm ▸ rfl
  | negSucc m => rfl
def ltI (a b : Int) : Bool := iRec a (fun m => iRec b (fun n => Nat.ble (Nat.succ m) n) (fun n => decide (a < b))) (fun m => decide (a < b))
theorem ltI_eq (a b : Int) : ltI a b = decide (a < b) := by
  cases a with
  | negSucc m => rfl
  | ofNat m =>
    cases b with
    | negSucc n => rfl
    | ofNat n =>
      show Nat.ble (m + 1) n = _
      rw [Bool.eq_iff_iff, Nat.ble_eq, decide_eq_true_eq]
      show _ ↔ (m : Int) < n
      omega
def eqI (a b : Int) : Bool := iRec a (fun m => iRec b (fun n => Nat.beq m n) (fun n => decide (a = b))) (fun m => decide (a = b))
theorem eqI_eq (a b : Int) : eqI a b = decide (a = b) := by
  cases a with
  | negSucc m => rfl
  | ofNat m =>
    cases b with
    | negSucc n => rfl
    | ofNat n =>
      show Nat.beq m n = _
      rw [Bool.eq_iff_iff, Nat.beq_eq, decide_eq_true_eq]
      show _ ↔ (m : Int) = n
      omega

def wrS (w : IntKind → Int → Int) (lim : Nat) (k : IntKind) (m : Nat) : Int := bRec (Nat.ble (Nat.succ m) lim) (.ofNat m) (w k (.ofNat m))
def wrN (w : IntKind → Int → Int) (lim : Nat) (k : IntKind) (m : Nat) : Int := bRec (Nat.ble (Nat.succ m) lim) (.negSucc m) (w k (.negSucc m))
def wrP (w : IntKind → Int → Int) (k : IntKind) (m : Nat) : Int := ikRec k (wrS w (nat_lit 128) .i8 m) (wrS w (nat_lit 32768) .i16 m) (wrS w (nat_lit 2147483648) .i32 m) (wrS w (nat_lit 9223372036854775808) .i64 m) (.ofNat (Nat.mod m (nat_lit 256))) (.ofNat (Nat.mod m (nat_lit 65536))) (.ofNat (Nat.mod m (nat_lit 4294967296))) (.ofNat (Nat.mod m (nat_lit 18446744073709551616)))
def wrQ (w : IntKind → Int → Int) (k : IntKind) (m : Nat) : Int := ikRec k (wrN w (nat_lit 128) .i8 m) (wrN w (nat_lit 32768) .i16 m) (wrN w (nat_lit 2147483648) .i32 m) (wrN w (nat_lit 9223372036854775808) .i64 m) (w k (.negSucc m)) (w k (.negSucc m)) (w k (.negSucc m)) (w k (.negSucc m))
def wrG (w : IntKind → Int → Int) (k : IntKind) (n : Int) : Int := iRec n (wrP w k) (wrQ w k)
def wrF (k : IntKind) (n : Int) : Int := wrG IntKind.wrap k n
theorem wrS_eq {w : IntKind → Int → Int} (lim : Nat) (k : IntKind) (m : Nat) (h : m < lim → w k (Int.ofNat m) = Int.ofNat m) : wrS w lim k m = w k (.ofNat m) := by
  unfold wrS
  cases hb : Nat.ble (Nat.succ m) lim with
  | false => rfl
  | true => exact (h (Nat.le_of_ble_eq_true hb)).symm
theorem wrN_eq {w : IntKind → Int → Int} (lim : Nat) (k : IntKind) (m : Nat) (h : m < lim → w k (Int.negSucc m) = Int.negSucc m) : wrN w lim k m = w k (.negSucc m) := by
  unfold wrN
  cases hb : Nat.ble (Nat.succ m) lim with
  | false => rfl
  | true => exact (h (Nat.le_of_ble_eq_true hb)).symm
theorem wrG_eq {w : IntKind → Int → Int} (pi8 : ∀ m, m < nat_lit 128 → w .i8 (.ofNat m) = .ofNat m) (ni8 : ∀ m, m < nat_lit 128 → w .i8 (.negSucc m) = .negSucc m) (pi16 : ∀ m, m < nat_lit 32768 → w .i16 (.ofNat m) = .ofNat m) (ni16 : ∀ m, m < nat_lit 32768 → w .i16 (.negSucc m) = .negSucc m) (pi32 : ∀ m, m < nat_lit 2147483648 → w .i32 (.ofNat m) = .ofNat m) (ni32 : ∀ m, m < nat_lit 2147483648 → w .i32 (.negSucc m) = .negSucc m) (pi64 : ∀ m, m < nat_lit 9223372036854775808 → w .i64 (.ofNat m) = .ofNat m) (ni64 : ∀ m, m < nat_lit 9223372036854775808 → w .i64 (.negSucc m) = .negSucc m) (qu8 : ∀ m, w .u8 (.ofNat m) = .ofNat (Nat.mod m (nat_lit 256))) (qu16 : ∀ m, w .u16 (.ofNat m) = .ofNat (Nat.mod m (nat_lit 65536))) (qu32 : ∀ m, w .u32 (.ofNat m) = .ofNat (Nat.mod m (nat_lit 4294967296))) (qu64 : ∀ m, w .u64 (.ofNat m) = .ofNat (Nat.mod m (nat_lit 18446744073709551616))) (k : IntKind) (n : Int) : wrG w k n = w k n := by
  cases n with
  | ofNat m =>
    cases k
    case i8 => exact wrS_eq _ _ _ (pi8 m)
    case i16 => exact wrS_eq _ _ _ (pi16 m)
    case i32 => exact wrS_eq _ _ _ (pi32 m)
    case i64 => exact wrS_eq _ _ _ (pi64 m)
    case u8 => exact (qu8 m).symm
    case u16 => exact (qu16 m).symm
    case u32 => exact (qu32 m).symm
    case u64 => exact (qu64 m).symm
  | negSucc m =>
    cases k
    case i8 => exact wrN_eq _ _ _ (ni8 m)
    case i16 => exact wrN_eq _ _ _ (ni16 m)
    case i32 => exact wrN_eq _ _ _ (ni32 m)
    case i64 => exact wrN_eq _ _ _ (ni64 m)
    case u8 => exact rfl
    case u16 => exact rfl
    case u32 => exact rfl
    case u64 => exact rfl
theorem wr_i8 (m : Nat) (h : m < nat_lit 128) : IntKind.wrap .i8 (.ofNat m) = .ofNat m := by
  have h' : m < 128 := h
  simp only [IntKind.wrap, IntKind.bits, IntKind.signed, Bool.true_and, Int.ofNat_eq_natCast]
  split <;> simp_all <;> omega
theorem wm_i8 (m : Nat) (h : m < nat_lit 128) : IntKind.wrap .i8 (.negSucc m) = .negSucc m := by
  have h' : m < 128 := h
  have hm : Int.negSucc m = -(m : Int) - 1 := by omega
  rw [hm]
  simp only [IntKind.wrap, IntKind.bits, IntKind.signed, Bool.true_and]
  split <;> simp_all <;> omega
theorem wr_i16 (m : Nat) (h : m < nat_lit 32768) : IntKind.wrap .i16 (.ofNat m) = .ofNat m := by
  have h' : m < 32768 := h
  simp only [IntKind.wrap, IntKind.bits, IntKind.signed, Bool.true_and, Int.ofNat_eq_natCast]
  split <;> simp_all <;> omega
theorem wm_i16 (m : Nat) (h : m < nat_lit 32768) : IntKind.wrap .i16 (.negSucc m) = .negSucc m := by
  have h' : m < 32768 := h
  have hm : Int.negSucc m = -(m : Int) - 1 := by omega
  rw [hm]
  simp only [IntKind.wrap, IntKind.bits, IntKind.signed, Bool.true_and]
  split <;> simp_all <;> omega
theorem wr_i32 (m : Nat) (h : m < nat_lit 2147483648) : IntKind.wrap .i32 (.ofNat m) = .ofNat m := by
  have h' : m < 2147483648 := h
  simp only [IntKind.wrap, IntKind.bits, IntKind.signed, Bool.true_and, Int.ofNat_eq_natCast]
  split <;> simp_all <;> omega
theorem wm_i32 (m : Nat) (h : m < nat_lit 2147483648) : IntKind.wrap .i32 (.negSucc m) = .negSucc m := by
  have h' : m < 2147483648 := h
  have hm : Int.negSucc m = -(m : Int) - 1 := by omega
  rw [hm]
  simp only [IntKind.wrap, IntKind.bits, IntKind.signed, Bool.true_and]
  split <;> simp_all <;> omega
theorem wr_i64 (m : Nat) (h : m < nat_lit 9223372036854775808) : IntKind.wrap .i64 (.ofNat m) = .ofNat m := by
  have h' : m < 9223372036854775808 := h
  simp only [IntKind.wrap, IntKind.bits, IntKind.signed, Bool.true_and, Int.ofNat_eq_natCast]
  split <;> simp_all <;> omega
theorem wm_i64 (m : Nat) (h : m < nat_lit 9223372036854775808) : IntKind.wrap .i64 (.negSucc m) = .negSucc m := by
  have h' : m < 9223372036854775808 := h
  have hm : Int.negSucc m = -(m : Int) - 1 := by omega
  rw [hm]
  simp only [IntKind.wrap, IntKind.bits, IntKind.signed, Bool.true_and]
  split <;> simp_all <;> omega
theorem wr_u8 (m : Nat) : IntKind.wrap .u8 (.ofNat m) = Int.ofNat (Nat.mod m (nat_lit 256)) := by
  have h : Int.ofNat (Nat.mod m (nat_lit 256)) = ((m % 256 : Nat) : Int) := rfl
  rw [h]
  simp [IntKind.wrap, IntKind.bits, IntKind.signed]
theorem wr_u16 (m : Nat) : IntKind.wrap .u16 (.ofNat m) = Int.ofNat (Nat.mod m (nat_lit 65536)) := by
  have h : Int.ofNat (Nat.mod m (nat_lit 65536)) = ((m % 65536 : Nat) : Int) := rfl
  rw [h]
  simp [IntKind.wrap, IntKind.bits, IntKind.signed]
theorem wr_u32 (m : Nat) : IntKind.wrap .u32 (.ofNat m) = Int.ofNat (Nat.mod m (nat_lit 4294967296)) := by
  have h : Int.ofNat (Nat.mod m (nat_lit 4294967296)) = ((m % 4294967296 : Nat) : Int) := rfl
  rw [h]
  simp [IntKind.wrap, IntKind.bits, IntKind.signed]
theorem wr_u64 (m : Nat) : IntKind.wrap .u64 (.ofNat m) = Int.ofNat (Nat.mod m (nat_lit 18446744073709551616)) := by
  have h : Int.ofNat (Nat.mod m (nat_lit 18446744073709551616)) = ((m % 18446744073709551616 : Nat) : Int) := rfl
  rw [h]
  simp [IntKind.wrap, IntKind.bits, IntKind.signed]
theorem wrF_eq (k : IntKind) (n : Int) : wrF k n = k.wrap n := wrG_eq wr_i8 wm_i8 wr_i16 wm_i16 wr_i32 wm_i32 wr_i64 wm_i64 wr_u8 wr_u16 wr_u32 wr_u64 k n

def andI (k : IntKind) (a b : Int) : Int :=
  iRec a (fun m => iRec b (fun n => .ofNat (Nat.land (Nat.mod m (Nat.pow (nat_lit 2) (bitsF k))) (Nat.mod n (Nat.pow (nat_lit 2) (bitsF k))))) (fun _ => ((BitVec.ofInt k.bits a &&& BitVec.ofInt k.bits b).toNat : Int))) (fun _ => ((BitVec.ofInt k.bits a &&& BitVec.ofInt k.bits b).toNat : Int))
theorem bv_of (w m : Nat) : (BitVec.ofInt w (Int.ofNat m)).toNat = m % 2 ^ w := by
  simp [BitVec.toNat_ofInt]
theorem andI_eq (k : IntKind) (a b : Int) : andI k a b = ((BitVec.ofInt k.bits a &&& BitVec.ofInt k.bits b).toNat : Int) := by
  cases a <;> cases b <;> first
    | rfl
    | (rw [BitVec.toNat_and, bv_of, bv_of, ← bitsF_eq]; rfl)
def orI (k : IntKind) (a b : Int) : Int :=
  iRec a (fun m => iRec b (fun n => .ofNat (Nat.lor (Nat.mod m (Nat.pow (nat_lit 2) (bitsF k))) (Nat.mod n (Nat.pow (nat_lit 2) (bitsF k))))) (fun _ => ((BitVec.ofInt k.bits a ||| BitVec.ofInt k.bits b).toNat : Int))) (fun _ => ((BitVec.ofInt k.bits a ||| BitVec.ofInt k.bits b).toNat : Int))
theorem orI_eq (k : IntKind) (a b : Int) : orI k a b = ((BitVec.ofInt k.bits a ||| BitVec.ofInt k.bits b).toNat : Int) := by
  cases a <;> cases b <;> first
    | rfl
    | (rw [BitVec.toNat_or, bv_of, bv_of, ← bitsF_eq]; rfl)
def xorI (k : IntKind) (a b : Int) : Int :=
  iRec a (fun m => iRec b (fun n => .ofNat (Nat.xor (Nat.mod m (Nat.pow (nat_lit 2) (bitsF k))) (Nat.mod n (Nat.pow (nat_lit 2) (bitsF k))))) (fun _ => ((BitVec.ofInt k.bits a ^^^ BitVec.ofInt k.bits b).toNat : Int))) (fun _ => ((BitVec.ofInt k.bits a ^^^ BitVec.ofInt k.bits b).toNat : Int))
theorem xorI_eq (k : IntKind) (a b : Int) : xorI k a b = ((BitVec.ofInt k.bits a ^^^ BitVec.ofInt k.bits b).toNat : Int) := by
  cases a <;> cases b <;> first
    | rfl
    | (rw [BitVec.toNat_xor, bv_of, bv_of, ← bitsF_eq]; rfl)

/-- A whole number that is not negative. -/
def asNat (n : Int) (f : Nat → Prop) : Prop := iRec n f (fun _ => False)
theorem asNat_inv {n : Int} {f : Nat → Prop} (h : asNat n f) : 0 ≤ n ∧ f n.toNat := by
  cases n with
  | ofNat m => exact ⟨Int.natCast_nonneg m, h⟩
  | negSucc m => exact h.elim

/-! ### Two whole numbers -/
abbrev IK := IntKind → Int → Int → (X → Prop) → Prop
def fI (k : IntKind) (n : Int) (K : X → Prop) : Prop := forceI n fun n => K (.int k n)
theorem fI_eq (k : IntKind) (n : Int) (K : X → Prop) : fI k n K = K (.int k n) := forceI_eq _ _
def b_add (k : IntKind) (a b : Int) (K : X → Prop) : Prop := fI k (wrF k (addI a b)) K
def b_sub (k : IntKind) (a b : Int) (K : X → Prop) : Prop := fI k (wrF k (subI a b)) K
def b_mul (k : IntKind) (a b : Int) (K : X → Prop) : Prop := fI k (wrF k (mulI a b)) K
def b_quo (k : IntKind) (a b : Int) (K : X → Prop) : Prop := bRec (eqI b (.ofNat (nat_lit 0))) False (fI k (wrF k (quoI a b)) K)
def b_rem (k : IntKind) (a b : Int) (K : X → Prop) : Prop := bRec (eqI b (.ofNat (nat_lit 0))) False (fI k (remI a b) K)
def b_and (k : IntKind) (a b : Int) (K : X → Prop) : Prop := fI k (wrF k (andI k a b)) K
def b_or (k : IntKind) (a b : Int) (K : X → Prop) : Prop := fI k (wrF k (orI k a b)) K
def b_xor (k : IntKind) (a b : Int) (K : X → Prop) : Prop := fI k (wrF k (xorI k a b)) K
def b_andNot (k : IntKind) (a b : Int) (K : X → Prop) : Prop := fI k (k.wrap (BitVec.ofInt k.bits a &&& ~~~ BitVec.ofInt k.bits b).toNat) K
def b_eql (k : IntKind) (a b : Int) (K : X → Prop) : Prop := K (.bool (eqI a b))
def b_neq (k : IntKind) (a b : Int) (K : X → Prop) : Prop := K (.bool (bRec (eqI a b) false true))
def b_lss (k : IntKind) (a b : Int) (K : X → Prop) : Prop := K (.bool (ltI a b))
def b_leq (k : IntKind) (a b : Int) (K : X → Prop) : Prop := K (.bool (bRec (ltI b a) false true))
def b_gtr (k : IntKind) (a b : Int) (K : X → Prop) : Prop := K (.bool (ltI b a))
def b_geq (k : IntKind) (a b : Int) (K : X → Prop) : Prop := K (.bool (bRec (ltI a b) false true))
def noK (_ : IntKind) (_ _ : Int) (_ : X → Prop) : Prop := False
def zbin (op : BinOp) : IK := @BinOp.rec (fun _ => IK) b_add b_sub b_mul b_quo b_rem b_and b_or b_xor noK noK b_andNot b_eql b_neq b_lss b_leq b_gtr b_geq op
theorem zbin_inv {op : BinOp} {k : IntKind} {a b : Int} {K : X → Prop} {P : Program} (h : zbin op k a b K) : binOk op b ∧ ∃ x, bin op k a b = x.toV P ∧ WF P x ∧ K x := by
  have leafI : ∀ n, WF P (.int k n) := fun n => .leaf rfl (by intro c l h; cases h) (by intro c n t d h; cases h) (by intro c l h; cases h)
  have leafB : ∀ b, WF P (.bool b) := fun n => .leaf rfl (by intro c l h; cases h) (by intro c n t d h; cases h) (by intro c l h; cases h)
  have hz : ∀ {q : Prop}, bRec (eqI b (.ofNat 0)) False q → b ≠ 0 ∧ q := by
    intro q h
    rw [eqI_eq] at h
    by_cases hb : b = 0
    · subst hb; exact h.elim
    · have : decide (b = Int.ofNat 0) = false := by simpa using hb
      rw [this] at h; exact ⟨hb, h⟩
  have hnot : ∀ b : Bool, bRec b false true = !b := by intro b; cases b <;> rfl
  cases op
  case add => rw [show zbin .add k a b K = b_add k a b K from rfl, b_add, fI_eq, wrF_eq, addI_eq] at h; exact ⟨trivial, _, rfl, leafI _, h⟩
  case sub => rw [show zbin .sub k a b K = b_sub k a b K from rfl, b_sub, fI_eq, wrF_eq, subI_eq] at h; exact ⟨trivial, _, rfl, leafI _, h⟩
  case mul => rw [show zbin .mul k a b K = b_mul k a b K from rfl, b_mul, fI_eq, wrF_eq, mulI_eq] at h; exact ⟨trivial, _, rfl, leafI _, h⟩
  case quo =>
    obtain ⟨h1, h2⟩ := hz (show bRec (eqI b (.ofNat 0)) False _ from h)
    rw [fI_eq, wrF_eq, quoI_eq] at h2
    exact ⟨h1, _, rfl, leafI _, h2⟩
  case rem =>
    obtain ⟨h1, h2⟩ := hz (show bRec (eqI b (.ofNat 0)) False _ from h)
    rw [fI_eq, remI_eq] at h2
    exact ⟨h1, _, rfl, leafI _, h2⟩
  case and => rw [show zbin .and k a b K = b_and k a b K from rfl, b_and, fI_eq, wrF_eq, andI_eq] at h; exact ⟨trivial, _, rfl, leafI _, h⟩
  case or => rw [show zbin .or k a b K = b_or k a b K from rfl, b_or, fI_eq, wrF_eq, orI_eq] at h; exact ⟨trivial, _, rfl, leafI _, h⟩
  case xor => rw [show zbin .xor k a b K = b_xor k a b K from rfl, b_xor, fI_eq, wrF_eq, xorI_eq] at h; exact ⟨trivial, _, rfl, leafI _, h⟩
  case andNot => rw [show zbin .andNot k a b K = b_andNot k a b K from rfl, b_andNot, fI_eq] at h; exact ⟨trivial, _, rfl, leafI _, h⟩
  case shl => exact h.elim
  case shr => exact h.elim
  case eql => rw [show zbin .eql k a b K = b_eql k a b K from rfl, b_eql, eqI_eq] at h; exact ⟨trivial, _, by simp only [bin, X.toV]; rfl, leafB _, h⟩
  case neq => rw [show zbin .neq k a b K = b_neq k a b K from rfl, b_neq, eqI_eq, hnot] at h; exact ⟨trivial, _, by simp only [bin, X.toV]; rfl, leafB _, h⟩
  case lss => rw [show zbin .lss k a b K = b_lss k a b K from rfl, b_lss, ltI_eq] at h; exact ⟨trivial, _, rfl, leafB _, h⟩
  case leq => rw [show zbin .leq k a b K = b_leq k a b K from rfl, b_leq, ltI_eq, hnot] at h; exact ⟨trivial, _, by simp only [bin, X.toV]; congr 1; rw [Bool.eq_iff_iff]; simp, leafB _, h⟩
  case gtr => rw [show zbin .gtr k a b K = b_gtr k a b K from rfl, b_gtr, ltI_eq] at h; exact ⟨trivial, _, rfl, leafB _, h⟩
  case geq => rw [show zbin .geq k a b K = b_geq k a b K from rfl, b_geq, ltI_eq, hnot] at h; exact ⟨trivial, _, by simp only [bin, X.toV]; congr 1; rw [Bool.eq_iff_iff]; simp, leafB _, h⟩
end
end Go.Ab
