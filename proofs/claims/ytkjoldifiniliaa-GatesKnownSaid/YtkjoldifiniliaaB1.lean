/- Values as trees, shapes, and what it says that a tree stands for a value, or for cells of memory, of the model. No condition. -/
import Derived.Test.YtkjoldifiniliaaBI
import Derived.WalkKit
import Derived.WalkSpells
import Derived.WalkLawsBesides
import Derived.ProofKit
set_option linter.unusedVariables false
set_option linter.unusedSimpArgs false
namespace Go.Ab
open Go.RowKit

inductive Step where
  | fld (k : Nat)
  | idx (i : Nat)

inductive Shape where
  | sc
  | nl
  | cons (a b : Shape)
  | arr (n : Nat) (s : Shape)
  deriving Inhabited

inductive V where
  | int (k : IntKind) (n : Int)
  | bool (b : Bool)
  | str (s : ByteArray)
  | nl
  | cons (h t : V)
  | arr (n : Nat) (f : Nat → V)
  | ptr (id : Nat) (p : List Step) (s : Shape)
  | row (id : Nat) (e : Shape) (n : Nat)
  | sl (id : Nat) (p : List Step) (e : Shape) (off len : Nat) (cap : Option Nat)
  | ref (w : Bool) (s : Shape) (c : V)
  | nilp
  | nils
  | nilf
  | ro (w : Bool) (clip : Bool) (s : Shape) (len : Nat) (f : Nat → V)
  | fn (f : FuncId) (cap : V)
  | tup (l : V)
  | unk
  deriving Inhabited

def Shape.size : Shape → Nat
  | .sc => 1
  | .nl => 0
  | .cons a b => a.size + b.size
  | .arr n s => n * s.size

def Shape.fld : Nat → Shape → Option (Nat × Shape)
  | 0, .cons a _ => some (0, a)
  | k + 1, .cons a b => (b.fld k).map fun x => (a.size + x.1, x.2)
  | _, _ => none

def Shape.step (s : Shape) : Step → Option (Nat × Shape)
  | .fld k => s.fld k
  | .idx i => match s with
    | .arr n e => if i < n then some (i * e.size, e) else none
    | _ => none

def Shape.path : List Step → Shape → Option (Nat × Shape)
  | [], s => some (0, s)
  | x :: p, s => match s.step x with
    | some (d, t) => (Shape.path p t).map fun y => (d + y.1, y.2)
    | none => none

def V.fld : Nat → V → V
  | 0, .cons a _ => a
  | k + 1, .cons _ b => b.fld k
  | _, _ => .unk

def V.step (v : V) : Step → V
  | .fld k => v.fld k
  | .idx i => match v with
    | .arr _ f => f i
    | _ => .unk

def V.path : List Step → V → V
  | [], v => v
  | x :: p, v => V.path p (v.step x)

/-- Which of two, pushed inward. -/
def V.ite (c : Bool) : V → V → V
  | .int k a, .int k' b => if k = k' then .int k (bif c then a else b) else bif c then .int k a else .int k' b
  | .bool a, .bool b => .bool (bif c then a else b)
  | .nl, .nl => .nl
  | .cons h t, .cons h' t' => .cons (V.ite c h h') (V.ite c t t')
  | .arr n f, .arr m g => if n = m then .arr n (fun i => V.ite c (f i) (g i)) else bif c then .arr n f else .arr m g
  | a, b => bif c then a else b

theorem V.ite_true (a : V) : ∀ b, V.ite true a b = a := by
  induction a with
  | int k n => intro b; cases b <;> simp [V.ite]
  | bool x => intro b; cases b <;> simp [V.ite]
  | nl => intro b; cases b <;> simp [V.ite]
  | cons h t ih1 ih2 => intro b; cases b <;> simp [V.ite, ih1, ih2]
  | arr n f ih => intro b; cases b <;> simp [V.ite, ih]
  | _ => intro b; cases b <;> simp [V.ite]

theorem V.ite_false (a : V) : ∀ b, V.ite false a b = b := by
  induction a with
  | int k n => intro b; cases b <;> simp [V.ite]; all_goals (intro h; exact h.symm)
  | bool x => intro b; cases b <;> simp [V.ite]
  | nl => intro b; cases b <;> simp [V.ite]
  | cons h t ih1 ih2 => intro b; cases b <;> simp [V.ite, ih1, ih2]
  | arr n f ih => intro b; cases b <;> simp [V.ite, ih]; all_goals (intro h; exact h.symm)
  | _ => intro b; cases b <;> simp [V.ite]

theorem V.ite_eq (c : Bool) (a b : V) : V.ite c a b = bif c then a else b := by
  cases c
  · exact V.ite_false a b
  · exact V.ite_true a b

def V.setFld : Nat → (V → V) → V → V
  | 0, u, .cons a b => .cons (u a) b
  | k + 1, u, .cons a b => .cons a (b.setFld k u)
  | _, _, v => v

/-- What lies at a path, replaced. -/
def V.set : List Step → V → V → V
  | [], x, _ => x
  | .fld k :: p, x, v => v.setFld k (V.set p x)
  | .idx i :: p, x, v => match v with
    | .arr n f => .arr n fun j => V.ite (j == i) (V.set p x (f j)) (f j)
    | v => v

/-- Where a tree is looked for. -/
inductive M where
  | cel (s : Shape) (g : Nat → Option Value) (off : Nat)
  | val (v : Value)
  | list (l : List Value)

def M.leaf : M → Value → Prop
  | .cel s g off, x => s = .sc ∧ g off = some x
  | .val v, x => v = x
  | .list _, _ => False

structure Ctx where
  ok : Bool → Nat → Prop
  al : Nat → Prop
  sv : Nat → Value
  shp : Nat → Shape
  w : World

/-- The same, without names: what may not be written. -/
def Ctx.pur (C : Ctx) : Ctx := { C with al := fun _ => False }

def blk? : Value → Option Nat
  | .pointer (some a) => some a.block
  | .slice (some a) _ _ => some a.block
  | _ => none

def cg (w : World) (b : Nat) : Nat → Option Value := fun o => w.cell? ⟨b, o, none⟩

/-- The tree stands for what is there. -/
def RR : V → Ctx → M → Prop
  | .int k n, _, m => m.leaf (.int k n)
  | .bool b, C, m => m.leaf (.bool b)
  | .str s, C, m => m.leaf (.string s)
  | .nilp, C, m => m.leaf (.pointer none)
  | .nils, C, m => m.leaf (.slice none 0 0)
  | .nilf, C, m => m.leaf .nilFunc
  | .nl, C, .cel s _ _ => s = .nl
  | .nl, C, .val v => v = .agg #[]
  | .nl, C, .list l => l = []
  | .cons h t, C, .cel s g off => ∃ a b, s = .cons a b ∧ RR h C (.cel a g off) ∧ RR t C (.cel b g (off + a.size))
  | .cons h t, C, .val v => ∃ cs a b, v = .agg cs ∧ cs.size = a.size + b.size ∧ RR h C (.cel a (fun i => cs[i]?) 0) ∧ RR t C (.cel b (fun i => cs[i]?) a.size)
  | .cons h t, C, .list l => ∃ x xs, l = x :: xs ∧ RR h C (.val x) ∧ RR t C (.list xs)
  | .arr n f, C, .cel s g off => ∃ e, s = .arr n e ∧ ∀ i, i < n → RR (f i) C (.cel e g (off + i * e.size))
  | .arr n f, C, .val v => ∃ cs e, v = .agg cs ∧ cs.size = n * e.size ∧ ∀ i, i < n → RR (f i) C (.cel e (fun i => cs[i]?) (i * e.size))
  | .arr _ _, C, .list _ => False
  | .ptr id p s, C, m => C.al id ∧ ∃ b off, blk? (C.sv id) = some b ∧ Shape.path p (C.shp id) = some (off, s) ∧ m.leaf (.pointer (some ⟨b, off, none⟩))
  | .row id e n, C, m => C.al id ∧ (∃ a c, C.sv id = .slice a n c) ∧ C.shp id = .arr n e ∧ m.leaf (C.sv id)
  | .sl id p e off len cap, C, m => C.al id ∧ ∃ ad c o n, m.leaf (.slice ad len c) ∧ len ≤ c ∧ (∀ k, cap = some k → c = k) ∧ Shape.path p (C.shp id) = some (o, .arr n e) ∧ off + len ≤ n ∧
      (len = 0 ∨ ∃ b, blk? (C.sv id) = some b ∧ ad = some ⟨b, o + off * e.size, none⟩)
  | .ref u s c, C, m => ∃ b o, m.leaf (.pointer (some ⟨b, o, none⟩)) ∧ C.ok u b ∧ RR c C.pur (.cel s (cg C.w b) o)
  | .ro u clip e len f, C, m => ∃ a c, m.leaf (.slice a len c) ∧ len ≤ c ∧ (clip = true → c = len) ∧
      (len = 0 ∨ ∃ b o, a = some ⟨b, o, none⟩ ∧ C.ok u b ∧ ∀ i, i < len → RR (f i) C.pur (.cel e (cg C.w b) (o + i * e.size)))
  | .fn f cap, C, m => ∃ cs, m.leaf (.func (.func f) #[] cs) ∧ RR cap C (.list cs.toList)
  | .tup l, C, .val v => ∃ cs, v = .tuple cs ∧ RR l C (.list cs.toList)
  | .tup _, C, _ => False
  | .unk, C, .cel s g off => s = .sc ∧ ∃ x, g off = some x ∧ x.oneCell' = true
  | .unk, C, .val _ => True
  | .unk, C, .list _ => False

abbrev R (C : Ctx) (v : V) (m : M) : Prop := RR v C m

/-- What has been said stays true: old names mean what they meant, and what may not be written has not been. -/
structure Keep (C C' : Ctx) : Prop where
  al : ∀ id, C.al id → C'.al id
  sv : ∀ id, C.al id → C'.sv id = C.sv id
  shp : ∀ id, C.al id → C'.shp id = C.shp id
  ok : ∀ u b, C.ok u b → C'.ok u b
  heap : ∀ u b, C.ok u b → C'.w.heap[b]? = C.w.heap[b]?

theorem Keep.refl (C : Ctx) : Keep C C := ⟨fun _ h => h, fun _ _ => rfl, fun _ _ => rfl, fun _ _ h => h, fun _ _ _ => rfl⟩
theorem Keep.trans {A B C : Ctx} (h : Keep A B) (k : Keep B C) : Keep A C :=
  ⟨fun i x => k.al i (h.al i x), fun i x => (k.sv i (h.al i x)).trans (h.sv i x), fun i x => (k.shp i (h.al i x)).trans (h.shp i x), fun u b x => k.ok u b (h.ok u b x), fun u b x => (k.heap u b (h.ok u b x)).trans (h.heap u b x)⟩

theorem Keep.of_pur (C : Ctx) : Keep C.pur C := ⟨fun _ h => h.elim, fun _ h => h.elim, fun _ h => h.elim, fun _ _ h => h, fun _ _ _ => rfl⟩

theorem cg_same {w w' : World} {b : Nat} (h : w'.heap[b]? = w.heap[b]?) : cg w' b = cg w b := by
  funext o; exact World.cell?_of_block (a := ⟨b, o, none⟩) h

theorem Keep.pur {C C' : Ctx} (h : Keep C C') : Keep C.pur C'.pur := ⟨fun _ h => h.elim, fun _ h => h.elim, fun _ h => h.elim, h.ok, h.heap⟩

theorem R.keep' (v : V) : ∀ {C C' : Ctx} (_ : Keep C C') m, R C v m → R C' v m := by
  induction v with
  | int k n => intro C C' hk m h; exact h
  | bool b => intro C C' hk m h; exact h
  | str s => intro C C' hk m h; exact h
  | nilp => intro C C' hk m h; exact h
  | nils => intro C C' hk m h; exact h
  | nilf => intro C C' hk m h; exact h
  | nl => intro C C' hk m h; cases m <;> exact h
  | cons x t ih1 ih2 =>
    intro C C' hk m h
    cases m with
    | cel s g off => obtain ⟨a, b, h1, h2, h3⟩ := h; exact ⟨a, b, h1, ih1 hk _ h2, ih2 hk _ h3⟩
    | val v => obtain ⟨cs, a, b, h1, h2, h3, h4⟩ := h; exact ⟨cs, a, b, h1, h2, ih1 hk _ h3, ih2 hk _ h4⟩
    | list l => obtain ⟨y, ys, h1, h2, h3⟩ := h; exact ⟨y, ys, h1, ih1 hk _ h2, ih2 hk _ h3⟩
  | arr n f ih =>
    intro C C' hk m h
    cases m with
    | cel s g off => obtain ⟨e, h1, h2⟩ := h; exact ⟨e, h1, fun i hi => ih i hk _ (h2 i hi)⟩
    | val v => obtain ⟨cs, e, h1, h2, h3⟩ := h; exact ⟨cs, e, h1, h2, fun i hi => ih i hk _ (h3 i hi)⟩
    | list l => exact h
  | ptr id p s =>
    intro C C' hk m h
    obtain ⟨h0, b, off, h1, h2, h3⟩ := h
    exact ⟨hk.al _ h0, b, off, by rw [hk.sv _ h0]; exact h1, by rw [hk.shp _ h0]; exact h2, h3⟩
  | row id e n =>
    intro C C' hk m h
    obtain ⟨h0, h1, h2, h3⟩ := h
    exact ⟨hk.al _ h0, by rw [hk.sv _ h0]; exact h1, by rw [hk.shp _ h0]; exact h2, by rw [hk.sv _ h0]; exact h3⟩
  | sl id p e off len cap =>
    intro C C' hk m h
    obtain ⟨h0, ad, c, o, n, h1, h2, h3, h4, h5, h6⟩ := h
    refine ⟨hk.al _ h0, ad, c, o, n, h1, h2, h3, by rw [hk.shp _ h0]; exact h4, h5, h6.imp (fun h => h) ?_⟩
    rintro ⟨b, h7, h8⟩
    exact ⟨b, by rw [hk.sv _ h0]; exact h7, h8⟩
  | ref u s c ih =>
    intro C C' hk m h
    obtain ⟨b, o, h1, h2, h3⟩ := h
    exact ⟨b, o, h1, hk.ok _ _ h2, by rw [cg_same (hk.heap u b h2)]; exact ih hk.pur _ h3⟩
  | ro u clip e len f ih =>
    intro C C' hk m h
    obtain ⟨a, c, h1, h2, h3, h4⟩ := h
    refine ⟨a, c, h1, h2, h3, h4.imp id ?_⟩
    rintro ⟨b, o, h5, h6, h7⟩
    exact ⟨b, o, h5, hk.ok _ _ h6, fun i hi => by rw [cg_same (hk.heap u b h6)]; exact ih i hk.pur _ (h7 i hi)⟩
  | fn f cap ih =>
    intro C C' hk m h
    obtain ⟨cs, h1, h2⟩ := h
    exact ⟨cs, h1, ih hk _ h2⟩
  | tup l ih =>
    intro C C' hk m h
    cases m with
    | val v => obtain ⟨cs, h1, h2⟩ := h; exact ⟨cs, h1, ih hk _ h2⟩
    | cel => exact h
    | list => exact h
  | unk => intro C C' hk m h; cases m <;> exact h

theorem R.keep {C C' : Ctx} (hk : Keep C C') (v : V) : ∀ m, R C v m → R C' v m := fun m h => R.keep' v hk m h

end Go.Ab
