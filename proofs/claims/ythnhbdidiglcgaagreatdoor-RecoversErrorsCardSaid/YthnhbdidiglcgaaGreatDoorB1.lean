/- Values as trees, shapes, and what it says that a tree stands for a value, or for cells of memory, of the model. No condition. Trees: a part of a tree, a part replaced, a tree read and stored. No condition. What is known of a function's own memory. No condition. -/
import Derived.Test.YthnhbdidiglcgaaGreatDoorBI
import Derived.WalkKit
import Derived.WalkSpells
import Derived.WalkLawsBesides
import Derived.ProofKit
import Derived.OrdersIn
import Derived.Deep.LoopGhost
set_option linter.unusedVariables false
set_option linter.unusedSimpArgs false
namespace Go.Ab
open Go.RowKit

inductive Step where
  | fld (k : Nat)
  | idx (i : Nat)
  | sub (off n : Nat)

inductive Shape where
  | sc
  | nl
  | cons (a b : Shape)
  | arr (n : Nat) (s : Shape)
  deriving Inhabited

inductive V where
  | int (k : IntKind) (n : Int)
  | bool (b : Bool)
  | str (s : ByteArray)
  | nl
  | cons (h t : V)
  | arr (n : Nat) (f : Nat → V)
  | ptr (id : Nat) (p : List Step) (s : Shape)
  | row (id : Nat) (e : Shape) (n : Nat)
  | sl (id : Nat) (p : List Step) (e : Shape) (off len : Nat) (cap : Option Nat)
  | ref (w : Bool) (s : Shape) (c : V)
  | nilp
  | nils
  | nilf
  | ro (w : Bool) (clip : Bool) (s : Shape) (len : Nat) (f : Nat → V)
  | fn (f : FuncId) (cap : V)
  | tup (l : V)
  | unk
  | yld (id : Nat)
  deriving Inhabited

def Shape.size : Shape → Nat
  | .sc => 1
  | .nl => 0
  | .cons a b => a.size + b.size
  | .arr n s => n * s.size

def Shape.fld : Nat → Shape → Option (Nat × Shape)
  | 0, .cons a _ => some (0, a)
  | k + 1, .cons a b => (b.fld k).map fun x => (a.size + x.1, x.2)
  | _, _ => none

def Shape.step (s : Shape) : Step → Option (Nat × Shape)
  | .fld k => s.fld k
  | .idx i => match s with
    | .arr n e => if i < n then some (i * e.size, e) else none
    | _ => none
  | .sub off n => match s with
    | .arr m e => if off + n ≤ m then some (off * e.size, .arr n e) else none
    | _ => none

def Shape.path : List Step → Shape → Option (Nat × Shape)
  | [], s => some (0, s)
  | x :: p, s => match s.step x with
    | some (d, t) => (Shape.path p t).map fun y => (d + y.1, y.2)
    | none => none

def V.fld : Nat → V → V
  | 0, .cons a _ => a
  | k + 1, .cons _ b => b.fld k
  | _, _ => .unk

def V.step (v : V) : Step → V
  | .fld k => v.fld k
  | .idx i => match v with
    | .arr _ f => f i
    | _ => .unk
  | .sub off n => match v with
    | .arr _ f => .arr n fun i => f (off + i)
    | _ => .unk

def V.path : List Step → V → V
  | [], v => v
  | x :: p, v => V.path p (v.step x)

/-- Which of two, pushed inward. -/
def V.ite (c : Bool) : V → V → V
  | .int k a, .int k' b => if k = k' then .int k (bif c then a else b) else bif c then .int k a else .int k' b
  | .bool a, .bool b => .bool (bif c then a else b)
  | .nl, .nl => .nl
  | .cons h t, .cons h' t' => .cons (V.ite c h h') (V.ite c t t')
  | .arr n f, .arr m g => if n = m then .arr n (fun i => V.ite c (f i) (g i)) else bif c then .arr n f else .arr m g
  | a, b => bif c then a else b

theorem V.ite_true (a : V) : ∀ b, V.ite true a b = a := by
  induction a with
  | int k n => intro b; cases b <;> simp [V.ite]
  | bool x => intro b; cases b <;> simp [V.ite]
  | nl => intro b; cases b <;> simp [V.ite]
  | cons h t ih1 ih2 => intro b; cases b <;> simp [V.ite, ih1, ih2]
  | arr n f ih => intro b; cases b <;> simp [V.ite, ih]
  | _ => intro b; cases b <;> simp [V.ite]

theorem V.ite_false (a : V) : ∀ b, V.ite false a b = b := by
  induction a with
  | int k n => intro b; cases b <;> simp [V.ite]; all_goals (intro h; exact h.symm)
  | bool x => intro b; cases b <;> simp [V.ite]
  | nl => intro b; cases b <;> simp [V.ite]
  | cons h t ih1 ih2 => intro b; cases b <;> simp [V.ite, ih1, ih2]
  | arr n f ih => intro b; cases b <;> simp [V.ite, ih]; all_goals (intro h; exact h.symm)
  | _ => intro b; cases b <;> simp [V.ite]

theorem V.ite_eq (c : Bool) (a b : V) : V.ite c a b = bif c then a else b := by
  cases c
  · exact V.ite_false a b
  · exact V.ite_true a b

def V.setFld : Nat → (V → V) → V → V
  | 0, u, .cons a b => .cons (u a) b
  | k + 1, u, .cons a b => .cons a (b.setFld k u)
  | _, _, v => v

/-- What lies at a path, replaced. -/
def V.set : List Step → V → V → V
  | [], x, _ => x
  | .fld k :: p, x, v => v.setFld k (V.set p x)
  | .idx i :: p, x, v => match v with
    | .arr n f => .arr n fun j => V.ite (j == i) (V.set p x (f j)) (f j)
    | v => v
  | .sub off n :: p, x, v => match v with
    | .arr m f => .arr m fun j => V.ite (decide (off ≤ j) && decide (j < off + n)) ((V.set p x (.arr n fun i => f (off + i))).step (.idx (j - off))) (f j)
    | v => v

/-- Where a tree is looked for. -/
inductive M where
  | cel (s : Shape) (g : Nat → Option Value) (off : Nat)
  | val (v : Value)
  | list (l : List Value)

def M.leaf : M → Value → Prop
  | .cel s g off, x => s = .sc ∧ g off = some x
  | .val v, x => v = x
  | .list _, _ => False

structure Ctx where
  ok : Bool → Nat → Prop
  al : Nat → Prop
  sv : Nat → Value
  shp : Nat → Shape
  w : World

/-- The same, without names: what may not be written. -/
def Ctx.pur (C : Ctx) : Ctx := { C with al := fun _ => False }

def blk? : Value → Option Nat
  | .pointer (some a) => some a.block
  | .slice (some a) _ _ => some a.block
  | _ => none

def cg (w : World) (b : Nat) : Nat → Option Value := fun o => w.cell? ⟨b, o, none⟩

/-- The number of a function, as it stands in a tree: of a method's value, with this added. -/
def fnId (f : FuncId) : FuncId := f % 1073741824
structure FC (f : FuncId) where
  fs : Array Value
  cs : Array Value
  ok : f < 1073741824 → fs = #[]
  one : 2147483648 < f → cs.size = 1
/-- What a function's value takes along. From 2 to the 31st on: an interface's value, of no type or of one. -/
def FC.l {f : FuncId} (c : FC f) : List Value := if f < 1073741824 then c.cs.toList else if f < 2147483648 then .tuple c.fs :: c.cs.toList else c.cs.toList
def FC.v {f : FuncId} (c : FC f) : Value := if f < 2147483648 then .func (.func (fnId f)) c.fs c.cs else match c.cs[0]? with
  | some x => if f = 2147483648 then .nilIface else .iface (f - 2147483649) x
  | none => .nilIface
theorem FC.v_fn {f : FuncId} (h : f < 2147483648) (c : FC f) : c.v = .func (.func (fnId f)) c.fs c.cs := by unfold FC.v; rw [if_pos h]
theorem FC.plain {f : FuncId} (h : f < 1073741824) (c : FC f) : c.fs = #[] ∧ c.l = c.cs.toList ∧ fnId f = f :=
  ⟨c.ok h, by unfold FC.l; rw [if_pos h], Nat.mod_eq_of_lt h⟩
def FC.of {f : FuncId} (hf : f < 1073741824) (cs : Array Value) : FC f := ⟨#[], cs, fun _ => rfl, fun h => absurd h (Nat.not_lt.2 (Nat.le_of_lt (Nat.lt_of_lt_of_le hf (by decide))))⟩
theorem FC.of_l {f : FuncId} (h : f < 1073741824) (cs : Array Value) : (FC.of (f := f) h cs).l = cs.toList := by unfold FC.l; rw [if_pos h]; rfl
theorem FC.of_v {f : FuncId} (h : f < 1073741824) (cs : Array Value) : (FC.of (f := f) h cs).v = .func (.func f) #[] cs := by
  rw [FC.v_fn (Nat.lt_of_lt_of_le h (by decide)), show fnId f = f from Nat.mod_eq_of_lt h]; rfl
theorem FC.oneCell {f : FuncId} (c : FC f) : c.v.oneCell' = true := by
  unfold FC.v
  split
  · rfl
  · split
    · split <;> rfl
    · rfl
/-- What has a name and is no memory of cells: a loop's function, a map. -/
def hndl (v : Value) : Prop := (∃ l, v = .func (.yield l) #[] #[]) ∨ ∃ b, v = .map (some b)
theorem hndl_one {v : Value} (h : hndl v) : v.oneCell' = true := by
  rcases h with ⟨l, rfl⟩ | ⟨b, rfl⟩ <;> rfl
/-- The tree stands for what is there. -/
def RR : V → Ctx → M → Prop
  | .int k n, _, m => m.leaf (.int k n)
  | .bool b, C, m => m.leaf (.bool b)
  | .str s, C, m => m.leaf (.string s)
  | .nilp, C, m => m.leaf (.pointer none)
  | .nils, C, m => m.leaf (.slice none 0 0)
  | .nilf, C, m => m.leaf .nilFunc
  | .nl, C, .cel s _ _ => s = .nl
  | .nl, C, .val v => v = .agg #[]
  | .nl, C, .list l => l = []
  | .cons h t, C, .cel s g off => ∃ a b, s = .cons a b ∧ RR h C (.cel a g off) ∧ RR t C (.cel b g (off + a.size))
  | .cons h t, C, .val v => ∃ cs a b, v = .agg cs ∧ cs.size = a.size + b.size ∧ RR h C (.cel a (fun i => cs[i]?) 0) ∧ RR t C (.cel b (fun i => cs[i]?) a.size)
  | .cons h t, C, .list l => ∃ x xs, l = x :: xs ∧ RR h C (.val x) ∧ RR t C (.list xs)
  | .arr n f, C, .cel s g off => ∃ e, s = .arr n e ∧ ∀ i, i < n → RR (f i) C (.cel e g (off + i * e.size))
  | .arr n f, C, .val v => ∃ cs e, v = .agg cs ∧ cs.size = n * e.size ∧ ∀ i, i < n → RR (f i) C (.cel e (fun i => cs[i]?) (i * e.size))
  | .arr _ _, C, .list _ => False
  | .ptr id p s, C, m => C.al id ∧ ∃ b off, blk? (C.sv id) = some b ∧ Shape.path p (C.shp id) = some (off, s) ∧ m.leaf (.pointer (some ⟨b, off, none⟩))
  | .row id e n, C, m => C.al id ∧ (∃ a c, C.sv id = .slice a n c) ∧ C.shp id = .arr n e ∧ m.leaf (C.sv id)
  | .sl id p e off len cap, C, m => C.al id ∧ ∃ ad c o n, m.leaf (.slice ad len c) ∧ len ≤ c ∧ (∀ k, cap = some k → c = k) ∧ Shape.path p (C.shp id) = some (o, .arr n e) ∧ off + len ≤ n ∧
      (c = 0 ∨ ∃ b, blk? (C.sv id) = some b ∧ ad = some ⟨b, o + off * e.size, none⟩)
  | .ref u s c, C, m => ∃ b o, m.leaf (.pointer (some ⟨b, o, none⟩)) ∧ C.ok u b ∧ RR c C.pur (.cel s (cg C.w b) o)
  | .ro u clip e len f, C, m => ∃ a c, m.leaf (.slice a len c) ∧ len ≤ c ∧ (clip = true → c = len) ∧
      (len = 0 ∨ ∃ b o, a = some ⟨b, o, none⟩ ∧ C.ok u b ∧ ∀ i, i < len → RR (f i) C.pur (.cel e (cg C.w b) (o + i * e.size)))
  | .fn f cap, C, m => ∃ cs : FC f, m.leaf cs.v ∧ RR cap C (.list cs.l)
  | .tup l, C, .val v => ∃ cs, v = .tuple cs ∧ RR l C (.list cs.toList)
  | .tup _, C, _ => False
  | .unk, C, .cel s g off => s = .sc ∧ ∃ x, g off = some x ∧ x.oneCell' = true
  | .unk, C, .val _ => True
  | .unk, C, .list _ => False
  | .yld id, C, m => C.al id ∧ hndl (C.sv id) ∧ m.leaf (C.sv id)

abbrev R (C : Ctx) (v : V) (m : M) : Prop := RR v C m

/-- What has been said stays true: old names mean what they meant, and what may not be written has not been. -/
structure Keep (C C' : Ctx) : Prop where
  al : ∀ id, C.al id → C'.al id
  sv : ∀ id, C.al id → C'.sv id = C.sv id
  shp : ∀ id, C.al id → C'.shp id = C.shp id
  ok : ∀ u b, C.ok u b → C'.ok u b
  heap : ∀ u b, C.ok u b → C'.w.heap[b]? = C.w.heap[b]?

theorem Keep.refl (C : Ctx) : Keep C C := ⟨fun _ h => h, fun _ _ => rfl, fun _ _ => rfl, fun _ _ h => h, fun _ _ _ => rfl⟩
theorem Keep.trans {A B C : Ctx} (h : Keep A B) (k : Keep B C) : Keep A C :=
  ⟨fun i x => k.al i (h.al i x), fun i x => (k.sv i (h.al i x)).trans (h.sv i x), fun i x => (k.shp i (h.al i x)).trans (h.shp i x), fun u b x => k.ok u b (h.ok u b x), fun u b x => (k.heap u b (h.ok u b x)).trans (h.heap u b x)⟩

theorem Keep.of_pur (C : Ctx) : Keep C.pur C := ⟨fun _ h => h.elim, fun _ h => h.elim, fun _ h => h.elim, fun _ _ h => h, fun _ _ _ => rfl⟩

theorem cg_same {w w' : World} {b : Nat} (h : w'.heap[b]? = w.heap[b]?) : cg w' b = cg w b := by
  funext o; exact World.cell?_of_block (a := ⟨b, o, none⟩) h

theorem Keep.pur {C C' : Ctx} (h : Keep C C') : Keep C.pur C'.pur := ⟨fun _ h => h.elim, fun _ h => h.elim, fun _ h => h.elim, h.ok, h.heap⟩

theorem R.keep' (v : V) : ∀ {C C' : Ctx} (_ : Keep C C') m, R C v m → R C' v m := by
  induction v with
  | int k n => intro C C' hk m h; exact h
  | bool b => intro C C' hk m h; exact h
  | str s => intro C C' hk m h; exact h
  | nilp => intro C C' hk m h; exact h
  | nils => intro C C' hk m h; exact h
  | nilf => intro C C' hk m h; exact h
  | nl => intro C C' hk m h; cases m <;> exact h
  | cons x t ih1 ih2 =>
    intro C C' hk m h
    cases m with
    | cel s g off => obtain ⟨a, b, h1, h2, h3⟩ := h; exact ⟨a, b, h1, ih1 hk _ h2, ih2 hk _ h3⟩
    | val v => obtain ⟨cs, a, b, h1, h2, h3, h4⟩ := h; exact ⟨cs, a, b, h1, h2, ih1 hk _ h3, ih2 hk _ h4⟩
    | list l => obtain ⟨y, ys, h1, h2, h3⟩ := h; exact ⟨y, ys, h1, ih1 hk _ h2, ih2 hk _ h3⟩
  | arr n f ih =>
    intro C C' hk m h
    cases m with
    | cel s g off => obtain ⟨e, h1, h2⟩ := h; exact ⟨e, h1, fun i hi => ih i hk _ (h2 i hi)⟩
    | val v => obtain ⟨cs, e, h1, h2, h3⟩ := h; exact ⟨cs, e, h1, h2, fun i hi => ih i hk _ (h3 i hi)⟩
    | list l => exact h
  | ptr id p s =>
    intro C C' hk m h
    obtain ⟨h0, b, off, h1, h2, h3⟩ := h
    exact ⟨hk.al _ h0, b, off, by rw [hk.sv _ h0]; exact h1, by rw [hk.shp _ h0]; exact h2, h3⟩
  | row id e n =>
    intro C C' hk m h
    obtain ⟨h0, h1, h2, h3⟩ := h
    exact ⟨hk.al _ h0, by rw [hk.sv _ h0]; exact h1, by rw [hk.shp _ h0]; exact h2, by rw [hk.sv _ h0]; exact h3⟩
  | sl id p e off len cap =>
    intro C C' hk m h
    obtain ⟨h0, ad, c, o, n, h1, h2, h3, h4, h5, h6⟩ := h
    refine ⟨hk.al _ h0, ad, c, o, n, h1, h2, h3, by rw [hk.shp _ h0]; exact h4, h5, h6.imp (fun h => h) ?_⟩
    rintro ⟨b, h7, h8⟩
    exact ⟨b, by rw [hk.sv _ h0]; exact h7, h8⟩
  | ref u s c ih =>
    intro C C' hk m h
    obtain ⟨b, o, h1, h2, h3⟩ := h
    exact ⟨b, o, h1, hk.ok _ _ h2, by rw [cg_same (hk.heap u b h2)]; exact ih hk.pur _ h3⟩
  | ro u clip e len f ih =>
    intro C C' hk m h
    obtain ⟨a, c, h1, h2, h3, h4⟩ := h
    refine ⟨a, c, h1, h2, h3, h4.imp id ?_⟩
    rintro ⟨b, o, h5, h6, h7⟩
    exact ⟨b, o, h5, hk.ok _ _ h6, fun i hi => by rw [cg_same (hk.heap u b h6)]; exact ih i hk.pur _ (h7 i hi)⟩
  | fn f cap ih =>
    intro C C' hk m h
    obtain ⟨cs, h1, h2⟩ := h
    exact ⟨cs, h1, ih hk _ h2⟩
  | tup l ih =>
    intro C C' hk m h
    cases m with
    | val v => obtain ⟨cs, h1, h2⟩ := h; exact ⟨cs, h1, ih hk _ h2⟩
    | cel => exact h
    | list => exact h
  | unk => intro C C' hk m h; cases m <;> exact h
  | yld id =>
    intro C C' hk m h
    obtain ⟨h0, h1, h2⟩ := h
    exact ⟨hk.al _ h0, by rw [hk.sv _ h0]; exact h1, by rw [hk.sv _ h0]; exact h2⟩

theorem R.keep {C C' : Ctx} (hk : Keep C C') (v : V) : ∀ m, R C v m → R C' v m := fun m h => R.keep' v hk m h

end Go.Ab
set_option linter.unusedVariables false
set_option linter.unusedSimpArgs false
namespace Go.Ab
open Go.RowKit

theorem R.shift {C : Ctx} (v : V) : ∀ {s : Shape} {g g' : Nat → Option Value} {o o' : Nat}, R C v (.cel s g o) → (∀ k, k < s.size → g' (o' + k) = g (o + k)) → R C v (.cel s g' o') := by
  have leaf : ∀ {x : Value} {s : Shape} {g g' : Nat → Option Value} {o o' : Nat}, (M.cel s g o).leaf x → (∀ k, k < s.size → g' (o' + k) = g (o + k)) → (M.cel s g' o').leaf x := by
    intro x s g g' o o' h hg
    obtain ⟨rfl, h⟩ := h
    exact ⟨rfl, by have := hg 0 (by simp [Shape.size]); simpa [h] using this⟩
  induction v with
  | int k n => intro s g g' o o' h hg; exact leaf h hg
  | bool b => intro s g g' o o' h hg; exact leaf h hg
  | str x => intro s g g' o o' h hg; exact leaf h hg
  | nilp => intro s g g' o o' h hg; exact leaf h hg
  | nils => intro s g g' o o' h hg; exact leaf h hg
  | nilf => intro s g g' o o' h hg; exact leaf h hg
  | nl => intro s g g' o o' h hg; exact h
  | cons x t ih1 ih2 =>
    intro s g g' o o' h hg
    obtain ⟨a, b, rfl, h2, h3⟩ := h
    simp only [Shape.size] at hg
    refine ⟨a, b, rfl, ih1 h2 fun k hk => hg k (by omega), ih2 h3 fun k hk => ?_⟩
    have := hg (a.size + k) (by omega)
    simpa [Nat.add_assoc] using this
  | arr n f ih =>
    intro s g g' o o' h hg
    obtain ⟨e, rfl, h2⟩ := h
    simp only [Shape.size] at hg
    refine ⟨e, rfl, fun i hi => ih i (h2 i hi) fun k hk => ?_⟩
    have hlt : i * e.size + k < n * e.size := by
      have h1 : (i + 1) * e.size ≤ n * e.size := Nat.mul_le_mul_right _ hi
      rw [Nat.add_mul] at h1; omega
    have := hg (i * e.size + k) hlt
    simpa [Nat.add_assoc] using this
  | ptr id p s0 => intro s g g' o o' h hg; obtain ⟨h0, b, off, h1, h2, h3⟩ := h; exact ⟨h0, b, off, h1, h2, leaf h3 hg⟩
  | row id e n => intro s g g' o o' h hg; obtain ⟨h0, h1, h2, h3⟩ := h; exact ⟨h0, h1, h2, leaf h3 hg⟩
  | sl id p e off len cap => intro s g g' o o' h hg; obtain ⟨h0, ad, c, o1, n, h1, h4⟩ := h; exact ⟨h0, ad, c, o1, n, leaf h1 hg, h4⟩
  | ref u s1 c ih => intro s g g' o o' h hg; obtain ⟨b, o1, h1, h2⟩ := h; exact ⟨b, o1, leaf h1 hg, h2⟩
  | ro u clip e len f ih => intro s g g' o o' h hg; obtain ⟨a, c, h1, h2⟩ := h; exact ⟨a, c, leaf h1 hg, h2⟩
  | fn f cap ih => intro s g g' o o' h hg; obtain ⟨cs, h1, h2⟩ := h; exact ⟨cs, leaf h1 hg, h2⟩
  | tup l ih => intro s g g' o o' h hg; exact h
  | unk =>
    intro s g g' o o' h hg
    obtain ⟨rfl, x, h1, h2⟩ := h
    exact ⟨rfl, x, by have := hg 0 (by simp [Shape.size]); simpa [h1] using this, h2⟩
  | yld id => intro s g g' o o' h hg; obtain ⟨h0, h1, h2⟩ := h; exact ⟨h0, h1, leaf h2 hg⟩

/-- Every cell of what a tree stands for is there, and is one cell. -/
theorem R.cells {C : Ctx} (v : V) : ∀ {s : Shape} {g : Nat → Option Value} {o : Nat}, R C v (.cel s g o) → ∀ k, k < s.size → ∃ x, g (o + k) = some x ∧ x.oneCell' = true := by
  have leaf : ∀ {x : Value} {s : Shape} {g : Nat → Option Value} {o : Nat}, (M.cel s g o).leaf x → x.oneCell' = true → ∀ k, k < s.size → ∃ x, g (o + k) = some x ∧ x.oneCell' = true := by
    intro x s g o h hx k hk
    obtain ⟨rfl, h⟩ := h
    simp only [Shape.size] at hk
    obtain rfl : k = 0 := by omega
    exact ⟨x, h, hx⟩
  induction v with
  | int k n => intro s g o h; exact leaf h rfl
  | bool b => intro s g o h; exact leaf h rfl
  | str x => intro s g o h; exact leaf h rfl
  | nilp => intro s g o h; exact leaf h rfl
  | nils => intro s g o h; exact leaf h rfl
  | nilf => intro s g o h; exact leaf h rfl
  | nl => intro s g o h k hk; subst h; simp [Shape.size] at hk
  | cons x t ih1 ih2 =>
    intro s g o h k hk
    obtain ⟨a, b, rfl, h2, h3⟩ := h
    simp only [Shape.size] at hk
    by_cases hka : k < a.size
    · exact ih1 h2 k hka
    · obtain ⟨x, h4, h5⟩ := ih2 h3 (k - a.size) (by omega)
      exact ⟨x, by rw [show o + k = o + a.size + (k - a.size) by omega]; exact h4, h5⟩
  | arr n f ih =>
    intro s g o h k hk
    obtain ⟨e, rfl, h2⟩ := h
    simp only [Shape.size] at hk
    have he : 0 < e.size := by
      rcases Nat.eq_zero_or_pos e.size with h0 | h0
      · rw [h0] at hk; simp at hk
      · exact h0
    have hi : k / e.size < n := (Nat.div_lt_iff_lt_mul he).2 hk
    obtain ⟨x, h4, h5⟩ := ih (k / e.size) (h2 _ hi) (k % e.size) (Nat.mod_lt _ he)
    refine ⟨x, ?_, h5⟩
    have := Nat.div_add_mod k e.size
    rw [Nat.mul_comm] at this
    rw [show o + k = o + k / e.size * e.size + k % e.size by omega]
    exact h4
  | ptr id p s0 => intro s g o h; obtain ⟨h0, b, off, h1, h2, h3⟩ := h; exact leaf h3 rfl
  | row id e n => intro s g o h; obtain ⟨h0, ⟨a, c, h1⟩, h2, h3⟩ := h; exact leaf h3 (by rw [h1]; rfl)
  | sl id p e off len cap => intro s g o h; obtain ⟨h0, ad, c, o1, n, h1, h4⟩ := h; exact leaf h1 rfl
  | ref u s1 c ih => intro s g o h; obtain ⟨b, o1, h1, h2⟩ := h; exact leaf h1 rfl
  | ro u clip e len f ih => intro s g o h; obtain ⟨a, c, h1, h2⟩ := h; exact leaf h1 rfl
  | fn f cap ih => intro s g o h; obtain ⟨cs, h1, h2⟩ := h; exact leaf h1 cs.oneCell
  | tup l ih => intro s g o h; exact h.elim
  | unk =>
    intro s g o h k hk
    obtain ⟨rfl, x, h1, h2⟩ := h
    simp only [Shape.size] at hk
    obtain rfl : k = 0 := by omega
    exact ⟨x, h1, h2⟩
  | yld id => intro s g o h; obtain ⟨h0, h1, h2⟩ := h; exact leaf h2 (hndl_one h1)

theorem Shape.fld_le : ∀ (k : Nat) (s : Shape) {d : Nat} {t : Shape}, s.fld k = some (d, t) → d + t.size ≤ s.size
  | 0, .cons a b, d, t, h => by simp [Shape.fld] at h; obtain ⟨rfl, rfl⟩ := h; simp [Shape.size]
  | k + 1, .cons a b, d, t, h => by
    simp only [Shape.fld, Option.map_eq_some_iff] at h
    obtain ⟨⟨d', t'⟩, h1, h2⟩ := h
    simp only [Prod.mk.injEq] at h2
    obtain ⟨rfl, rfl⟩ := h2
    have := Shape.fld_le k b h1
    simp only [Shape.size]; omega
  | 0, .sc, _, _, h => by simp [Shape.fld] at h
  | 0, .nl, _, _, h => by simp [Shape.fld] at h
  | 0, .arr _ _, _, _, h => by simp [Shape.fld] at h
  | _ + 1, .sc, _, _, h => by simp [Shape.fld] at h
  | _ + 1, .nl, _, _, h => by simp [Shape.fld] at h
  | _ + 1, .arr _ _, _, _, h => by simp [Shape.fld] at h

theorem Shape.step_le {s : Shape} {x : Step} {d : Nat} {t : Shape} (h : s.step x = some (d, t)) : d + t.size ≤ s.size := by
  cases x with
  | fld k => exact Shape.fld_le k s h
  | idx i =>
    cases s <;> simp [Shape.step] at h
    rename_i n e
    obtain ⟨hi, rfl, rfl⟩ := h
    have h1 : (i + 1) * e.size ≤ n * e.size := Nat.mul_le_mul_right _ hi
    rw [Nat.add_mul] at h1
    simp only [Shape.size]; omega
  | sub off k =>
    cases s <;> simp [Shape.step] at h
    rename_i n e
    obtain ⟨hi, rfl, rfl⟩ := h
    have h1 : (off + k) * e.size ≤ n * e.size := Nat.mul_le_mul_right _ hi
    rw [Nat.add_mul] at h1
    simp only [Shape.size]; omega

theorem Shape.path_le : ∀ (p : List Step) (s : Shape) {d : Nat} {t : Shape}, Shape.path p s = some (d, t) → d + t.size ≤ s.size
  | [], s, d, t, h => by simp [Shape.path] at h; obtain ⟨rfl, rfl⟩ := h; simp
  | x :: p, s, d, t, h => by
    simp only [Shape.path] at h
    split at h
    · rename_i d1 t1 h1
      simp only [Option.map_eq_some_iff] at h
      obtain ⟨⟨d2, t2⟩, h2, h3⟩ := h
      simp only [Prod.mk.injEq] at h3
      obtain ⟨rfl, rfl⟩ := h3
      have a1 := Shape.step_le h1
      have a2 := Shape.path_le p t1 h2
      omega
    · cases h

theorem R.fld {C : Ctx} : ∀ (k : Nat) (v : V) {s : Shape} {g : Nat → Option Value} {o d : Nat} {t : Shape}, R C v (.cel s g o) → s.fld k = some (d, t) → R C (v.fld k) (.cel t g (o + d)) ∨ (R C v (.cel s g o) ∧ ¬ ∃ a b, v = .cons a b)
  | k, v, s, g, o, d, t, h, hs => by
    cases v with
    | cons x y =>
      obtain ⟨a, b, rfl, h2, h3⟩ := h
      cases k with
      | zero => simp [Shape.fld] at hs; obtain ⟨rfl, rfl⟩ := hs; exact .inl h2
      | succ k =>
        simp only [Shape.fld, Option.map_eq_some_iff] at hs
        obtain ⟨⟨d', t'⟩, h4, h5⟩ := hs
        simp only [Prod.mk.injEq] at h5
        obtain ⟨rfl, rfl⟩ := h5
        rcases R.fld k y h3 h4 with h6 | ⟨_, h6⟩
        · exact .inl (by rw [← Nat.add_assoc]; exact h6)
        · exfalso
          cases b with
          | cons a' b' =>
            cases y <;> (try exact h6 ⟨_, _, rfl⟩) <;> simp [RR, M.leaf] at h3
          | sc => cases k <;> simp [Shape.fld] at h4
          | nl => cases k <;> simp [Shape.fld] at h4
          | arr n e => cases k <;> simp [Shape.fld] at h4
    | _ => exact .inr ⟨h, by rintro ⟨a, b, h'⟩; cases h'⟩

/-- A tree that lies over a compound shape is compound itself. -/
theorem R.cons_of {C : Ctx} {v : V} {a b : Shape} {g : Nat → Option Value} {o : Nat} (h : R C v (.cel (.cons a b) g o)) : ∃ x y, v = .cons x y := by
  cases v <;> first
    | exact ⟨_, _, rfl⟩
    | (simp [RR, M.leaf] at h)
theorem R.arr_of {C : Ctx} {v : V} {n : Nat} {e : Shape} {g : Nat → Option Value} {o : Nat} (h : R C v (.cel (.arr n e) g o)) : ∃ f, v = .arr n f := by
  cases v <;> first
    | (obtain ⟨e', h, _⟩ := h; simp only [Shape.arr.injEq] at h; obtain ⟨rfl, _⟩ := h; exact ⟨_, rfl⟩)
    | (simp [RR, M.leaf] at h)

theorem Shape.fld_cons {k : Nat} {s : Shape} {x : Nat × Shape} (h : s.fld k = some x) : ∃ a b, s = .cons a b := by
  cases s <;> cases k <;> first
    | exact ⟨_, _, rfl⟩
    | simp [Shape.fld] at h

theorem R.step {C : Ctx} {v : V} {s : Shape} {g : Nat → Option Value} {o d : Nat} {t : Shape} {x : Step} (h : R C v (.cel s g o)) (hs : s.step x = some (d, t)) : R C (v.step x) (.cel t g (o + d)) := by
  cases x with
  | fld k =>
    rcases R.fld k v h hs with h1 | ⟨_, h1⟩
    · exact h1
    · obtain ⟨a, b, rfl⟩ := Shape.fld_cons hs
      exact absurd (R.cons_of h) h1
  | idx i =>
    cases s <;> simp [Shape.step] at hs
    rename_i n e
    obtain ⟨hi, rfl, rfl⟩ := hs
    obtain ⟨f, rfl⟩ := R.arr_of h
    obtain ⟨e', he, h2⟩ := h
    simp only [Shape.arr.injEq, true_and] at he
    subst he
    exact h2 i hi
  | sub off k =>
    cases s <;> simp [Shape.step] at hs
    rename_i n e
    obtain ⟨hi, rfl, rfl⟩ := hs
    obtain ⟨f, rfl⟩ := R.arr_of h
    obtain ⟨e', he, h2⟩ := h
    simp only [Shape.arr.injEq, true_and] at he
    subst he
    refine ⟨e, rfl, fun i hi2 => ?_⟩
    have := h2 (off + i) (by omega)
    rw [Nat.add_mul, ← Nat.add_assoc] at this
    exact this

theorem R.path {C : Ctx} : ∀ (p : List Step) {v : V} {s : Shape} {g : Nat → Option Value} {o d : Nat} {t : Shape}, R C v (.cel s g o) → Shape.path p s = some (d, t) → R C (v.path p) (.cel t g (o + d))
  | [], v, s, g, o, d, t, h, hs => by simp [Shape.path] at hs; obtain ⟨rfl, rfl⟩ := hs; exact h
  | x :: p, v, s, g, o, d, t, h, hs => by
    simp only [Shape.path] at hs
    split at hs
    · rename_i d1 t1 h1
      simp only [Option.map_eq_some_iff] at hs
      obtain ⟨⟨d2, t2⟩, h2, h3⟩ := hs
      simp only [Prod.mk.injEq] at h3
      obtain ⟨rfl, rfl⟩ := h3
      have := R.path p (R.step h h1) h2
      rw [← Nat.add_assoc]; exact this
    · cases hs

theorem R.setFld {C : Ctx} (u : V → V) : ∀ (k : Nat) (v : V) {s : Shape} {g g' : Nat → Option Value} {o d : Nat} {t : Shape}, R C v (.cel s g o) → s.fld k = some (d, t) →
    (∀ j, ¬ (o + d ≤ j ∧ j < o + d + t.size) → g' j = g j) → (∀ y, R C y (.cel t g (o + d)) → R C (u y) (.cel t g' (o + d))) → R C (v.setFld k u) (.cel s g' o)
  | k, v, s, g, g', o, d, t, h, hs, hg, hu => by
    obtain ⟨a, b, rfl⟩ := Shape.fld_cons hs
    obtain ⟨x, y, rfl⟩ := R.cons_of h
    obtain ⟨a', b', he, h2, h3⟩ := h
    simp only [Shape.cons.injEq] at he
    obtain ⟨rfl, rfl⟩ := he
    cases k with
    | zero =>
      simp [Shape.fld] at hs; obtain ⟨rfl, rfl⟩ := hs
      exact ⟨a, b, rfl, hu _ h2, R.shift y h3 fun k hk => hg _ (by omega)⟩
    | succ k =>
      simp only [Shape.fld, Option.map_eq_some_iff] at hs
      obtain ⟨⟨d', t'⟩, h4, h5⟩ := hs
      simp only [Prod.mk.injEq] at h5
      obtain ⟨rfl, rfl⟩ := h5
      refine ⟨a, b, rfl, R.shift x h2 fun k hk => hg _ (by omega), R.setFld u k y h3 h4 (fun j hj => hg j (by omega)) ?_⟩
      intro z hz
      rw [Nat.add_assoc] at hz ⊢
      exact hu z hz

theorem R.set {C : Ctx} {x : V} : ∀ (p : List Step) {v : V} {s : Shape} {g g' : Nat → Option Value} {o d : Nat} {t : Shape}, R C v (.cel s g o) → Shape.path p s = some (d, t) →
    (∀ j, ¬ (o + d ≤ j ∧ j < o + d + t.size) → g' j = g j) → R C x (.cel t g' (o + d)) → R C (V.set p x v) (.cel s g' o)
  | [], v, s, g, g', o, d, t, h, hs, hg, hx => by simp [Shape.path] at hs; obtain ⟨rfl, rfl⟩ := hs; exact hx
  | y :: p, v, s, g, g', o, d, t, h, hs, hg, hx => by
    simp only [Shape.path] at hs
    split at hs
    · rename_i d1 t1 h1
      simp only [Option.map_eq_some_iff] at hs
      obtain ⟨⟨d2, t2⟩, h2, h3⟩ := hs
      simp only [Prod.mk.injEq] at h3
      obtain ⟨rfl, rfl⟩ := h3
      have hle := Shape.path_le p t1 h2
      rw [← Nat.add_assoc] at hx
      cases y with
      | fld k =>
        refine R.setFld (V.set p x) k v h h1 (fun j hj => hg j (by omega)) ?_
        intro z hz
        exact R.set p hz h2 (fun j hj => hg j (by omega)) hx
      | idx i =>
        cases s <;> simp [Shape.step] at h1
        rename_i n e
        obtain ⟨hi, rfl, rfl⟩ := h1
        obtain ⟨f, rfl⟩ := R.arr_of h
        obtain ⟨e', he, h4⟩ := h
        simp only [Shape.arr.injEq, true_and] at he
        subst he
        refine ⟨e, rfl, fun j hj => ?_⟩
        show R C (V.ite (j == i) (V.set p x (f j)) (f j)) _
        rw [V.ite_eq]
        by_cases hji : j = i
        · subst hji
          simp only [beq_self_eq_true, cond_true]
          exact R.set p (h4 j hj) h2 (fun k hk => hg k (by omega)) hx
        · have : (j == i) = false := by simpa using hji
          rw [this, cond_false]
          refine R.shift _ (h4 j hj) fun k hk => hg _ ?_
          intro hc
          rcases Nat.lt_or_gt_of_ne hji with hlt | hlt
          · have a1 : (j + 1) * e.size ≤ i * e.size := Nat.mul_le_mul_right _ hlt
            rw [Nat.add_mul] at a1; omega
          · have a1 : (i + 1) * e.size ≤ j * e.size := Nat.mul_le_mul_right _ hlt
            rw [Nat.add_mul] at a1; omega
      | sub off k =>
        have hst := h1
        cases s <;> simp [Shape.step] at h1
        rename_i n e
        obtain ⟨hi, rfl, rfl⟩ := h1
        obtain ⟨f, rfl⟩ := R.arr_of h
        have hsub := R.step h hst
        obtain ⟨e', he, h4⟩ := h
        simp only [Shape.arr.injEq, true_and] at he
        subst he
        have hz : (Shape.arr k e).size = k * e.size := rfl
        rw [hz] at hle
        have hnew : R C (V.set p x (.arr k fun i => f (off + i))) (.cel (.arr k e) g' (o + off * e.size)) := R.set p hsub h2 (fun j hj => hg j (by omega)) hx
        refine ⟨e, rfl, fun j hj => ?_⟩
        show R C (V.ite (decide (off ≤ j) && decide (j < off + k)) ((V.set p x (.arr k fun i => f (off + i))).step (.idx (j - off))) (f j)) _
        rw [V.ite_eq]
        by_cases hji : off ≤ j ∧ j < off + k
        · rw [show (decide (off ≤ j) && decide (j < off + k)) = true by simp [hji], cond_true]
          have h5 := R.step (x := .idx (j - off)) (d := (j - off) * e.size) (t := e) hnew (by simp [Shape.step]; omega)
          have h6 : j * e.size = off * e.size + (j - off) * e.size := by rw [← Nat.add_mul]; congr 1; omega
          rw [h6, ← Nat.add_assoc]
          exact h5
        · rw [show (decide (off ≤ j) && decide (j < off + k)) = false by simpa using hji, cond_false]
          refine R.shift _ (h4 j hj) fun q hq => hg _ ?_
          intro hc
          rcases Nat.lt_or_ge j off with hlt | hlt
          · have a1 : (j + 1) * e.size ≤ off * e.size := Nat.mul_le_mul_right _ hlt
            rw [Nat.add_mul] at a1; omega
          · have a1 : (off + k) * e.size ≤ j * e.size := Nat.mul_le_mul_right _ (by omega)
            rw [Nat.add_mul] at a1; omega
    · exact absurd hs (by simp)

/-- May be stored: a value of which something is known. -/
def V.isAgg : V → Bool
  | .nl | .cons _ _ | .arr _ _ => true
  | _ => false
def V.isLeaf : V → Bool
  | .nl | .cons _ _ | .arr _ _ | .tup _ | .unk => false
  | _ => true

theorem R.agg_at {C : Ctx} {v : V} {x : Value} (h : R C v (.val x)) (ha : v.isAgg = true) : ∃ s cs, x = .agg cs ∧ cs.size = s.size ∧ s ≠ .sc ∧ R C v (.cel s (fun i => cs[i]?) 0) := by
  cases v <;> simp [V.isAgg] at ha
  · exact ⟨.nl, #[], h, rfl, by simp, rfl⟩
  · obtain ⟨cs, a, b, h1, h2, h3, h4⟩ := h
    exact ⟨.cons a b, cs, h1, h2, by simp, a, b, rfl, h3, by simpa using h4⟩
  · obtain ⟨cs, e, h1, h2, h3⟩ := h
    exact ⟨.arr _ e, cs, h1, h2, by simp, e, rfl, fun i hi => by simpa using h3 i hi⟩

theorem R.leaf_at {C : Ctx} {v : V} {x : Value} (h : R C v (.val x)) (ha : v.isLeaf = true) {g : Nat → Option Value} {o : Nat} (hg : g o = some x) : R C v (.cel .sc g o) := by
  have leaf : ∀ {y : Value}, (M.val x).leaf y → (M.cel .sc g o).leaf y := fun h => ⟨rfl, by rw [hg]; exact congrArg some h⟩
  cases v <;> simp [V.isLeaf] at ha <;> simp only [RR] at h ⊢
  · exact leaf h
  · exact leaf h
  · exact leaf h
  · obtain ⟨h0, b, off, h1, h2, h3⟩ := h; exact ⟨h0, b, off, h1, h2, leaf h3⟩
  · obtain ⟨h0, h1, h2, h3⟩ := h; exact ⟨h0, h1, h2, leaf h3⟩
  · obtain ⟨h0, ad, c, o1, n, h1, h4⟩ := h; exact ⟨h0, ad, c, o1, n, leaf h1, h4⟩
  · obtain ⟨b, o1, h1, h2⟩ := h; exact ⟨b, o1, leaf h1, h2⟩
  · exact leaf h
  · exact leaf h
  · exact leaf h
  · obtain ⟨a, c, h1, h2⟩ := h; exact ⟨a, c, leaf h1, h2⟩
  · obtain ⟨cs, h1, h2⟩ := h; exact ⟨cs, leaf h1, h2⟩
  · obtain ⟨h0, h1, h2⟩ := h; exact ⟨h0, h1, leaf h2⟩

theorem R.leaf_one {C : Ctx} {v : V} {x : Value} (h : R C v (.val x)) (ha : v.isLeaf = true) : x.oneCell' = true := by
  obtain ⟨y, h1, h2⟩ := R.cells v (R.leaf_at h ha (g := fun _ => some x) (o := 0) rfl) 0 (by simp [Shape.size])
  simp only [Option.some.injEq] at h1
  subst h1; exact h2

/-- A scalar that was read. -/
theorem R.sc_val {C : Ctx} {v : V} {g : Nat → Option Value} {o : Nat} {x : Value} (h : R C v (.cel .sc g o)) (hg : g o = some x) : R C v (.val x) := by
  have leaf : ∀ {y : Value}, (M.cel .sc g o).leaf y → (M.val x).leaf y := fun h => by have := h.2; rw [hg] at this; exact Option.some.inj this
  cases v <;> simp only [RR] at h ⊢
  · exact leaf h
  · exact leaf h
  · exact leaf h
  · simp at h
  · simp at h
  · simp at h
  · obtain ⟨h0, b, off, h1, h2, h3⟩ := h; exact ⟨h0, b, off, h1, h2, leaf h3⟩
  · obtain ⟨h0, h1, h2, h3⟩ := h; exact ⟨h0, h1, h2, leaf h3⟩
  · obtain ⟨h0, ad, c, o1, n, h1, h4⟩ := h; exact ⟨h0, ad, c, o1, n, leaf h1, h4⟩
  · obtain ⟨b, o1, h1, h2⟩ := h; exact ⟨b, o1, leaf h1, h2⟩
  · exact leaf h
  · exact leaf h
  · exact leaf h
  · obtain ⟨a, c, h1, h2⟩ := h; exact ⟨a, c, leaf h1, h2⟩
  · obtain ⟨cs, h1, h2⟩ := h; exact ⟨cs, leaf h1, h2⟩
  · obtain ⟨h0, h1, h2⟩ := h; exact ⟨h0, h1, leaf h2⟩

/-- A compound value that was read. -/
theorem R.agg_val {C : Ctx} {v : V} {s : Shape} {cs : Array Value} (h : R C v (.cel s (fun i => cs[i]?) 0)) (hs : s ≠ .sc) (hz : cs.size = s.size) : R C v (.val (.agg cs)) := by
  cases s with
  | sc => exact absurd rfl hs
  | nl =>
    cases v <;> first
      | (simp [RR, M.leaf] at h; done)
      | (simp only [Shape.size] at hz; rw [Array.eq_empty_of_size_eq_zero hz]; rfl)
  | cons a b =>
    obtain ⟨x, y, rfl⟩ := R.cons_of h
    obtain ⟨a', b', h1, h2, h3⟩ := h
    simp only [Shape.cons.injEq] at h1
    obtain ⟨rfl, rfl⟩ := h1
    exact ⟨cs, a, b, rfl, hz, h2, by simpa using h3⟩
  | arr n e =>
    obtain ⟨f, rfl⟩ := R.arr_of h
    obtain ⟨e', h1, h2⟩ := h
    simp only [Shape.arr.injEq, true_and] at h1
    subst h1
    exact ⟨cs, e, rfl, hz, fun i hi => by simpa using h2 i hi⟩

end Go.Ab
set_option linter.unusedVariables false
set_option linter.unusedSimpArgs false
namespace Go.Ab
open Go.RowKit
/-- What the globals are. -/
class Gl where
  G : Nat → V
  /-- Is all known? -/
  cl : Bool := false
variable [Gl]

inductive Kind where
  | box (t : TypeId)
  | row (e : TypeId)
  | dead
  | lp (mask : Nat) (ps : Array Tmp) (a b : Code)
  | mp

structure Blk where
  k : Kind
  sh : Shape
  v : V

def Blk.alive (b : Blk) : Bool := match b.k with | .dead | .lp .. | .mp => false | _ => true
/-- It lies in memory. -/
def Blk.live (b : Blk) : Bool := match b.k with | .dead => false | _ => true
omit [Gl] in
theorem Blk.lv {b : Blk} (h : b.alive = true) : b.live = true := by
  unfold Blk.alive at h; unfold Blk.live
  cases hk : b.k <;> rw [hk] at h <;> simp_all

abbrev Mem := Nat → Option Blk

def dOk (n : Nat) (d : Option Tmp) : Bool := match d with | some d => decide (d < n) | none => true
/-- All that is written lies in the frame. -/
def cOk (N : Nat) : Code → Bool
  | .region _ ops _ => ops.toList.all fun o => dOk N o.dst
  | .seq a b => cOk N a && cOk N b
  | .cond _ x y => cOk N x && cOk N y
  | .block _ c => cOk N c
  | .loop c => cOk N c
  | .scope c => cOk N c
  | .rangeFunc _ ps a b => (ps.toList.all fun p => decide (p < N)) && (cOk N a && cOk N b)
  | _ => true
def mBit (mask t : Nat) : Bool := Nat.beq (Nat.mod (Nat.shiftRight mask t) 2) 1
/-- How far a loop over a function is. -/
def stR (st : V) (r : Loop) : Prop := match st with
  | .nl => r.state = .ready ∧ r.pending = none
  | .nilp => r.state = .busy ∧ r.pending = none
  | .bool true => r.state = .done ∧ r.pending = some .ret
  | .int .i64 (.ofNat i) => r.state = .done ∧ r.pending = some (.exit i)
  | _ => False
/-- So many temporaries serve for the rounds. -/
def okR (ps : Array Tmp) (a b : Code) (n : Nat) : Prop := (ps.toList.all fun p => decide (p < n)) = true ∧ cOk n a = true ∧ cOk n b = true
noncomputable def ndR (ps : Array Tmp) (a b : Code) : Nat := leastOf (okR ps a b)
omit [Gl] in
theorem ndR_s {ps : Array Tmp} {a b : Code} {n : Nat} (h : okR ps a b n) : ndR ps a b ≤ n ∧ okR ps a b (ndR ps a b) := ⟨(leastOf_spec ⟨n, h⟩).2 n h, (leastOf_spec ⟨n, h⟩).1⟩
/-- The record of a loop over a function: with the temporaries of whoever loops. -/
def LoopA (B : Nat) (C : Ctx) (id : Nat) (mask : Nat) (ps : Array Tmp) (a b : Code) (v : V) : Prop :=
  ∃ l r st n τ, C.sv id = .func (.yield l) #[] #[] ∧ B ≤ l ∧ C.w.heap[l]? = some (.loop r) ∧ (r.params = ps ∧ r.assign = a ∧ r.body = b) ∧ v = .cons st (.arr n τ) ∧ okR ps a b r.tmps.size ∧ (∀ t, R C (τ t) (.val (r.tmps.getD t undef))) ∧ stR st r ∧
    (∀ t, mBit mask t = false → τ t = .unk)
/-- Where the calls that rounds defer would be kept: there are none. -/
def DfrA (B : Nat) (C : Ctx) (id : Nat) (v : V) : Prop := v = .nilf ∧ ∃ D, C.sv id = .pointer (some ⟨D, 0, none⟩) ∧ B ≤ D ∧ C.w.heap[D]? = some (.deferred (some []))
def LoopR (B : Nat) (C : Ctx) (id : Nat) (mask : Nat) (ps : Array Tmp) (a b : Code) (v : V) : Prop := LoopA B C id mask ps a b v ∨ DfrA B C id v
def blkL? : Value → Option Nat
  | .func (.yield l) _ _ => some l
  | .map (some b) => some b
  | v => blk? v
omit [Gl] in
theorem blkL_of {v : Value} {b : Nat} (h : blk? v = some b) : blkL? v = some b := by
  cases v <;> simp [blk?] at h
  · simpa [blkL?, blk?] using h
  · simpa [blkL?, blk?] using h
/-- The entries of a map: keys and values, one after the other. -/
def ents : List MapEntry → List Value
  | [] => []
  | e :: es => e.key :: e.val :: ents es
/-- What a block of the function's own is. -/
def BR (B : Nat) (C : Ctx) (id : Nat) (blk : Blk) : Prop :=
  match blk.k with
  | .box t => ∃ g cur e, C.sv id = .pointer (some ⟨g, 0, none⟩) ∧ B ≤ g ∧ C.w.heap[g]? = some (.cells cur e (0, 0)) ∧ C.shp id = blk.sh ∧ cur.size = blk.sh.size ∧ R C blk.v (.cel blk.sh (fun i => cur[i]?) 0) ∧ e = t
  | .row e => ∃ n s cells, C.shp id = blk.sh ∧ blk.sh = .arr n s ∧ C.w.ownsRow B e s.size (C.sv id) n cells ∧ R C blk.v (.cel blk.sh (fun i => cells[i]?) 0)
  | .dead => True
  | .lp m ps a b => LoopR B C id m ps a b blk.v
  | .mp => ∃ g es clk, C.sv id = .map (some g) ∧ B ≤ g ∧ C.w.heap[g]? = some (.map es clk) ∧ R C blk.v (.list (ents es.toList))

structure SR (B : Nat) (C : Ctx) (m : Mem) : Prop where
  base : B ≤ C.w.heap.size
  okLt : ∀ u b, C.ok u b → b < C.w.heap.size
  al : ∀ id blk, m id = some blk → C.al id
  mem : ∀ id blk, m id = some blk → BR B C id blk
  sep : ∀ id id' blk blk' b, m id = some blk → blk.live = true → m id' = some blk' → blk'.live = true → blkL? (C.sv id) = some b → blkL? (C.sv id') = some b → id = id'
  own : ∀ id blk b, m id = some blk → blk.live = true → blkL? (C.sv id) = some b → ∀ u, ¬ C.ok u b
  gl : ∀ g, R C (Gl.G g) (.val (.pointer (some ⟨g, 0, none⟩)))

structure Kp (B : Nat) (C C' : Ctx) : Prop extends Keep C C' where
  below : Below B C.w C'.w
  okn : ∀ u b, C'.ok u b → (C.ok u b ∨ (u = true ∧ C.ok false b)) ∨ B ≤ b

omit [Gl] in
theorem Kp.refl (B : Nat) (C : Ctx) : Kp B C C := ⟨Keep.refl C, Below.refl B C.w, fun _ _ h => .inl (.inl h)⟩
omit [Gl] in
theorem Kp.trans {B : Nat} {a b c : Ctx} (h : Kp B a b) (k : Kp B b c) : Kp B a c := ⟨h.toKeep.trans k.toKeep, h.below.trans k.below, fun u b x => by
    rcases k.okn u b x with (h1 | ⟨rfl, h1⟩) | h1
    · exact h.okn u b h1
    · rcases h.okn false b h1 with (h2 | ⟨h2, _⟩) | h2
      · exact .inl (.inr ⟨rfl, h2⟩)
      · cases h2
      · exact .inr h2
    · exact .inr h1⟩

omit [Gl] in
theorem ownsRow_block {w w' : World} {B : Nat} {e : TypeId} {z : Nat} {v : Value} {n : Nat} {xs : List Value} (h : w.ownsRow B e z v n xs) (hb : ∀ g, blk? v = some g → w'.heap[g]? = w.heap[g]?) : w'.ownsRow B e z v n xs := by
  refine ⟨h.1, ?_⟩
  rcases h.2 with h2 | ⟨g, cap, cur, hv, hg, hh, r⟩
  · exact .inl h2
  · exact .inr ⟨g, cap, cur, hv, hg, by rw [hb g (by rw [hv]; rfl)]; exact hh, r⟩

omit [Gl] in
theorem BR.keep {B : Nat} {C C' : Ctx} {id : Nat} {blk : Blk} (h : BR B C id blk) (hal : C.al id) (hk : Keep C C')
    (hb : ∀ g, blkL? (C.sv id) = some g → C'.w.heap[g]? = C.w.heap[g]?) : BR B C' id blk := by
  unfold BR at h ⊢
  cases hkd : blk.k <;> simp only [hkd] at h ⊢
  · obtain ⟨g, cur, e, h1, h2, h3, h4, h5, h6, hT⟩ := h
    exact ⟨g, cur, e, by rw [hk.sv _ hal]; exact h1, h2, by rw [hb g (by rw [h1]; rfl)]; exact h3, by rw [hk.shp _ hal]; exact h4, h5, R.keep hk _ _ h6, hT⟩
  · obtain ⟨n, s, cells, h1, h2, h3, h4⟩ := h
    exact ⟨n, s, cells, by rw [hk.shp _ hal]; exact h1, h2, by rw [hk.sv _ hal]; exact ownsRow_block h3 fun g hg => hb g (blkL_of hg), R.keep hk _ _ h4⟩
  · rcases h with ⟨l, r, st, n, τ, h1, h2, h3, h4, h7, h8, h9, h10⟩ | ⟨h0, D, h1, h2, h3⟩
    · exact .inl ⟨l, r, st, n, τ, by rw [hk.sv _ hal]; exact h1, h2, by rw [hb l (by rw [h1]; rfl)]; exact h3, h4, h7, h8, fun t => R.keep hk _ _ (h9 t), h10⟩
    · exact .inr ⟨h0, D, by rw [hk.sv _ hal]; exact h1, h2, by rw [hb D (by rw [h1]; rfl)]; exact h3⟩
  · obtain ⟨g, es, clk, h1, h2, h3, h4⟩ := h
    exact ⟨g, es, clk, by rw [hk.sv _ hal]; exact h1, h2, by rw [hb g (by rw [h1]; rfl)]; exact h3, R.keep hk _ _ h4⟩

/-- From one state to the next: what has not changed stays. -/
theorem SR.next {B : Nat} {C C' : Ctx} {m m' : Mem} (h : SR B C m) (hk : Kp B C C') (ch : Nat → Prop)
    (hsame : ∀ id, ¬ ch id → m' id = m id)
    (hframe : ∀ id blk b, ¬ ch id → m id = some blk → blk.live = true → blkL? (C.sv id) = some b → C'.w.heap[b]? = C.w.heap[b]?)
    (hnew : ∀ id blk, ch id → m' id = some blk → C'.al id ∧ BR B C' id blk)
    (hokLt : ∀ u b, C'.ok u b → b < C'.w.heap.size)
    (hsep : ∀ id id' blk blk' b, m' id = some blk → blk.live = true → m' id' = some blk' → blk'.live = true → ch id → blkL? (C'.sv id) = some b → blkL? (C'.sv id') = some b → id = id')
    (hown : ∀ id blk b, m' id = some blk → blk.live = true → blkL? (C'.sv id) = some b → ∀ u, ¬ C'.ok u b) : SR B C' m' := by
  refine ⟨Nat.le_trans h.base hk.below.size, hokLt, ?_, ?_, ?_, hown, fun g => R.keep hk.toKeep _ _ (h.gl g)⟩
  · intro id blk hm
    by_cases hc : ch id
    · exact (hnew id blk hc hm).1
    · exact hk.al _ (h.al id blk (by rw [← hsame id hc]; exact hm))
  · intro id blk hm
    by_cases hc : ch id
    · exact (hnew id blk hc hm).2
    · have hm' : m id = some blk := by rw [← hsame id hc]; exact hm
      by_cases ha : blk.live = true
      · exact (h.mem id blk hm').keep (h.al id blk hm') hk.toKeep fun g hg => hframe id blk g hc hm' ha hg
      · unfold BR; unfold Blk.live at ha
        cases hkd : blk.k <;> simp [hkd] at ha ⊢
  · intro id id' blk blk' b h1 h2 h3 h4 h5 h6
    by_cases hc : ch id
    · exact hsep id id' blk blk' b h1 h2 h3 h4 hc h5 h6
    · by_cases hc' : ch id'
      · exact (hsep id' id blk' blk b h3 h4 h1 h2 hc' h6 h5).symm
      · rw [hsame id hc] at h1
        rw [hsame id' hc'] at h3
        rw [hk.sv _ (h.al _ _ h1)] at h5
        rw [hk.sv _ (h.al _ _ h3)] at h6
        exact h.sep id id' blk blk' b h1 h2 h3 h4 h5 h6

def upd {α : Type} (f : Nat → α) (n : Nat) (x : α) : Nat → α := fun i => if i = n then x else f i
omit [Gl] in
@[simp] theorem upd_same {α : Type} (f : Nat → α) (n : Nat) (x : α) : upd f n x n = x := by simp [upd]
omit [Gl] in
theorem upd_other {α : Type} (f : Nat → α) {n i : Nat} (x : α) (h : i ≠ n) : upd f n x i = f i := by simp [upd, h]

/-- A block of an own, alive name lies in memory. -/
theorem SR.lt {B : Nat} {C : Ctx} {m : Mem} (h : SR B C m) {id : Nat} {blk : Blk} {b : Nat} (hm : m id = some blk) (ha : blk.live = true) (hb : blkL? (C.sv id) = some b) : B ≤ b ∧ b < C.w.heap.size := by
  have := h.mem id blk hm
  unfold BR at this; unfold Blk.live at ha
  cases hkd : blk.k <;> simp only [hkd] at this ha
  · obtain ⟨g, cur, e, h1, h2, h3, _⟩ := this
    rw [h1] at hb; simp only [blkL?, blk?, Option.some.injEq] at hb; subst hb
    exact ⟨h2, (Array.getElem?_eq_some_iff.1 h3).1⟩
  · obtain ⟨n, s, cells, _, _, h3, _⟩ := this
    rcases h3.2 with ⟨h4, _⟩ | ⟨g, cap, cur, hv, hg, hh, _⟩
    · rw [h4] at hb; simp [blkL?, blk?] at hb
    · rw [hv] at hb; simp only [blkL?, blk?, Option.some.injEq] at hb; subst hb
      exact ⟨hg, (Array.getElem?_eq_some_iff.1 hh).1⟩
  · simp at ha
  · rcases this with ⟨l, r, st, n, τ, h1, h2, h3, _⟩ | ⟨_, D, h1, h2, h3⟩
    · rw [h1] at hb; simp only [blkL?, Option.some.injEq] at hb; subst hb
      exact ⟨h2, (Array.getElem?_eq_some_iff.1 h3).1⟩
    · rw [h1] at hb; simp only [blkL?, blk?, Option.some.injEq] at hb; subst hb
      exact ⟨h2, (Array.getElem?_eq_some_iff.1 h3).1⟩
  · obtain ⟨g, es, clk, h1, h2, h3, _⟩ := this
    rw [h1] at hb; simp only [blkL?, Option.some.injEq] at hb; subst hb
    exact ⟨h2, (Array.getElem?_eq_some_iff.1 h3).1⟩

/-- The world has drawn. -/
theorem SR.drew {B : Nat} {C : Ctx} {m : Mem} (h : SR B C m) : SR B { C with w := C.w.drew } m ∧ Kp B C { C with w := C.w.drew } := by
  have hk : Kp B C { C with w := C.w.drew } := ⟨⟨fun _ h => h, fun _ _ => rfl, fun _ _ => rfl, fun _ _ h => h, fun _ _ _ => rfl⟩, (Below.refl B C.w).drew, fun _ _ h => .inl (.inl h)⟩
  exact ⟨h.next hk (fun _ => False) (fun _ _ => rfl) (fun _ _ _ _ _ _ _ => rfl) (fun _ _ h => h.elim) h.okLt (fun _ _ _ _ _ _ _ _ _ h => h.elim) h.own, hk⟩

/-- A callee has been: nothing that was there has changed, and what it hands back may be looked at. -/
theorem SR.grown {B : Nat} {C : Ctx} {m : Mem} (h : SR B C m) {w' : World} (hb : Below C.w.heap.size C.w w') (ok' : Bool → Nat → Prop)
    (h1 : ∀ u b, C.ok u b → ok' u b) (h2 : ∀ u b, ok' u b → (C.ok u b ∨ (u = true ∧ C.ok false b)) ∨ (C.w.heap.size ≤ b ∧ b < w'.heap.size)) : SR B { C with w := w', ok := ok' } m ∧ Kp B C { C with w := w', ok := ok' } := by
  have hk : Kp B C { C with w := w', ok := ok' } := ⟨⟨fun _ h => h, fun _ _ => rfl, fun _ _ => rfl, h1, fun u b hb' => hb.block b (h.okLt u b hb')⟩, hb.mono h.base, fun u b hb' => (h2 u b hb').imp id fun h3 => Nat.le_trans h.base h3.1⟩
  refine ⟨h.next hk (fun _ => False) (fun _ _ => rfl) (fun id blk b _ hm ha hbb => hb.block b (h.lt hm ha hbb).2) (fun _ _ h => h.elim) ?_ (fun _ _ _ _ _ _ _ _ _ h => h.elim) ?_, hk⟩
  · intro u b hb'
    rcases h2 u b hb' with (h3 | ⟨_, h3⟩) | h3
    · exact Nat.lt_of_lt_of_le (h.okLt u b h3) hb.size
    · exact Nat.lt_of_lt_of_le (h.okLt false b h3) hb.size
    · exact h3.2
  · intro id blk b hm ha hbb u hok
    rcases h2 u b hok with (h3 | ⟨_, h3⟩) | h3
    · exact h.own id blk b hm ha hbb u h3
    · exact h.own id blk b hm ha hbb false h3
    · have := (h.lt hm ha hbb).2; omega

/-- A new block of the function's own. -/
theorem SR.alloc {B : Nat} {C : Ctx} {m : Mem} (h : SR B C m) {n : Nat} (hn : ¬ C.al n) (cur : Array Value) (e : TypeId) (blk : Blk) (sv : Value) (hsv : blkL? sv = some C.w.heap.size)
    (hbr : ∀ C' : Ctx, Keep C C' → C'.sv n = sv → C'.shp n = blk.sh → C'.w = C.w.alloc (.cells cur e) → BR B C' n blk) :
    let C' : Ctx := { C with al := fun i => C.al i ∨ i = n, sv := upd C.sv n sv, shp := upd C.shp n blk.sh, w := C.w.alloc (.cells cur e) }
    SR B C' (upd m n (some blk)) ∧ Kp B C C' := by
  intro C'
  have hne : ∀ id, C.al id → id ≠ n := fun id hid e => hn (e ▸ hid)
  have hk : Kp B C C' := ⟨⟨fun _ h => .inl h, fun id hid => upd_other _ _ (hne id hid), fun id hid => upd_other _ _ (hne id hid), fun _ _ h => h, fun u b hb' => Below.heap_alloc C.w _ b (h.okLt u b hb')⟩,
    (Below.refl B C.w).alloc h.base _, fun _ _ h => .inl (.inl h)⟩
  refine ⟨h.next hk (fun id => id = n) (fun id hid => upd_other _ _ hid) (fun id blk b _ hm ha hbb => Below.heap_alloc C.w _ b (h.lt hm ha hbb).2) ?_ ?_ ?_ ?_, hk⟩
  · intro id blk' hid hm
    subst hid
    simp only [upd_same, Option.some.injEq] at hm
    subst hm
    exact ⟨.inr rfl, hbr C' hk.toKeep (by simp [C']) (by simp [C']) rfl⟩
  · intro u b hb'
    have := h.okLt u b hb'
    show b < (C.w.alloc _).heap.size
    simp; omega
  · intro id id' blk1 blk2 b h1 h2 h3 h4 hid h5 h6
    subst hid
    simp only [C', upd_same] at h5
    rw [hsv] at h5
    simp only [Option.some.injEq] at h5
    subst h5
    by_cases hid' : id' = id
    · exact hid'.symm
    · exfalso
      rw [upd_other _ _ hid'] at h3
      simp only [C', upd_other _ _ hid'] at h6
      have := (h.lt h3 h4 h6).2
      omega
  · intro id blk1 b h1 h2 h3 u hok
    by_cases hid : id = n
    · subst hid
      simp only [C', upd_same] at h3
      rw [hsv] at h3
      simp only [Option.some.injEq] at h3
      subst h3
      have := h.okLt _ _ hok
      omega
    · rw [upd_other _ _ hid] at h1
      simp only [C', upd_other _ _ hid] at h3
      exact h.own id blk1 b h1 h2 h3 u hok

/-- A block of the function's own has another content. -/
theorem SR.write {B : Nat} {C : Ctx} {m : Mem} (h : SR B C m) {id : Nat} {blk blk' : Blk} {b : Nat} (hm : m id = some blk) (ha : blk.live = true) (hb : blkL? (C.sv id) = some b) (cs : Array Value)
    (hbr : ∀ C' : Ctx, Keep C C' → C'.sv id = C.sv id → C'.shp id = C.shp id → C'.w = C.w.setRow b cs → BR B C' id blk') :
    let C' : Ctx := { C with w := C.w.setRow b cs }
    SR B C' (upd m id (some blk')) ∧ Kp B C C' := by
  intro C'
  have hlt := h.lt hm ha hb
  have hk : Kp B C C' := ⟨⟨fun _ h => h, fun _ _ => rfl, fun _ _ => rfl, fun _ _ h => h, fun u b' hb' => setRow_other C.w b b' cs (fun e => h.own id blk b hm ha hb u (e ▸ hb'))⟩,
    ⟨rfl, rfl, rfl, by simp [C'], fun k hk => setRow_other C.w b k cs (by omega)⟩, fun _ _ h => .inl (.inl h)⟩
  refine ⟨h.next hk (fun i => i = id) (fun i hi => upd_other _ _ hi) ?_ ?_ ?_ ?_ ?_, hk⟩
  · intro i blk1 b1 hi hm1 ha1 hb1
    exact setRow_other C.w b b1 cs (fun e => hi (h.sep i id blk1 blk b hm1 ha1 hm ha (e ▸ hb1) hb))
  · intro i blk1 hi hm1
    subst hi
    simp only [upd_same, Option.some.injEq] at hm1
    subst hm1
    exact ⟨h.al i blk hm, hbr C' hk.toKeep rfl rfl rfl⟩
  · intro u b' hb'
    have := h.okLt u b' hb'
    show b' < (C.w.setRow b cs).heap.size
    simpa using this
  · intro i i' blk1 blk2 b1 h1 h2 h3 h4 hi h5 h6
    subst hi
    by_cases hi' : i' = i
    · exact hi'.symm
    · rw [upd_other _ _ hi'] at h3
      exact h.sep i i' blk blk2 b1 hm ha h3 h4 h5 h6
  · intro i blk1 b1 h1 h2 h3 u hok
    by_cases hi : i = id
    · subst hi; exact h.own i blk b1 hm ha h3 u hok
    · rw [upd_other _ _ hi] at h1
      exact h.own i blk1 b1 h1 h2 h3 u hok

end Go.Ab
