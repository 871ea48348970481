/- Values and memory, for a run that the kernel carries out; what they stand for. No condition. -/
import Derived.Test.YtkjoldifiniliaaAb18
set_option linter.unusedVariables false
set_option linter.unusedSimpArgs false
set_option linter.constructorNameAsVariable false
namespace Go.Ab
open Go.RowKit
noncomputable section

/-! ### Names -/
inductive Dg where
  | a | b | c | d
  deriving DecidableEq

abbrev Pth := List Dg

def Dg.n : Dg → Nat
  | .a => 0
  | .b => 1
  | .c => 2
  | .d => 3
def Dg.of (n : Nat) : Dg := @Nat.rec (fun _ => Dg) .a (fun n _ => @Nat.rec (fun _ => Dg) .b (fun n _ => @Nat.rec (fun _ => Dg) .c (fun _ _ => .d) n) n) n
theorem Dg.n_of : ∀ {n : Nat}, n < 4 → (Dg.of n).n = n
  | 0, _ => rfl
  | 1, _ => rfl
  | 2, _ => rfl
  | 3, _ => rfl
  | n + 4, h => by omega
theorem Dg.of_n (x : Dg) : Dg.of x.n = x := by cases x <;> rfl
theorem Dg.lt (x : Dg) : x.n < 4 := by cases x <;> decide

def num : Pth → Nat
  | [] => 0
  | x :: p => 4 * num p + x.n + 1

def encF : Nat → Nat → Pth
  | 0, _ => []
  | _ + 1, 0 => []
  | f + 1, n + 1 => Dg.of (Nat.mod n 4) :: encF f (Nat.div n 4)
def enc (n : Nat) : Pth := encF n n

theorem num_encF : ∀ (f n : Nat), n ≤ f → num (encF f n) = n
  | 0, n, h => by obtain rfl : n = 0 := by omega
                  rfl
  | f + 1, 0, _ => rfl
  | f + 1, n + 1, h => by
    show 4 * num (encF f (n / 4)) + (Dg.of (n % 4)).n + 1 = n + 1
    rw [num_encF f (n / 4) (by omega), Dg.n_of (Nat.mod_lt _ (by omega))]
    omega
theorem num_enc (n : Nat) : num (enc n) = n := num_encF n n (Nat.le_refl _)
theorem num_inj : ∀ {p q : Pth}, num p = num q → p = q
  | [], [], _ => rfl
  | [], y :: q, h => by simp only [num] at h; omega
  | x :: p, [], h => by simp only [num] at h; omega
  | x :: p, y :: q, h => by
    simp only [num] at h
    have hx := x.lt; have hy := y.lt
    have h1 : x.n = y.n := by omega
    have h2 : num p = num q := by omega
    rw [num_inj h2, ← Dg.of_n x, ← Dg.of_n y, h1]
theorem enc_num (p : Pth) : enc (num p) = p := num_inj (num_enc _)

/-- The next name. -/
def psucc (p : Pth) : Pth := @List.rec Dg (fun _ => Pth) [.a] (fun x p ih => @Dg.rec (fun _ => Pth) (.b :: p) (.c :: p) (.d :: p) (.a :: ih) x) p
theorem num_psucc : ∀ (p : Pth), num (psucc p) = num p + 1
  | [] => rfl
  | .a :: p => rfl
  | .b :: p => rfl
  | .c :: p => rfl
  | .d :: p => by
    show 4 * num (psucc p) + 0 + 1 = 4 * num p + 3 + 1 + 1
    rw [num_psucc p]; omega

/-! ### Tries -/
inductive Tr (α : Type) where
  | e
  | m (a b c d : Tr α)
  | n (x : α) (a b c d : Tr α)
  deriving Inhabited

section
variable {α : Type}
def pick4 (g : Dg) (a b c d : Tr α) : Tr α := @Dg.rec (fun _ => Tr α) a b c d g
def get0 (x : α) (t : Tr α) : α := @Tr.rec α (fun _ => α) x (fun _ _ _ _ _ _ _ _ => x) (fun y _ _ _ _ _ _ _ _ => y) t
def get1 (x : α) (g : Dg) (ih : Tr α → α) (t : Tr α) : α := @Tr.rec α (fun _ => α) x (fun a b c d _ _ _ _ => ih (pick4 g a b c d)) (fun _ a b c d _ _ _ _ => ih (pick4 g a b c d)) t
/-- What lies at a place; 'x' if nothing does. -/
def get (x : α) (p : Pth) : Tr α → α := @List.rec Dg (fun _ => Tr α → α) (get0 x) (fun g _ ih => get1 x g ih) p
def set0 (x : α) (t : Tr α) : Tr α := @Tr.rec α (fun _ => Tr α) (.n x .e .e .e .e) (fun a b c d _ _ _ _ => .n x a b c d) (fun _ a b c d _ _ _ _ => .n x a b c d) t
def set1m (g : Dg) (ih : Tr α → Tr α) (a b c d : Tr α) : Tr α := @Dg.rec (fun _ => Tr α) (.m (ih a) b c d) (.m a (ih b) c d) (.m a b (ih c) d) (.m a b c (ih d)) g
def set1n (g : Dg) (ih : Tr α → Tr α) (x : α) (a b c d : Tr α) : Tr α := @Dg.rec (fun _ => Tr α) (.n x (ih a) b c d) (.n x a (ih b) c d) (.n x a b (ih c) d) (.n x a b c (ih d)) g
def set1 (g : Dg) (ih : Tr α → Tr α) (t : Tr α) : Tr α := @Tr.rec α (fun _ => Tr α) (set1m g ih .e .e .e .e) (fun a b c d _ _ _ _ => set1m g ih a b c d) (fun x a b c d _ _ _ _ => set1n g ih x a b c d) t
def set (x : α) (p : Pth) : Tr α → Tr α := @List.rec Dg (fun _ => Tr α → Tr α) (set0 x) (fun g _ ih => set1 g ih) p

theorem get_e (x : α) : ∀ p, get x p .e = x
  | [] => rfl
  | _ :: _ => rfl
theorem get_set_same (d x : α) : ∀ (p : Pth) (t : Tr α), get d p (set x p t) = x
  | [], t => by cases t <;> rfl
  | g :: p, t => by
    have ih := get_set_same d x p
    cases t <;> cases g <;> exact ih _
theorem get_set_ne (d x : α) : ∀ (p q : Pth) (t : Tr α), p ≠ q → get d p (set x q t) = get d p t
  | [], [], t, h => absurd rfl h
  | [], g :: q, t, _ => by cases t <;> cases g <;> rfl
  | g :: p, [], t, _ => by cases t <;> first | rfl | (cases g <;> exact get_e d p)
  | g :: p, g' :: q, t, h => by
    by_cases hg : g = g'
    · subst hg
      have hpq : p ≠ q := fun e => h (by rw [e])
      have ih := fun t => get_set_ne d x p q t hpq
      cases t with
      | e =>
        have h1 := ih .e
        rw [get_e] at h1
        cases g <;> exact h1
      | m a b c e => cases g <;> exact ih _
      | n y a b c e => cases g <;> exact ih _
    · cases t with
      | e => cases g <;> cases g' <;> first | exact absurd rfl hg | exact get_e d p
      | m a b c e => cases g <;> cases g' <;> first | exact absurd rfl hg | rfl
      | n y a b c e => cases g <;> cases g' <;> first | exact absurd rfl hg | rfl
theorem get_set (d x : α) (p q : Pth) (t : Tr α) : get d p (set x q t) = if p = q then x else get d p t := by
  by_cases h : p = q
  · subst h; rw [if_pos rfl, get_set_same]
  · rw [if_neg h, get_set_ne d x p q t h]
end

/-! ### Values -/
inductive X where
  | int (k : IntKind) (n : Int)
  | bool (b : Bool)
  | sint (k : IntKind) (n : Int)
  | sbool (b : Bool)
  | str (s : ByteArray)
  | agg (c : Nat) (l : List X)
  | arr (c : Nat) (n : Nat) (t : Tr X) (d : X)
  | ptr (id : Pth) (p : List Step) (c : Nat)
  | row (id : Pth) (c : Nat) (n : Nat)
  | sl (id : Pth) (p : List Step) (c : Nat) (off len : Nat) (cap : Option Nat)
  | nilp
  | nils
  | nilf
  | fn (f : FuncId) (cap : List X)
  | tup (l : List X)
  | box (v : X)
  | rowb (e : TypeId) (v : X)
  | unk
  deriving Inhabited

/-- Shapes by their numbers. -/
def shOf (P : Program) (c : Nat) : Shape := (tshape P c).getD .sc

mutual
def X.toV (P : Program) : X → V
  | .int k n => .int k n
  | .bool b => .bool b
  | .sint k n => .int k n
  | .sbool b => .bool b
  | .str s => .str s
  | .agg _ l => X.toVL P l
  | .arr _ n t d => .arr n fun i => (X.toVT P t (enc i)).getD (d.toV P)
  | .ptr id p c => .ptr (num id) p (shOf P c)
  | .row id c n => .row (num id) (shOf P c) n
  | .sl id p c off len cap => .sl (num id) p (shOf P c) off len cap
  | .nilp => .nilp
  | .nils => .nils
  | .nilf => .nilf
  | .fn f l => .fn f (X.toVL P l)
  | .tup l => .tup (X.toVL P l)
  | .box _ => .unk
  | .rowb _ _ => .unk
  | .unk => .unk
def X.toVL (P : Program) : List X → V
  | [] => .nl
  | x :: l => .cons (x.toV P) (X.toVL P l)
def X.toVT (P : Program) : Tr X → Pth → Option V
  | .e, _ => none
  | .m a b c d, p => match p with
    | [] => none
    | .a :: q => X.toVT P a q
    | .b :: q => X.toVT P b q
    | .c :: q => X.toVT P c q
    | .d :: q => X.toVT P d q
  | .n x a b c d, p => match p with
    | [] => some (x.toV P)
    | .a :: q => X.toVT P a q
    | .b :: q => X.toVT P b q
    | .c :: q => X.toVT P c q
    | .d :: q => X.toVT P d q
end

theorem toVT_get (P : Program) (d : X) : ∀ (p : Pth) (t : Tr X), (X.toVT P t p).getD (d.toV P) = (get d p t).toV P
  | [], t => by cases t <;> simp only [X.toVT, Option.getD_none, Option.getD_some] <;> rfl
  | g :: p, t => by
    have ih := toVT_get P d p
    cases t with
    | e => simp only [X.toVT, Option.getD_none]; rfl
    | m a b c e => cases g <;> simp only [X.toVT, ih] <;> rfl
    | n x a b c e => cases g <;> simp only [X.toVT, ih] <;> rfl

theorem toV_arr (P : Program) (c n : Nat) (t : Tr X) (d : X) : (X.arr c n t d).toV P = .arr n fun i => (get d (enc i) t).toV P := by
  simp only [X.toV, toVT_get]

/-! ### Parts -/
def nthX (l : List X) : Nat → X := @List.rec X (fun _ => Nat → X) (fun _ => .unk) (fun x _ ih k => @Nat.rec (fun _ => X) x (fun k _ => ih k) k) l
def updX (f : X → X) (l : List X) : Nat → List X := @List.rec X (fun _ => Nat → List X) (fun _ => []) (fun x l ih k => @Nat.rec (fun _ => List X) (f x :: l) (fun k _ => x :: ih k) k) l
def fldX (k : Nat) (v : X) : X := @X.rec (fun _ => X) (fun _ => Unit) (fun _ => Unit) (fun _ _ => .unk) (fun _ => .unk) (fun _ _ => .unk) (fun _ => .unk) (fun _ => .unk) (fun a0 a1 _ => (fun _ l => nthX l k) a0 a1) (fun _ _ _ _ _ _ => .unk) (fun _ _ _ => .unk) (fun _ _ _ => .unk) (fun _ _ _ _ _ _ => .unk) .unk .unk .unk (fun _ _ _ => .unk) (fun _ _ => .unk) (fun _ _ => .unk) (fun _ _ _ => .unk) .unk () (fun _ _ _ _ => ()) () (fun _ _ _ _ _ _ _ _ => ()) (fun _ _ _ _ _ _ _ _ _ _ => ()) v
def idxX (i : Nat) (v : X) : X := @X.rec (fun _ => X) (fun _ => Unit) (fun _ => Unit) (fun _ _ => .unk) (fun _ => .unk) (fun _ _ => .unk) (fun _ => .unk) (fun _ => .unk) (fun _ _ _ => .unk) (fun a0 a1 a2 a3 _ _ => (fun _ _ t d => get d (enc i) t) a0 a1 a2 a3) (fun _ _ _ => .unk) (fun _ _ _ => .unk) (fun _ _ _ _ _ _ => .unk) .unk .unk .unk (fun _ _ _ => .unk) (fun _ _ => .unk) (fun _ _ => .unk) (fun _ _ _ => .unk) .unk () (fun _ _ _ _ => ()) () (fun _ _ _ _ _ _ _ _ => ()) (fun _ _ _ _ _ _ _ _ _ _ => ()) v
def stepX (s : Step) (v : X) : X := @Step.rec (fun _ => X) (fun k => fldX k v) (fun i => idxX i v) s
def pathX (p : List Step) : X → X := @List.rec Step (fun _ => X → X) (fun v => v) (fun s _ ih v => ih (stepX s v)) p
def sfX (k : Nat) (f : X → X) (v : X) : X := @X.rec (fun _ => X) (fun _ => Unit) (fun _ => Unit) (fun _ _ => v) (fun _ => v) (fun _ _ => v) (fun _ => v) (fun _ => v) (fun a0 a1 _ => (fun c l => .agg c (updX f l k)) a0 a1) (fun _ _ _ _ _ _ => v) (fun _ _ _ => v) (fun _ _ _ => v) (fun _ _ _ _ _ _ => v) v v v (fun _ _ _ => v) (fun _ _ => v) (fun _ _ => v) (fun _ _ _ => v) v () (fun _ _ _ _ => ()) () (fun _ _ _ _ _ _ _ _ => ()) (fun _ _ _ _ _ _ _ _ _ _ => ()) v
def siX (i : Nat) (f : X → X) (v : X) : X := @X.rec (fun _ => X) (fun _ => Unit) (fun _ => Unit) (fun _ _ => v) (fun _ => v) (fun _ _ => v) (fun _ => v) (fun _ => v) (fun _ _ _ => v) (fun a0 a1 a2 a3 _ _ => (fun c n t d => .arr c n (set (f (get d (enc i) t)) (enc i) t) d) a0 a1 a2 a3) (fun _ _ _ => v) (fun _ _ _ => v) (fun _ _ _ _ _ _ => v) v v v (fun _ _ _ => v) (fun _ _ => v) (fun _ _ => v) (fun _ _ _ => v) v () (fun _ _ _ _ => ()) () (fun _ _ _ _ _ _ _ _ => ()) (fun _ _ _ _ _ _ _ _ _ _ => ()) v
def supX (s : Step) (f : X → X) (v : X) : X := @Step.rec (fun _ => X) (fun k => sfX k f v) (fun i => siX i f v) s
/-- What lies at a path, replaced. -/
def setX (x : X) (p : List Step) : X → X := @List.rec Step (fun _ => X → X) (fun _ => x) (fun s _ ih v => supX s ih v) p


theorem toVL_nth (P : Program) : ∀ (l : List X) (k : Nat), (nthX l k).toV P = V.fld k (X.toVL P l)
  | [], k => by cases k <;> rfl
  | x :: l, 0 => rfl
  | x :: l, k + 1 => toVL_nth P l k
theorem toVL_upd (P : Program) (f : X → X) (u : V → V) (h : ∀ x, (f x).toV P = u (x.toV P)) : ∀ (l : List X) (k : Nat), X.toVL P (updX f l k) = V.setFld k u (X.toVL P l)
  | [], k => by cases k <;> rfl
  | x :: l, 0 => by
    show V.cons ((f x).toV P) _ = V.cons _ _
    rw [h]
  | x :: l, k + 1 => by
    show V.cons (x.toV P) (X.toVL P (updX f l k)) = V.cons _ _
    rw [toVL_upd P f u h l k]
    try rfl
theorem toV_step (P : Program) (s : Step) (v : X) : (stepX s v).toV P = (v.toV P).step s := by
  cases s with
  | fld k =>
    cases v <;> first
      | exact toVL_nth P _ k
      | (cases k <;> rfl)
  | idx i =>
    cases v <;> first
      | rfl
      | (rw [toV_arr]; rfl)
      | (rename_i c l; cases l <;> rfl)
theorem toV_path (P : Program) : ∀ (p : List Step) (v : X), (pathX p v).toV P = V.path p (v.toV P)
  | [], v => rfl
  | s :: p, v => by
    show (pathX p (stepX s v)).toV P = V.path p ((v.toV P).step s)
    rw [toV_path P p, toV_step]
theorem enc_inj {i j : Nat} (h : enc i = enc j) : i = j := by rw [← num_enc i, h, num_enc]
theorem toV_set (P : Program) (x : X) : ∀ (p : List Step) (v : X), (setX x p v).toV P = V.set p (x.toV P) (v.toV P)
  | [], v => rfl
  | .fld k :: p, v => by
    have ih := toV_set P x p
    cases v <;> first
      | exact toVL_upd P _ _ ih _ k
      | (cases k <;> rfl)
  | .idx i :: p, v => by
    have ih := toV_set P x p
    cases v <;> first
      | rfl
      | (rename_i c l; cases l <;> rfl)
      | skip
    rename_i c n t d
    show (X.arr c n (set (setX x p (get d (enc i) t)) (enc i) t) d).toV P = V.set (.idx i :: p) (x.toV P) ((X.arr c n t d).toV P)
    rw [toV_arr, toV_arr]
    show V.arr n _ = V.arr n _
    congr 1
    funext j
    rw [V.ite_eq, get_set]
    by_cases hj : j = i
    · subst hj
      rw [if_pos rfl, ih, beq_self_eq_true, cond_true]
    · have hne : ¬ enc j = enc i := fun e => hj (enc_inj e)
      have hb : (j == i) = false := by simpa using hj
      rw [if_neg hne, hb, cond_false]

/-! ### Well-formed -/
def shX (P : Program) : X → Shape
  | .agg c _ => shOf P c
  | .arr c n _ _ => .arr n (shOf P c)
  | _ => .sc
def shL (P : Program) : List X → Shape
  | [] => .nl
  | x :: l => .cons (shX P x) (shL P l)
/-- Not a tuple, not a block of memory. -/
def X.plain : X → Bool
  | .tup _ => false
  | .box _ => false
  | .rowb _ _ => false
  | _ => true
inductive WF (P : Program) : X → Prop where
  | leaf {x : X} (h : x.plain = true) (h1 : ∀ c l, x ≠ .agg c l) (h2 : ∀ c n t d, x ≠ .arr c n t d) (h3 : ∀ f l, x ≠ .fn f l) : WF P x
  | fn {f : FuncId} {l : List X} (h : ∀ x ∈ l, WF P x) : WF P (.fn f l)
  | agg {c : Nat} {l : List X} (h : shOf P c = shL P l) (h1 : ∀ x ∈ l, WF P x) : WF P (.agg c l)
  | arr {c n : Nat} {t : Tr X} {d : X} (h1 : ∀ p, WF P (get d p t)) (h2 : ∀ p, shX P (get d p t) = shOf P c) : WF P (.arr c n t d)

theorem WF.plain {P : Program} {x : X} (h : WF P x) : x.plain = true := by
  cases h with
  | leaf h => exact h
  | fn => rfl
  | agg => rfl
  | arr => rfl

theorem fits_L {P : Program} : ∀ {l : List X}, (∀ x ∈ l, (x.toV P).fits (shX P x) = true) → (X.toVL P l).fits (shL P l) = true
  | [], _ => rfl
  | x :: l, h => by
    simp only [X.toVL, shL, V.fits, Bool.and_eq_true]
    exact ⟨h x (by simp), fits_L fun y hy => h y (by simp [hy])⟩
theorem WF.fits {P : Program} {x : X} (h : WF P x) : (x.toV P).fits (shX P x) = true := by
  induction h with
  | @leaf x h h1 h2 h3 =>
    cases x <;> first
      | rfl
      | exact absurd rfl (h1 _ _)
      | exact absurd rfl (h2 _ _ _ _)
      | cases h
  | fn h ih => rfl
  | @agg c l h h1 ih =>
    show (X.toVL P l).fits (shOf P c) = true
    rw [h]
    exact fits_L ih
  | @arr c n t d h1 h2 ih =>
    rw [toV_arr]
    show (V.arr n _).fits (.arr n (shOf P c)) = true
    simp only [V.fits, beq_self_eq_true, Bool.true_and, List.all_eq_true, List.mem_range]
    intro i _
    have := ih (enc i)
    rw [h2] at this
    exact this

theorem shL_fld {P : Program} : ∀ {l : List X} {k d : Nat} {s : Shape}, (shL P l).fld k = some (d, s) → nthX l k ∈ l ∧ shX P (nthX l k) = s
  | [], k, d, s, h => by cases k <;> simp [shL, Shape.fld] at h
  | x :: l, 0, d, s, h => by
    simp only [shL, Shape.fld, Option.some.injEq, Prod.mk.injEq] at h
    exact ⟨(by show x ∈ x :: l; simp), h.2⟩
  | x :: l, k + 1, d, s, h => by
    simp only [shL, Shape.fld, Option.map_eq_some_iff] at h
    obtain ⟨⟨d', s'⟩, h1, h2⟩ := h
    simp only [Prod.mk.injEq] at h2
    obtain ⟨_, rfl⟩ := h2
    obtain ⟨h3, h4⟩ := shL_fld (l := l) h1
    exact ⟨List.mem_cons_of_mem _ h3, h4⟩
theorem WF.step {P : Program} {v : X} {s : Step} {d : Nat} {t : Shape} (h : WF P v) (hs : (shX P v).step s = some (d, t)) : WF P (stepX s v) ∧ shX P (stepX s v) = t := by
  cases h with
  | leaf h h1 h2 h3 =>
    have hsc : shX P v = .sc := by
      cases v <;> first
        | rfl
        | exact absurd rfl (h1 _ _)
        | exact absurd rfl (h2 _ _ _ _)
    rw [hsc] at hs
    cases s with
    | fld k => cases k <;> simp [Shape.step, Shape.fld] at hs
    | idx i => simp [Shape.step] at hs
  | fn h1 =>
    simp only [shX] at hs
    cases s with
    | fld k => cases k <;> simp [Shape.step, Shape.fld] at hs
    | idx i => simp [Shape.step] at hs
  | @agg c l h h1 =>
    simp only [shX, h] at hs
    cases s with
    | fld k =>
      obtain ⟨h3, h4⟩ := shL_fld hs
      exact ⟨h1 _ h3, h4⟩
    | idx i => cases l <;> simp [Shape.step, shL] at hs
  | @arr c n t d h1 h2 =>
    simp only [shX] at hs
    cases s with
    | fld k => cases k <;> simp [Shape.step, Shape.fld] at hs
    | idx i =>
      simp only [Shape.step] at hs
      split at hs
      · simp only [Option.some.injEq, Prod.mk.injEq] at hs
        obtain ⟨_, rfl⟩ := hs
        exact ⟨h1 _, h2 _⟩
      · cases hs
theorem WF.path {P : Program} : ∀ {p : List Step} {v : X} {d : Nat} {t : Shape}, WF P v → Shape.path p (shX P v) = some (d, t) → WF P (pathX p v) ∧ shX P (pathX p v) = t
  | [], v, d, t, h, hs => by
    simp only [Shape.path, Option.some.injEq, Prod.mk.injEq] at hs
    exact ⟨h, hs.2⟩
  | s :: p, v, d, t, h, hs => by
    simp only [Shape.path] at hs
    split at hs
    · rename_i d1 t1 h1
      simp only [Option.map_eq_some_iff] at hs
      obtain ⟨⟨d2, t2⟩, h2, h3⟩ := hs
      simp only [Prod.mk.injEq] at h3
      obtain ⟨_, rfl⟩ := h3
      obtain ⟨h4, h5⟩ := h.step h1
      exact WF.path (p := p) h4 (by rw [h5]; exact h2)
    · cases hs
theorem shL_upd {P : Program} {f : X → X} : ∀ {l : List X} {k : Nat}, shX P (f (nthX l k)) = shX P (nthX l k) → shL P (updX f l k) = shL P l
  | [], k, h => by cases k <;> rfl
  | x :: l, 0, h => by
    show Shape.cons (shX P (f x)) _ = Shape.cons _ _
    rw [show shX P (f x) = shX P x from h]
  | x :: l, k + 1, h => by
    show Shape.cons (shX P x) (shL P (updX f l k)) = Shape.cons _ _
    rw [shL_upd (l := l) (k := k) h]
theorem mem_upd {f : X → X} : ∀ {l : List X} {k : Nat} {y : X}, y ∈ updX f l k → y ∈ l ∨ y = f (nthX l k)
  | [], k, y, h => by cases k <;> simp [updX] at h
  | x :: l, 0, y, h => by
    rcases List.mem_cons.1 (show y ∈ f x :: l from h) with rfl | h
    · exact .inr rfl
    · exact .inl (List.mem_cons_of_mem _ h)
  | x :: l, k + 1, y, h => by
    rcases List.mem_cons.1 (show y ∈ x :: updX f l k from h) with rfl | h
    · exact .inl (by simp)
    · rcases mem_upd (l := l) h with h | h
      · exact .inl (List.mem_cons_of_mem _ h)
      · exact .inr h
theorem nthX_mem : ∀ {l : List X} {k : Nat}, nthX l k ∈ l ∨ nthX l k = .unk
  | [], k => by cases k <;> exact .inr rfl
  | x :: l, 0 => .inl (by show x ∈ x :: l; simp)
  | x :: l, k + 1 => (nthX_mem (l := l) (k := k)).imp (List.mem_cons_of_mem _) id
theorem WF.unk {P : Program} : WF P .unk := .leaf rfl (by intro c l e; cases e) (by intro c n t d e; cases e) (by intro c l e; cases e)
theorem WF.stepX {P : Program} {v : X} (s : Step) (h : WF P v) : WF P (stepX s v) := by
  cases h with
  | leaf h h1 h2 h3 =>
    cases v <;> first
      | exact absurd rfl (h1 _ _)
      | exact absurd rfl (h2 _ _ _ _)
      | (cases s <;> exact WF.unk)
  | fn h1 => cases s <;> exact WF.unk
  | @agg c l h h1 =>
    cases s with
    | fld k =>
      show WF P (nthX l k)
      rcases nthX_mem (l := l) (k := k) with h2 | h2
      · exact h1 _ h2
      · rw [h2]; exact WF.unk
    | idx i => exact WF.unk
  | @arr c n t d h1 h2 =>
    cases s with
    | fld k => exact WF.unk
    | idx i => exact h1 _
theorem WF.pathX {P : Program} : ∀ (p : List Step) {v : X}, WF P v → WF P (pathX p v)
  | [], v, h => h
  | s :: p, v, h => WF.pathX p (h.stepX s)
theorem WF.set {P : Program} {x : X} (hx : WF P x) : ∀ (p : List Step) {v : X}, WF P v → shX P (Go.Ab.pathX p v) = shX P x → WF P (setX x p v) ∧ shX P (setX x p v) = shX P v
  | [], v, h, hs => ⟨hx, hs.symm⟩
  | s :: p, v, h, hs => by
    obtain ⟨h6, h7⟩ := WF.set hx p (h.stepX s) hs
    cases h with
    | leaf h h8 h9 h10 =>
      cases v <;> first
        | exact absurd rfl (h8 _ _)
        | exact absurd rfl (h9 _ _ _ _)
        | (cases s <;> exact ⟨.leaf h h8 h9 h10, rfl⟩)
    | fn h1 => cases s <;> exact ⟨.fn h1, rfl⟩
    | @agg c l h h8 =>
      cases s with
      | fld k =>
        refine ⟨WF.agg (c := c) (l := updX (setX x p) l k) ?_ ?_, rfl⟩
        · rw [shL_upd h7]; exact h
        · intro y hy
          rcases mem_upd hy with hy | rfl
          · exact h8 y hy
          · exact h6
      | idx i => exact ⟨.agg h h8, rfl⟩
    | @arr c n t d h8 h9 =>
      cases s with
      | fld k => exact ⟨.arr h8 h9, rfl⟩
      | idx i =>
        have hg : ∀ q, get d q (Go.Ab.set (setX x p (get d (enc i) t)) (enc i) t) = if q = enc i then setX x p (get d (enc i) t) else get d q t := fun q => get_set _ _ _ _ _
        refine ⟨WF.arr (fun q => ?_) (fun q => ?_), rfl⟩
        · show WF P (get d q (Go.Ab.set (setX x p (get d (enc i) t)) (enc i) t))
          rw [hg]; split
          · exact h6
          · exact h8 q
        · show shX P (get d q (Go.Ab.set (setX x p (get d (enc i) t)) (enc i) t)) = shOf P c
          rw [hg]; split
          · exact h7.trans (h9 _)
          · exact h9 q

/-! ### One after the other: what is handed on has been worked out -/
def fX (x : X) (K : X → Prop) : Prop := @X.rec (fun _ => Prop) (fun _ => Unit) (fun _ => Unit) (fun b0 b1 => K (.int b0 b1)) (fun b0 => K (.bool b0)) (fun b0 b1 => K (.sint b0 b1)) (fun b0 => K (.sbool b0)) (fun b0 => K (.str b0)) (fun a0 a1 _ => (fun b0 b1 => K (.agg b0 b1)) a0 a1) (fun a0 a1 a2 a3 _ _ => (fun b0 b1 b2 b3 => K (.arr b0 b1 b2 b3)) a0 a1 a2 a3) (fun b0 b1 b2 => K (.ptr b0 b1 b2)) (fun b0 b1 b2 => K (.row b0 b1 b2)) (fun b0 b1 b2 b3 b4 b5 => K (.sl b0 b1 b2 b3 b4 b5)) (K .nilp) (K .nils) (K .nilf) (fun a0 a1 _ => (fun b0 b1 => K (.fn b0 b1)) a0 a1) (fun a0 _ => (fun b0 => K (.tup b0)) a0) (fun a0 _ => (fun b0 => K (.box b0)) a0) (fun a0 a1 _ => (fun b0 b1 => K (.rowb b0 b1)) a0 a1) (K .unk) () (fun _ _ _ _ => ()) () (fun _ _ _ _ _ _ _ _ => ()) (fun _ _ _ _ _ _ _ _ _ _ => ()) x
theorem fX_eq (x : X) (K : X → Prop) : fX x K = K x := by cases x <;> rfl
def fT0 (x : X) (t : Tr X) (K : Tr X → Prop) : Prop := @Tr.rec X (fun _ => Prop) (K (.n x .e .e .e .e)) (fun a b c d _ _ _ _ => K (.n x a b c d)) (fun _ a b c d _ _ _ _ => K (.n x a b c d)) t
def fTm (g : Dg) (ih : Tr X → (Tr X → Prop) → Prop) (K : Tr X → Prop) (a b c d : Tr X) : Prop := @Dg.rec (fun _ => Prop) (ih a fun a => K (.m a b c d)) (ih b fun b => K (.m a b c d)) (ih c fun c => K (.m a b c d)) (ih d fun d => K (.m a b c d)) g
def fTn (g : Dg) (ih : Tr X → (Tr X → Prop) → Prop) (K : Tr X → Prop) (x : X) (a b c d : Tr X) : Prop := @Dg.rec (fun _ => Prop) (ih a fun a => K (.n x a b c d)) (ih b fun b => K (.n x a b c d)) (ih c fun c => K (.n x a b c d)) (ih d fun d => K (.n x a b c d)) g
def fT1 (g : Dg) (ih : Tr X → (Tr X → Prop) → Prop) (t : Tr X) (K : Tr X → Prop) : Prop := @Tr.rec X (fun _ => Prop) (fTm g ih K .e .e .e .e) (fun a b c d _ _ _ _ => fTm g ih K a b c d) (fun x a b c d _ _ _ _ => fTn g ih K x a b c d) t
def setTK (x : X) (p : Pth) : Tr X → (Tr X → Prop) → Prop := @List.rec Dg (fun _ => Tr X → (Tr X → Prop) → Prop) (fT0 x) (fun g _ ih => fT1 g ih) p
theorem setTK_eq (x : X) : ∀ (p : Pth) (t : Tr X) (K : Tr X → Prop), setTK x p t K = K (set x p t)
  | [], t, K => by cases t <;> rfl
  | g :: p, t, K => by
    have ih := setTK_eq x p
    cases t with
    | e => cases g <;> exact ih _ _
    | m a b c d => cases g <;> exact ih _ _
    | n y a b c d => cases g <;> exact ih _ _
def updK (ih : X → (X → Prop) → Prop) (l : List X) : Nat → (List X → Prop) → Prop :=
  @List.rec X (fun _ => Nat → (List X → Prop) → Prop) (fun _ K => K []) (fun x l ihl k K => @Nat.rec (fun _ => Prop) (ih x fun x => K (x :: l)) (fun k _ => ihl k fun l => K (x :: l)) k) l
def sfK (k : Nat) (ih : X → (X → Prop) → Prop) (v : X) (K : X → Prop) : Prop := @X.rec (fun _ => Prop) (fun _ => Unit) (fun _ => Unit) (fun _ _ => (K v)) (fun _ => (K v)) (fun _ _ => (K v)) (fun _ => (K v)) (fun _ => (K v)) (fun a0 a1 _ => (fun c l => updK ih l k fun l => K (.agg c l)) a0 a1) (fun _ _ _ _ _ _ => (K v)) (fun _ _ _ => (K v)) (fun _ _ _ => (K v)) (fun _ _ _ _ _ _ => (K v)) (K v) (K v) (K v) (fun _ _ _ => (K v)) (fun _ _ => (K v)) (fun _ _ => (K v)) (fun _ _ _ => (K v)) (K v) () (fun _ _ _ _ => ()) () (fun _ _ _ _ _ _ _ _ => ()) (fun _ _ _ _ _ _ _ _ _ _ => ()) v
def siK (i : Nat) (ih : X → (X → Prop) → Prop) (v : X) (K : X → Prop) : Prop := @X.rec (fun _ => Prop) (fun _ => Unit) (fun _ => Unit) (fun _ _ => (K v)) (fun _ => (K v)) (fun _ _ => (K v)) (fun _ => (K v)) (fun _ => (K v)) (fun _ _ _ => (K v)) (fun a0 a1 a2 a3 _ _ => (fun c n t d => ih (get d (enc i) t) fun x => setTK x (enc i) t fun t => K (.arr c n t d)) a0 a1 a2 a3) (fun _ _ _ => (K v)) (fun _ _ _ => (K v)) (fun _ _ _ _ _ _ => (K v)) (K v) (K v) (K v) (fun _ _ _ => (K v)) (fun _ _ => (K v)) (fun _ _ => (K v)) (fun _ _ _ => (K v)) (K v) () (fun _ _ _ _ => ()) () (fun _ _ _ _ _ _ _ _ => ()) (fun _ _ _ _ _ _ _ _ _ _ => ()) v
def setXK (q : X → Prop → Prop) (x : X) (p : List Step) : X → (X → Prop) → Prop := @List.rec Step (fun _ => X → (X → Prop) → Prop) (fun v K => q v (K x)) (fun s _ ih v K => @Step.rec (fun _ => Prop) (fun k => sfK k ih v K) (fun i => siK i ih v K) s) p
theorem setXK_inv {P : Program} {q : X → Prop → Prop} {x : X} {c : Shape} (hq : ∀ v p, q v p → shX P v = c ∧ p) (hx : WF P x) (hxc : shX P x = c) : ∀ (p : List Step) (v : X) (K : X → Prop), WF P v → setXK q x p v K → K (setX x p v) ∧ WF P (setX x p v) ∧ shX P (setX x p v) = shX P v
  | [], v, K, hv, h => ⟨(hq _ _ h).2, hx, hxc.trans (hq _ _ h).1.symm⟩
  | .fld k :: p, v, K, hv, h => by
    have ih := setXK_inv hq hx hxc p
    cases v with
    | agg c1 l =>
      have hl : ∀ x ∈ l, WF P x := by
        cases hv with
        | leaf h h1 h2 h3 => exact absurd rfl (h1 _ _)
        | agg h h1 => exact h1
      have hsh : shOf P c1 = shL P l := by
        cases hv with
        | leaf h h1 h2 h3 => exact absurd rfl (h1 _ _)
        | agg h h1 => exact h
      have key : ∀ (l : List X) (k : Nat) (K : List X → Prop), (∀ x ∈ l, WF P x) → updK (setXK q x p) l k K → K (updX (setX x p) l k) ∧ (∀ y ∈ updX (setX x p) l k, WF P y) ∧ shL P (updX (setX x p) l k) = shL P l := by
        intro l
        induction l with
        | nil => intro k K _ h; cases k <;> exact ⟨h, (by intro y hy; cases hy), rfl⟩
        | cons y l ihl =>
          intro k K hl h
          cases k with
          | zero =>
            obtain ⟨a1, a2, a3⟩ := ih y (fun x => K (x :: l)) (hl y (by simp)) h
            refine ⟨a1, ?_, ?_⟩
            · intro z hz
              rcases List.mem_cons.1 (show z ∈ setX x p y :: l from hz) with rfl | hz
              · exact a2
              · exact hl z (by simp [hz])
            · show Shape.cons (shX P (setX x p y)) _ = Shape.cons _ _
              rw [a3]
          | succ k =>
            obtain ⟨a1, a2, a3⟩ := ihl k (fun l => K (y :: l)) (fun z hz => hl z (by simp [hz])) h
            refine ⟨a1, ?_, ?_⟩
            · intro z hz
              rcases List.mem_cons.1 (show z ∈ y :: updX (setX x p) l k from hz) with rfl | hz
              · exact hl _ (by simp)
              · exact a2 z hz
            · show Shape.cons (shX P y) (shL P (updX (setX x p) l k)) = Shape.cons _ _
              rw [a3]
      obtain ⟨a1, a2, a3⟩ := key l k (fun l => K (.agg c1 l)) hl h
      exact ⟨a1, .agg (hsh.trans a3.symm) a2, rfl⟩
    | _ => exact ⟨h, hv, rfl⟩
  | .idx i :: p, v, K, hv, h => by
    have ih := setXK_inv hq hx hxc p
    cases v with
    | arr c1 n t d =>
      have hl : (∀ p, WF P (get d p t)) ∧ ∀ p, shX P (get d p t) = shOf P c1 := by
        cases hv with
        | leaf h h1 h2 h3 => exact absurd rfl (h2 _ _ _ _)
        | arr h1 h2 => exact ⟨h1, h2⟩
      obtain ⟨a1, a2, a3⟩ := ih (get d (enc i) t) (fun x1 => setTK x1 (enc i) t fun t => K (.arr c1 n t d)) (hl.1 _) h
      rw [setTK_eq] at a1
      have hg : ∀ q, get d q (Go.Ab.set (setX x p (get d (enc i) t)) (enc i) t) = if q = enc i then setX x p (get d (enc i) t) else get d q t := fun q => get_set _ _ _ _ _
      refine ⟨a1, WF.arr (fun q => ?_) (fun q => ?_), rfl⟩
      · show WF P (get d q (Go.Ab.set (setX x p (get d (enc i) t)) (enc i) t))
        rw [hg]; split
        · exact a2
        · exact hl.1 q
      · show shX P (get d q (Go.Ab.set (setX x p (get d (enc i) t)) (enc i) t)) = shOf P c1
        rw [hg]; split
        · exact a3.trans (hl.2 _)
        · exact hl.2 q
    | _ => exact ⟨h, hv, rfl⟩
/-- The same, of what is no tuple. -/
def fXp (x : X) (K : X → Prop) : Prop := @X.rec (fun _ => Prop) (fun _ => Unit) (fun _ => Unit) (fun b0 b1 => K (.int b0 b1)) (fun b0 => K (.bool b0)) (fun b0 b1 => K (.sint b0 b1)) (fun b0 => K (.sbool b0)) (fun b0 => K (.str b0)) (fun a0 a1 _ => (fun b0 b1 => K (.agg b0 b1)) a0 a1) (fun a0 a1 a2 a3 _ _ => (fun b0 b1 b2 b3 => K (.arr b0 b1 b2 b3)) a0 a1 a2 a3) (fun b0 b1 b2 => K (.ptr b0 b1 b2)) (fun b0 b1 b2 => K (.row b0 b1 b2)) (fun b0 b1 b2 b3 b4 b5 => K (.sl b0 b1 b2 b3 b4 b5)) (K .nilp) (K .nils) (K .nilf) (fun a0 a1 _ => (fun b0 b1 => K (.fn b0 b1)) a0 a1) (fun _ _ => False) (fun _ _ => False) (fun _ _ _ => False) (K .unk) () (fun _ _ _ _ => ()) () (fun _ _ _ _ _ _ _ _ => ()) (fun _ _ _ _ _ _ _ _ _ _ => ()) x
theorem fXp_inv {x : X} {K : X → Prop} (h : fXp x K) : x.plain = true ∧ K x := by cases x <;> first | exact ⟨rfl, h⟩ | exact False.elim h
end
end Go.Ab
