/- Types by a table; the operations of the run that the kernel carries out. No condition. -/
import Derived.Test.YtkjoldifiniliaaZ1
set_option linter.unusedVariables false
set_option linter.unusedSimpArgs false
set_option linter.constructorNameAsVariable false
namespace Go.Ab
open Go.RowKit
noncomputable section

/-! ### Types -/
inductive TK where
  | int (k : IntKind)
  | bool
  | str
  | struct (cs ts : List Nat)
  | array (n e : Nat) (te : TypeId)
  | slice (e : Nat) (te : TypeId) (sz : Nat)
  | other
inductive TI where
  | no
  | mk (c : Nat) (sc : Bool) (z : X) (k : TK) (cm : Bool)

/-- The zero of a type is this. -/
def ZeroIs (P : Program) (t : TypeId) (s : Shape) (v : V) : Prop :=
  tshape P t = some s ∧ ∃ i z, P.info? t = some i ∧ i.zero = some z ∧ z.cells.size = s.size ∧ v.held s (fun j => z.cells[j]?) 0 = true

def TKok (P : Program) (t : TypeId) (c : Nat) : TK → Prop
  | .int k => P.underlying t = some (.int k)
  | .bool => P.underlying t = some .bool
  | .str => P.underlying t = some .string
  | .struct cs _ => ∃ pl, places P t = some (true, pl) ∧ ∀ i ci, cs[i]? = some ci → ∃ d, fdAt P t i = some d ∧ (shOf P c).fld i = some (d, shOf P ci) ∧ pl i = some (d, (shOf P ci).size)
  | .array n e _ => iaAt P t n (shOf P e) = true ∧ shOf P c = .arr n (shOf P e) ∧ ∃ pl, places P t = some (false, pl) ∧ ∀ i, pl i = some (i * (shOf P e).size, (shOf P e).size)
  | .slice e te sz => ixAt P t (shOf P e) = true ∧ P.underlying t = some (.slice te) ∧ tshape P te = some (shOf P e) ∧ (shOf P e).size = sz ∧ ∃ i, P.info? te = some i ∧ i.bytes ≤ 1048576
  | .other => True
structure TIok (P : Program) (t : TypeId) (c : Nat) (sc : Bool) (z : X) (k : TK) : Prop where
  sh : tshape P t = some (shOf P c)
  un : ∃ d, P.underlying t = some d
  scv : sc = true → shOf P c = .sc
  z : z = .unk ∨ (WF P z ∧ shX P z = shOf P c ∧ ZeroIs P t (shOf P c) (z.toV P))
  k : TKok P t c k
/-- Values of it can be held against one another. -/
def CMok (P : Program) (t : TypeId) : TK → Prop
  | .struct _ ts => ∃ fs, P.underlying t = some (.struct fs) ∧ fs.toList.map (·.type) = ts ∧ (fs.toList.all fun f => f.name != "_") = true ∧ P.stoodInHeld t = false ∧ lay P 12 t = true ∧ P.eqGuardType P.depth t = false
  | .array n _ te => P.underlying t = some (.array n te) ∧ lay P 12 t = true ∧ P.eqGuardType P.depth t = false
  | .int _ => True
  | .bool => True
  | .str => True
  | _ => False
def TTok (P : Program) (T : Tr TI) : Prop := ∀ t c sc z k cm, get .no (enc t) T = .mk c sc z k cm → TIok P t c sc z k ∧ (cm = true → CMok P t k)

/-! ### Case by case -/
def asInt (x : X) (f : IntKind → Int → Prop) : Prop := @X.rec (fun _ => Prop) (fun _ => Unit) (fun _ => Unit) (f) (fun _ => False) (fun _ _ => False) (fun _ => False) (fun _ => False) (fun _ _ _ => False) (fun _ _ _ _ _ _ => False) (fun _ _ _ => False) (fun _ _ _ => False) (fun _ _ _ _ _ _ => False) False False False (fun _ _ _ => False) (fun _ _ => False) (fun _ _ => False) (fun _ _ _ => False) False () (fun _ _ _ _ => ()) () (fun _ _ _ _ _ _ _ _ => ()) (fun _ _ _ _ _ _ _ _ _ _ => ()) x
def asBool (x : X) (f : Bool → Prop) : Prop := @X.rec (fun _ => Prop) (fun _ => Unit) (fun _ => Unit) (fun _ _ => False) (f) (fun _ _ => False) (fun _ => False) (fun _ => False) (fun _ _ _ => False) (fun _ _ _ _ _ _ => False) (fun _ _ _ => False) (fun _ _ _ => False) (fun _ _ _ _ _ _ => False) False False False (fun _ _ _ => False) (fun _ _ => False) (fun _ _ => False) (fun _ _ _ => False) False () (fun _ _ _ _ => ()) () (fun _ _ _ _ _ _ _ _ => ()) (fun _ _ _ _ _ _ _ _ _ _ => ()) x
def asPtr (x : X) (f : Pth → List Step → Nat → Prop) : Prop := @X.rec (fun _ => Prop) (fun _ => Unit) (fun _ => Unit) (fun _ _ => False) (fun _ => False) (fun _ _ => False) (fun _ => False) (fun _ => False) (fun _ _ _ => False) (fun _ _ _ _ _ _ => False) (f) (fun _ _ _ => False) (fun _ _ _ _ _ _ => False) False False False (fun _ _ _ => False) (fun _ _ => False) (fun _ _ => False) (fun _ _ _ => False) False () (fun _ _ _ _ => ()) () (fun _ _ _ _ _ _ _ _ => ()) (fun _ _ _ _ _ _ _ _ _ _ => ()) x
def asTup (x : X) (f : List X → Prop) : Prop := @X.rec (fun _ => Prop) (fun _ => Unit) (fun _ => Unit) (fun _ _ => False) (fun _ => False) (fun _ _ => False) (fun _ => False) (fun _ => False) (fun _ _ _ => False) (fun _ _ _ _ _ _ => False) (fun _ _ _ => False) (fun _ _ _ => False) (fun _ _ _ _ _ _ => False) False False False (fun _ _ _ => False) (fun a0 _ => (f) a0) (fun _ _ => False) (fun _ _ _ => False) False () (fun _ _ _ _ => ()) () (fun _ _ _ _ _ _ _ _ => ()) (fun _ _ _ _ _ _ _ _ _ _ => ()) x
def asFn (x : X) (f : FuncId → List X → Prop) : Prop := @X.rec (fun _ => Prop) (fun _ => Unit) (fun _ => Unit) (fun _ _ => False) (fun _ => False) (fun _ _ => False) (fun _ => False) (fun _ => False) (fun _ _ _ => False) (fun _ _ _ _ _ _ => False) (fun _ _ _ => False) (fun _ _ _ => False) (fun _ _ _ _ _ _ => False) False False False (fun a0 a1 _ => (f) a0 a1) (fun _ _ => False) (fun _ _ => False) (fun _ _ _ => False) False () (fun _ _ _ _ => ()) () (fun _ _ _ _ _ _ _ _ => ()) (fun _ _ _ _ _ _ _ _ _ _ => ()) x
def asBlk (x : X) (b : X → Prop) (r : TypeId → X → Prop) : Prop := @X.rec (fun _ => Prop) (fun _ => Unit) (fun _ => Unit) (fun _ _ => False) (fun _ => False) (fun _ _ => False) (fun _ => False) (fun _ => False) (fun _ _ _ => False) (fun _ _ _ _ _ _ => False) (fun _ _ _ => False) (fun _ _ _ => False) (fun _ _ _ _ _ _ => False) False False False (fun _ _ _ => False) (fun _ _ => False) (fun a0 _ => (b) a0) (fun a0 a1 _ => (r) a0 a1) False () (fun _ _ _ _ => ()) () (fun _ _ _ _ _ _ _ _ => ()) (fun _ _ _ _ _ _ _ _ _ _ => ()) x
def ifP (b : Bool) (p : Prop) : Prop := @Bool.rec (fun _ => Prop) False p b
def okSt (c : Nat) (sc : Bool) (k : TK) (x : X) (p : Prop) : Prop := @X.rec (fun _ => Prop) (fun _ => Unit) (fun _ => Unit) (fun _ _ => ifP sc p) (fun _ => ifP sc p) (fun _ _ => ifP sc p) (fun _ => ifP sc p) (fun _ => ifP sc p) (fun a0 a1 _ => (fun c1 _ => ifP (Nat.beq c1 c) p) a0 a1) (fun a0 a1 a2 a3 _ _ => (fun e n _ _ => @TK.rec (fun _ => Prop) (fun _ => False) False False (fun _ _ => False) (fun n1 e1 _ => ifP (Nat.beq n n1) (ifP (Nat.beq e e1) p)) (fun _ _ _ => False) False k) a0 a1 a2 a3) (fun _ _ _ => ifP sc p) (fun _ _ _ => ifP sc p) (fun _ _ _ _ _ _ => ifP sc p) (ifP sc p) (ifP sc p) (ifP sc p) (fun a0 a1 _ => (fun _ _ => ifP sc p) a0 a1) (fun _ _ => False) (fun _ _ => False) (fun _ _ _ => False) False () (fun _ _ _ _ => ()) () (fun _ _ _ _ _ _ _ _ => ()) (fun _ _ _ _ _ _ _ _ _ _ => ()) x
def tagOk (c : Nat) (sc : Bool) (k : TK) (x : X) (p : Prop) : Prop := @X.rec (fun _ => Prop) (fun _ => Unit) (fun _ => Unit) (fun _ _ => ifP sc p) (fun _ => ifP sc p) (fun _ _ => ifP sc p) (fun _ => ifP sc p) (fun _ => ifP sc p) (fun a0 a1 _ => (fun c1 _ => ifP (Nat.beq c1 c) p) a0 a1) (fun a0 a1 a2 a3 _ _ => (fun e n _ _ => @TK.rec (fun _ => Prop) (fun _ => False) False False (fun _ _ => False) (fun n1 e1 _ => ifP (Nat.beq n n1) (ifP (Nat.beq e e1) p)) (fun _ _ _ => False) False k) a0 a1 a2 a3) (fun _ _ _ => ifP sc p) (fun _ _ _ => ifP sc p) (fun _ _ _ _ _ _ => ifP sc p) (ifP sc p) (ifP sc p) (ifP sc p) (fun a0 a1 _ => (fun _ _ => ifP sc p) a0 a1) (fun _ _ => False) (fun _ _ => False) (fun _ _ _ => False) (ifP sc p) () (fun _ _ _ _ => ()) () (fun _ _ _ _ _ _ _ _ => ()) (fun _ _ _ _ _ _ _ _ _ _ => ()) x
def asTI (t : TI) (f : Nat → Bool → X → TK → Prop) : Prop := @TI.rec (fun _ => Prop) False (fun c sc z k _ => f c sc z k) t
def tyE (T : Tr TI) (t : TypeId) (f : TK → Bool → Prop) : Prop := @TI.rec (fun _ => Prop) False (fun _ _ _ k cm => f k cm) (get .no (enc t) T)
def tyK (T : Tr TI) (t : TypeId) (f : Nat → Bool → X → TK → Prop) : Prop := asTI (get .no (enc t) T) f

theorem asInt_inv {x : X} {f : IntKind → Int → Prop} (h : asInt x f) : ∃ k n, x = .int k n ∧ f k n := by cases x <;> first | exact ⟨_, _, rfl, h⟩ | exact False.elim h
theorem asBool_inv {x : X} {f : Bool → Prop} (h : asBool x f) : ∃ b, x = .bool b ∧ f b := by cases x <;> first | exact ⟨_, rfl, h⟩ | exact False.elim h
theorem asPtr_inv {x : X} {f : Pth → List Step → Nat → Prop} (h : asPtr x f) : ∃ id p c, x = .ptr id p c ∧ f id p c := by cases x <;> first | exact ⟨_, _, _, rfl, h⟩ | exact False.elim h
theorem asTup_inv {x : X} {f : List X → Prop} (h : asTup x f) : ∃ l, x = .tup l ∧ f l := by cases x <;> first | exact ⟨_, rfl, h⟩ | exact False.elim h
theorem asFn_inv {x : X} {f : FuncId → List X → Prop} (h : asFn x f) : ∃ g l, x = .fn g l ∧ f g l := by cases x <;> first | exact ⟨_, _, rfl, h⟩ | exact False.elim h
theorem asBlk_inv {x : X} {b : X → Prop} {r : TypeId → X → Prop} (h : asBlk x b r) : (∃ v, x = .box v ∧ b v) ∨ (∃ e v, x = .rowb e v ∧ r e v) := by
  cases x <;> first | exact .inl ⟨_, rfl, h⟩ | exact .inr ⟨_, _, rfl, h⟩ | exact False.elim h
theorem ifP_inv {b : Bool} {p : Prop} (h : ifP b p) : b = true ∧ p := by cases b; exact h.elim; exact ⟨rfl, h⟩
theorem nbeq {a b : Nat} (h : Nat.beq a b = true) : a = b := Nat.eq_of_beq_eq_true h
theorem tyK_inv {P : Program} {T : Tr TI} (hT : TTok P T) {t : TypeId} {f : Nat → Bool → X → TK → Prop} (h : tyK T t f) : ∃ c sc z k, TIok P t c sc z k ∧ f c sc z k := by
  unfold tyK at h
  cases hg : get .no (enc t) T with
  | no => rw [hg] at h; exact h.elim
  | mk c sc z k cm => rw [hg] at h; exact ⟨c, sc, z, k, (hT t c sc z k cm hg).1, h⟩
theorem tyE_inv {P : Program} {T : Tr TI} (hT : TTok P T) {t : TypeId} {f : TK → Bool → Prop} (h : tyE T t f) : ∃ c sc z k cm, TIok P t c sc z k ∧ (cm = true → CMok P t k) ∧ f k cm := by
  unfold tyE at h
  cases hg : get .no (enc t) T with
  | no => rw [hg] at h; exact h.elim
  | mk c sc z k cm => rw [hg] at h; exact ⟨c, sc, z, k, cm, (hT t c sc z k cm hg).1, (hT t c sc z k cm hg).2, h⟩
/-- May be stored where such a thing lies. -/
structure Fit (P : Program) (c : Nat) (x : X) : Prop where
  sh : shX P x = shOf P c
  known : (x.toV P).known = true
  nt : ∀ l, x ≠ .tup l
theorem okSt_inv {P : Program} {t : TypeId} {c : Nat} {sc : Bool} {z : X} {k : TK} {x : X} {p : Prop} (ht : TIok P t c sc z k) (h : okSt c sc k x p) : Fit P c x ∧ p := by
  cases x with
  | agg c1 l =>
    obtain ⟨h1, h2⟩ := ifP_inv (show ifP (Nat.beq c1 c) p from h)
    obtain rfl := nbeq h1
    cases l <;> exact ⟨⟨rfl, rfl, by intro l e; cases e⟩, h2⟩
  | arr e n t d =>
    cases k with
    | array n1 e1 te =>
      obtain ⟨h1, h2⟩ := ifP_inv (show ifP (Nat.beq n n1) (ifP (Nat.beq e e1) p) from h)
      obtain ⟨h3, h4⟩ := ifP_inv h2
      obtain rfl := nbeq h1
      obtain rfl := nbeq h3
      exact ⟨⟨ht.k.2.1.symm, rfl, by intro l e; cases e⟩, h4⟩
    | _ => exact False.elim h
  | tup l => exact False.elim h
  | box v => exact False.elim h
  | rowb e v => exact False.elim h
  | unk => exact False.elim h
  | _ =>
    obtain ⟨h1, h2⟩ := ifP_inv (show ifP sc p from h)
    exact ⟨⟨(ht.scv h1).symm, rfl, by intro l e; cases e⟩, h2⟩
theorem tagOk_inv {P : Program} {t : TypeId} {c : Nat} {sc : Bool} {z : X} {k : TK} (ht : TIok P t c sc z k) (x : X) (p : Prop) (h : tagOk c sc k x p) : shX P x = shOf P c ∧ p := by
  cases x with
  | unk =>
    obtain ⟨h1, h2⟩ := ifP_inv (show ifP sc p from h)
    exact ⟨(ht.scv h1).symm, h2⟩
  | agg c1 l => obtain ⟨h1, h2⟩ := okSt_inv (x := .agg c1 l) ht h; exact ⟨h1.sh, h2⟩
  | arr e n t d => obtain ⟨h1, h2⟩ := okSt_inv (x := .arr e n t d) ht h; exact ⟨h1.sh, h2⟩
  | tup l => exact False.elim h
  | box v => exact False.elim h
  | rowb e v => exact False.elim h
  | _ =>
    obtain ⟨h1, h2⟩ := ifP_inv (show ifP sc p from h)
    exact ⟨(ht.scv h1).symm, h2⟩

end
end Go.Ab
