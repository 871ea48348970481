/- Single operations, as trees: what is asked of them, and that the model does the same. No condition. -/
import Derived.Test.YtkjoldifiniliaaB3
set_option linter.unusedVariables false
set_option linter.unusedSimpArgs false
namespace Go.Ab
open Go.RowKit
variable [Gl]

/-- What an operation does: its value; blocks with another content; new blocks; blocks that were looked at. -/
structure Eff where
  v : V
  up : List (Nat × Blk)
  nw : List Blk
  rd : List Nat

abbrev pureE (v : V) : Eff := ⟨v, [], [], []⟩

def touch (e : Eff) (n id : Nat) : Option Blk := if n ≤ id ∧ id < n + e.nw.length then e.nw[id - n]? else (e.up.lookup id)
def put (m : Mem) (n : Nat) (e : Eff) : Mem := fun id => match touch e n id with | some b => some b | none => m id

omit [Gl] in
theorem put_pure (m : Mem) (n : Nat) (v : V) (rd : List Nat) : put m n ⟨v, [], [], rd⟩ = m := by
  funext id
  have h1 : ¬ (n ≤ id ∧ id < n + 0) := by omega
  simp only [put, touch, List.length_nil, h1, if_false, List.lookup_nil]
omit [Gl] in
theorem put_new (m : Mem) (n : Nat) (v : V) (b : Blk) (rd : List Nat) : put m n ⟨v, [], [b], rd⟩ = upd m n (some b) := by
  funext id
  by_cases h : id = n
  · subst h; simp [put, touch]
  · have h1 : ¬ (n ≤ id ∧ id < n + 1) := by omega
    simp only [put, touch, List.length_cons, List.length_nil, Nat.zero_add, h1, if_false, List.lookup_nil, upd_other _ _ h]
omit [Gl] in
theorem put_up (m : Mem) (n : Nat) (v : V) (id : Nat) (b : Blk) (rd : List Nat) : put m n ⟨v, [(id, b)], [], rd⟩ = upd m id (some b) := by
  funext i
  have h1 : ¬ (n ≤ i ∧ i < n + 0) := by omega
  by_cases h : i = id
  · subst h; simp only [put, touch, List.length_nil, h1, if_false, List.lookup, beq_self_eq_true, upd_same]
  · have : (i == id) = false := by simpa using h
    simp only [put, touch, List.length_nil, h1, if_false, List.lookup, this, upd_other _ _ h]

/-- The run of an operation ends in a value. -/
def Does (P : Program) (s : Sem Next) (w : World) (F : Value → World → Prop) : Prop :=
  match s.run P w with
  | .ok (.value v) w' => F v w'
  | .ok .skip w' => F undef w'
  | .ok (.enter f args) w' => Calls P f args w' fun e w'' => ∃ v, e = .returned v ∧ F v w''
  | _ => False

def Post (B : Nat) (C : Ctx) (M : Mem) (ids : Nat → Prop) (v : V) (val : Value) (w' : World) : Prop :=
  ∃ C' : Ctx, C'.w = w' ∧ R C' v (.val val) ∧ Kp B C C' ∧ SR B C' M ∧ ∀ id, C'.al id → C.al id ∨ ids id

/-- In every state that agrees on what is looked at, the operation has this effect. 'n': the first new name. -/
def OpSem (P : Program) (B : Nat) (o : Oper) (ρ : Operand → V) (m : Mem) (n : Nat) (e : Eff) : Prop :=
  ∀ (C : Ctx) (M : Mem) (ρc : Operand → Value), SR B C M → (∀ id ∈ e.rd, M id = m id) → (∀ x ∈ e.up, M x.1 = m x.1) →
    (∀ i, i < e.nw.length → ¬ C.al (n + i)) → (∀ x ∈ o.op.operands.toList, R C (ρ x) (.val (ρc x))) →
    Does P (execOp ρc o) C.w (Post B C (put M n e) (fun id => n ≤ id ∧ id < n + e.nw.length) e.v)

omit [Gl] in
theorem Does.mono {P : Program} {s : Sem Next} {w : World} {F G : Value → World → Prop} (h : ∀ v w, F v w → G v w) (hd : Does P s w F) : Does P s w G := by
  unfold Does at *
  generalize s.run P w = r at *
  cases r with
  | ok n w' =>
    cases n <;> simp only at hd ⊢ <;> first
      | exact h _ _ hd
      | exact hd.mono fun e w'' ⟨v, h1, h2⟩ => ⟨v, h1, h _ _ h2⟩
  | halt x w' => simp only at hd

omit [Gl] in
theorem Does.wp {P : Program} {o : Oper} {a : Act} {w : World} {F : Value → World → Prop} {K : Act → World → Prop} {Q : Exit → Act → World → Prop}
    (hd : Does P (execOp a.eval o) w F) (h : ∀ v w', F v w' → K (a.put o.dst v) w') : o.wp P a w K Q := by
  unfold Does at hd
  unfold Oper.wp
  generalize (execOp a.eval o).run P w = r at *
  cases r with
  | ok n w' =>
    cases n <;> simp only [Oper.upon] at hd ⊢ <;> first
      | exact h _ _ hd
      | exact hd.mono fun e w'' ⟨v, h1, h2⟩ => by subst h1; exact h _ _ h2
  | halt x w' => simp only at hd

/-- An operation that hands back a value and leaves all as it was. -/
theorem OpSem.pure {P : Program} {B : Nat} {o : Oper} {ρ : Operand → V} {m : Mem} {n : Nat} {v : V} {rd : List Nat}
    (h : ∀ (C : Ctx) (M : Mem) (ρc : Operand → Value), SR B C M → (∀ id ∈ rd, M id = m id) → (∀ x ∈ o.op.operands.toList, R C (ρ x) (.val (ρc x))) →
      ∃ val, (execOp ρc o).run P C.w = .ok (.value val) C.w ∧ R C v (.val val)) : OpSem P B o ρ m n ⟨v, [], [], rd⟩ := by
  intro C M ρc hs hr _ _ ho
  obtain ⟨val, h1, h2⟩ := h C M ρc hs hr ho
  unfold Does
  rw [h1]
  exact ⟨C, rfl, h2, Kp.refl B C, by rw [put_pure]; exact hs, fun id h => .inl h⟩

/-! ### Shapes of types -/
def shp (P : Program) : Nat → TypeId → Shape
  | 0, _ => .sc
  | d + 1, t => match P.underlying t with
    | some (.struct fs) => fs.toList.foldr (fun f acc => .cons (shp P d f.type) acc) .nl
    | some (.array n e) => .arr n (shp P d e)
    | _ => .sc

/-- The shape of a type, if the table bears it out. -/
def tshape (P : Program) (t : TypeId) : Option Shape :=
  match P.info? t with
  | some i => if i.size = (shp P 12 t).size then some (shp P 12 t) else none
  | none => none

def agg? (P : Program) (t : TypeId) : Bool := match P.underlying t with | some (.struct _) | some (.array _ _) => true | _ => false
def Shape.isSc : Shape → Bool | .sc => true | _ => false

omit [Gl] in
theorem shp_agg {P : Program} {d : Nat} {t : TypeId} : (shp P (d + 1) t).isSc = !agg? P t := by
  unfold shp agg?
  cases h : P.underlying t with
  | none => rfl
  | some x =>
    cases x <;> first
      | rfl
      | (rename_i fs; obtain ⟨l⟩ := fs; cases l <;> rfl)

omit [Gl] in
theorem tshape_size {P : Program} {t : TypeId} {s : Shape} (h : tshape P t = some s) : ∃ i, P.info? t = some i ∧ i.size = s.size ∧ s.isSc = !agg? P t := by
  unfold tshape at h
  split at h
  · rename_i i hi
    split at h
    · rename_i hs
      simp only [Option.some.injEq] at h
      subst h
      exact ⟨i, hi, hs, shp_agg⟩
    · cases h
  · cases h

omit [Gl] in
theorem run_sizeOf' {P : Program} {t : TypeId} {i : TypeInfo} (h : P.info? t = some i) (w : World) : (sizeOf t).run P w = .ok i.size w := by
  simp [sizeOf, typeInfo, h]

omit [Gl] in
theorem underlying_of_shp {P : Program} {t : TypeId} (hs : (shp P 12 t).isSc = false) : ∃ d, P.underlying t = some d := by
  rw [show (12 : Nat) = 11 + 1 from rfl, shp_agg] at hs
  unfold agg? at hs
  cases hu : P.underlying t with
  | none => rw [hu] at hs; simp at hs
  | some d => exact ⟨d, rfl⟩

omit [Gl] in
theorem run_isAgg' {P : Program} {t : TypeId} {d : TypeDesc} (h : P.underlying t = some d) (w : World) : (isAgg t).run P w = .ok (agg? P t) w := by
  simp only [isAgg, Sem.run_bind, run_underlying h, Result.andThen_ok]
  unfold agg?; rw [h]
  cases d <;> rfl

omit [Gl] in
/-- A variable that is read. -/
theorem run_loadVar_tree {P : Program} {C : Ctx} {t : TypeId} {s : Shape} {v : V} {b o : Nat} {d : TypeDesc} (ht : tshape P t = some s) (hu : P.underlying t = some d) (h : R C v (.cel s (cg C.w b) o)) :
    ∃ val, (loadVar t ⟨b, o, none⟩).run P C.w = .ok val C.w ∧ R C v (.val val) := by
  obtain ⟨i, hi, hsz, hsc⟩ := tshape_size ht
  have hadd : ∀ j, (⟨b, o, none⟩ : Addr).add j = ⟨b, o + j, none⟩ := by intro j; unfold Addr.add; split <;> simp_all
  unfold loadVar
  simp only [Sem.run_bind, run_isAgg' hu, Result.andThen_ok, Sem.run_ite]
  cases ha : agg? P t with
  | true =>
    rw [ha] at hsc
    simp only [if_true, run_sizeOf' hi, Result.andThen_ok, hsz]
    have hcell := R.cells v h
    let f : Nat → Value := fun j => if hj : j < s.size then Classical.choose (hcell j hj) else undef
    have hf : ∀ j, j < s.size → C.w.cell? ((⟨b, o, none⟩ : Addr).add j) = some (f j) := by
      intro j hj
      rw [hadd]
      simp only [f, dif_pos hj]
      exact (Classical.choose_spec (hcell j hj)).1
    rw [run_loadCells (P := P) (w := C.w) ⟨b, o, none⟩ s.size f hf]
    refine ⟨_, rfl, ?_⟩
    refine R.agg_val (s := s) (R.shift v h ?_) (by rintro rfl; simp [Shape.isSc] at hsc) (by simp)
    intro k hk
    have := hf k hk
    rw [hadd] at this
    show (List.map f (List.range s.size)).toArray[0 + k]? = C.w.cell? ⟨b, o + k, none⟩
    rw [this]
    simp [hk]
  | false =>
    rw [ha] at hsc
    simp only [Bool.false_eq_true, if_false]
    cases s <;> simp [Shape.isSc] at hsc
    obtain ⟨x, hx, _⟩ := R.cells v h 0 (by simp [Shape.size])
    have hx' : C.w.cell? ⟨b, o, none⟩ = some x := hx
    refine ⟨x, by simp [hx'], R.sc_val h hx⟩

end Go.Ab
