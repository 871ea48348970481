/- Single operations, as trees: what is asked of them, and that the model does the same. No condition. Single operations over memory: alloc, box, load, store, addresses. No condition. Single operations: what each does to trees, and that the model does the same. No condition. -/
import Derived.Test.YthnhbdidiglcgaaGreatDoorB1
set_option linter.unusedVariables false
set_option linter.unusedSimpArgs false
namespace Go.Ab
open Go.RowKit
variable [Gl]

/-- What an operation does: its value; blocks with another content; new blocks; blocks that were looked at. -/
structure Eff where
  v : V
  up : List (Nat × Blk)
  nw : List Blk
  rd : List Nat

abbrev pureE (v : V) : Eff := ⟨v, [], [], []⟩

def touch (e : Eff) (n id : Nat) : Option Blk := if n ≤ id ∧ id < n + e.nw.length then e.nw[id - n]? else (e.up.lookup id)
def put (m : Mem) (n : Nat) (e : Eff) : Mem := fun id => match touch e n id with | some b => some b | none => m id

omit [Gl] in
theorem put_pure (m : Mem) (n : Nat) (v : V) (rd : List Nat) : put m n ⟨v, [], [], rd⟩ = m := by
  funext id
  have h1 : ¬ (n ≤ id ∧ id < n + 0) := by omega
  simp only [put, touch, List.length_nil, h1, if_false, List.lookup_nil]
omit [Gl] in
theorem put_new (m : Mem) (n : Nat) (v : V) (b : Blk) (rd : List Nat) : put m n ⟨v, [], [b], rd⟩ = upd m n (some b) := by
  funext id
  by_cases h : id = n
  · subst h; simp [put, touch]
  · have h1 : ¬ (n ≤ id ∧ id < n + 1) := by omega
    simp only [put, touch, List.length_cons, List.length_nil, Nat.zero_add, h1, if_false, List.lookup_nil, upd_other _ _ h]
omit [Gl] in
theorem put_up (m : Mem) (n : Nat) (v : V) (id : Nat) (b : Blk) (rd : List Nat) : put m n ⟨v, [(id, b)], [], rd⟩ = upd m id (some b) := by
  funext i
  have h1 : ¬ (n ≤ i ∧ i < n + 0) := by omega
  by_cases h : i = id
  · subst h; simp only [put, touch, List.length_nil, h1, if_false, List.lookup, beq_self_eq_true, upd_same]
  · have : (i == id) = false := by simpa using h
    simp only [put, touch, List.length_nil, h1, if_false, List.lookup, this, upd_other _ _ h]

/-- The run of an operation ends in a value. -/
def Does (P : Program) (s : Sem Next) (w : World) (F : Value → World → Prop) : Prop :=
  match s.run P w with
  | .ok (.value v) w' => F v w'
  | .ok .skip w' => F undef w'
  | .ok (.enter f args) w' => Calls P f args w' fun e w'' => ∃ v, e = .returned v ∧ F v w''
  | _ => False

def Post (B : Nat) (C : Ctx) (M : Mem) (ids : Nat → Prop) (v : V) (val : Value) (w' : World) : Prop :=
  ∃ C' : Ctx, C'.w = w' ∧ R C' v (.val val) ∧ Kp B C C' ∧ SR B C' M ∧ ∀ id, C'.al id → C.al id ∨ ids id

/-- In every state that agrees on what is looked at, the operation has this effect. 'n': the first new name. -/
def OpSem (P : Program) (B : Nat) (o : Oper) (ρ : Operand → V) (m : Mem) (n : Nat) (e : Eff) : Prop :=
  ∀ (C : Ctx) (M : Mem) (ρc : Operand → Value), SR B C M → (∀ id ∈ e.rd, M id = m id) → (∀ x ∈ e.up, M x.1 = m x.1) →
    (∀ i, i < e.nw.length → ¬ C.al (n + i)) → (∀ x ∈ o.op.operands.toList, R C (ρ x) (.val (ρc x))) →
    Does P (execOp ρc o) C.w (Post B C (put M n e) (fun id => n ≤ id ∧ id < n + e.nw.length) e.v)

omit [Gl] in
theorem Does.mono {P : Program} {s : Sem Next} {w : World} {F G : Value → World → Prop} (h : ∀ v w, F v w → G v w) (hd : Does P s w F) : Does P s w G := by
  unfold Does at *
  generalize s.run P w = r at *
  cases r with
  | ok n w' =>
    cases n <;> simp only at hd ⊢ <;> first
      | exact h _ _ hd
      | exact hd.mono fun e w'' ⟨v, h1, h2⟩ => ⟨v, h1, h _ _ h2⟩
  | halt x w' => simp only at hd

omit [Gl] in
theorem Does.wp {P : Program} {o : Oper} {a : Act} {w : World} {F : Value → World → Prop} {K : Act → World → Prop} {Q : Exit → Act → World → Prop}
    (hd : Does P (execOp a.eval o) w F) (h : ∀ v w', F v w' → K (a.put o.dst v) w') : o.wp P a w K Q := by
  unfold Does at hd
  unfold Oper.wp
  generalize (execOp a.eval o).run P w = r at *
  cases r with
  | ok n w' =>
    cases n <;> simp only [Oper.upon] at hd ⊢ <;> first
      | exact h _ _ hd
      | exact hd.mono fun e w'' ⟨v, h1, h2⟩ => by subst h1; exact h _ _ h2
  | halt x w' => simp only at hd

/-- In a function's frame, or in that of a round of a loop over a function. -/
def FR (ro : Option Nat) : Fence := { Fence.wide with round := ro }
omit [Gl] in
theorem FR_calls {ro : Option Nat} {n : Nat} {P : Program} {f : FuncId} {args : Array Value} {w : World} {R : Ending → World → Prop} (h : Calls P f args w R) : CallsIn (FR ro) n P f args w R :=
  show CallsIn Fence.wide n P f args w R from callsIn_wide.2 h
omit [Gl] in
theorem Does.wpR {ro : Option Nat} {P : Program} {o : Oper} {a : Act} {w : World} {F : Value → World → Prop} {K : Act → World → Prop} {Q : Exit → Act → World → Prop}
    (hd : Does P (execOp a.eval o) w F) (h : ∀ v w', F v w' → K (a.put o.dst v) w') : o.wpIn (FR ro) 0 P a w K Q := by
  refine ⟨fun _ _ => trivial, ?_⟩
  have hno : ∀ c, o.op ≠ .defer c := by
    intro c hc
    unfold Does at hd
    have : execOp a.eval o = (do let d ← resolve a.eval c o.type; pure (.defer d)) := by unfold execOp; rw [hc]
    rw [this, Sem.run_bind] at hd
    cases hr : (resolve a.eval c o.type).run P w with
    | ok d w' => rw [hr] at hd; exact hd
    | halt x w' => rw [hr] at hd; exact hd
  rw [Oper.semAt_eq _ _ _ hno]
  unfold Does at hd
  generalize (execOp a.eval o).run P w = r at *
  cases r with
  | ok n w' =>
    cases n <;> simp only [Oper.uponIn] at hd ⊢ <;> first
      | exact h _ _ hd
      | exact ⟨fun hx => (by cases hx), FR_calls (hd.mono fun e w'' ⟨v, h1, h2⟩ => by subst h1; exact h _ _ h2)⟩
  | halt x w' => simp only at hd

/-- An operation that hands back a value and leaves all as it was. -/
theorem OpSem.pure {P : Program} {B : Nat} {o : Oper} {ρ : Operand → V} {m : Mem} {n : Nat} {v : V} {rd : List Nat}
    (h : ∀ (C : Ctx) (M : Mem) (ρc : Operand → Value), SR B C M → (∀ id ∈ rd, M id = m id) → (∀ x ∈ o.op.operands.toList, R C (ρ x) (.val (ρc x))) →
      ∃ val, (execOp ρc o).run P C.w = .ok (.value val) C.w ∧ R C v (.val val)) : OpSem P B o ρ m n ⟨v, [], [], rd⟩ := by
  intro C M ρc hs hr _ _ ho
  obtain ⟨val, h1, h2⟩ := h C M ρc hs hr ho
  unfold Does
  rw [h1]
  exact ⟨C, rfl, h2, Kp.refl B C, by rw [put_pure]; exact hs, fun id h => .inl h⟩

/-! ### Shapes of types -/
def shp (P : Program) : Nat → TypeId → Shape
  | 0, _ => .sc
  | d + 1, t => match P.underlying t with
    | some (.struct fs) => fs.toList.foldr (fun f acc => .cons (shp P d f.type) acc) .nl
    | some (.array n e) => .arr n (shp P d e)
    | _ => .sc

/-- The shape of a type, if the table bears it out. -/
def tshape (P : Program) (t : TypeId) : Option Shape :=
  match P.info? t with
  | some i => if i.size = (shp P 12 t).size then some (shp P 12 t) else none
  | none => none

def agg? (P : Program) (t : TypeId) : Bool := match P.underlying t with | some (.struct _) | some (.array _ _) => true | _ => false
def Shape.isSc : Shape → Bool | .sc => true | _ => false

omit [Gl] in
theorem shp_agg {P : Program} {d : Nat} {t : TypeId} : (shp P (d + 1) t).isSc = !agg? P t := by
  unfold shp agg?
  cases h : P.underlying t with
  | none => rfl
  | some x =>
    cases x <;> first
      | rfl
      | (rename_i fs; obtain ⟨l⟩ := fs; cases l <;> rfl)

omit [Gl] in
theorem tshape_size {P : Program} {t : TypeId} {s : Shape} (h : tshape P t = some s) : ∃ i, P.info? t = some i ∧ i.size = s.size ∧ s.isSc = !agg? P t := by
  unfold tshape at h
  split at h
  · rename_i i hi
    split at h
    · rename_i hs
      simp only [Option.some.injEq] at h
      subst h
      exact ⟨i, hi, hs, shp_agg⟩
    · cases h
  · cases h

omit [Gl] in
theorem run_sizeOf' {P : Program} {t : TypeId} {i : TypeInfo} (h : P.info? t = some i) (w : World) : (sizeOf t).run P w = .ok i.size w := by
  simp [sizeOf, typeInfo, h]

omit [Gl] in
theorem underlying_of_shp {P : Program} {t : TypeId} (hs : (shp P 12 t).isSc = false) : ∃ d, P.underlying t = some d := by
  rw [show (12 : Nat) = 11 + 1 from rfl, shp_agg] at hs
  unfold agg? at hs
  cases hu : P.underlying t with
  | none => rw [hu] at hs; simp at hs
  | some d => exact ⟨d, rfl⟩

omit [Gl] in
theorem run_isAgg' {P : Program} {t : TypeId} {d : TypeDesc} (h : P.underlying t = some d) (w : World) : (isAgg t).run P w = .ok (agg? P t) w := by
  simp only [isAgg, Sem.run_bind, run_underlying h, Result.andThen_ok]
  unfold agg?; rw [h]
  cases d <;> rfl

omit [Gl] in
/-- A variable that is read. -/
theorem run_loadVar_tree {P : Program} {C : Ctx} {t : TypeId} {s : Shape} {v : V} {b o : Nat} {d : TypeDesc} (ht : tshape P t = some s) (hu : P.underlying t = some d) (h : R C v (.cel s (cg C.w b) o)) :
    ∃ val, (loadVar t ⟨b, o, none⟩).run P C.w = .ok val C.w ∧ R C v (.val val) := by
  obtain ⟨i, hi, hsz, hsc⟩ := tshape_size ht
  have hadd : ∀ j, (⟨b, o, none⟩ : Addr).add j = ⟨b, o + j, none⟩ := by intro j; unfold Addr.add; split <;> simp_all
  unfold loadVar
  simp only [Sem.run_bind, run_isAgg' hu, Result.andThen_ok, Sem.run_ite]
  cases ha : agg? P t with
  | true =>
    rw [ha] at hsc
    simp only [if_true, run_sizeOf' hi, Result.andThen_ok, hsz]
    have hcell := R.cells v h
    let f : Nat → Value := fun j => if hj : j < s.size then Classical.choose (hcell j hj) else undef
    have hf : ∀ j, j < s.size → C.w.cell? ((⟨b, o, none⟩ : Addr).add j) = some (f j) := by
      intro j hj
      rw [hadd]
      simp only [f, dif_pos hj]
      exact (Classical.choose_spec (hcell j hj)).1
    rw [run_loadCells (P := P) (w := C.w) ⟨b, o, none⟩ s.size f hf]
    refine ⟨_, rfl, ?_⟩
    refine R.agg_val (s := s) (R.shift v h ?_) (by rintro rfl; simp [Shape.isSc] at hsc) (by simp)
    intro k hk
    have := hf k hk
    rw [hadd] at this
    show (List.map f (List.range s.size)).toArray[0 + k]? = C.w.cell? ⟨b, o + k, none⟩
    rw [this]
    simp [hk]
  | false =>
    rw [ha] at hsc
    simp only [Bool.false_eq_true, if_false]
    cases s <;> simp [Shape.isSc] at hsc
    obtain ⟨x, hx, _⟩ := R.cells v h 0 (by simp [Shape.size])
    have hx' : C.w.cell? ⟨b, o, none⟩ = some x := hx
    refine ⟨x, by simp [hx'], R.sc_val h hx⟩

end Go.Ab
set_option linter.unusedVariables false
set_option linter.unusedSimpArgs false
namespace Go.Ab
open Go.RowKit
variable [Gl]

/-- The shape at a path, whatever the indexes. -/
def Shape.stepU (s : Shape) : Step → Option Shape
  | .fld k => (s.fld k).map (·.2)
  | .idx _ => match s with
    | .arr _ e => some e
    | _ => none
  | .sub _ k => match s with
    | .arr _ e => some (.arr k e)
    | _ => none
def Shape.pathU : List Step → Shape → Option Shape
  | [], s => some s
  | x :: p, s => match s.stepU x with
    | some t => Shape.pathU p t
    | none => none

omit [Gl] in
theorem Shape.stepU_of {s t : Shape} {x : Step} {d : Nat} (h : s.step x = some (d, t)) : s.stepU x = some t := by
  cases x with
  | fld k => simp only [Shape.step] at h; simp [Shape.stepU, h]
  | idx i => cases s <;> simp [Shape.step] at h; simp [Shape.stepU, h]
  | sub o k => cases s <;> simp [Shape.step] at h; simp [Shape.stepU, h]

omit [Gl] in
theorem Shape.pathU_of : ∀ (p : List Step) {s t : Shape} {d : Nat}, Shape.path p s = some (d, t) → Shape.pathU p s = some t
  | [], s, t, d, h => by simp [Shape.path] at h; simp [Shape.pathU, h]
  | x :: p, s, t, d, h => by
    simp only [Shape.path] at h
    split at h
    · rename_i d1 t1 h1
      simp only [Option.map_eq_some_iff] at h
      obtain ⟨⟨d2, t2⟩, h2, h3⟩ := h
      simp only [Prod.mk.injEq] at h3
      obtain ⟨_, rfl⟩ := h3
      simp only [Shape.pathU, Shape.stepU_of h1]
      exact Shape.pathU_of p h2
    · cases h

omit [Gl] in
theorem Shape.path_snoc : ∀ (p : List Step) {s t u : Shape} {d e : Nat} {x : Step}, Shape.path p s = some (d, t) → t.step x = some (e, u) → Shape.path (p ++ [x]) s = some (d + e, u)
  | [], s, t, u, d, e, x, h, hx => by
    simp only [Shape.path, Option.some.injEq, Prod.mk.injEq] at h
    obtain ⟨rfl, rfl⟩ := h
    simp [Shape.path, hx]
  | y :: p, s, t, u, d, e, x, h, hx => by
    simp only [Shape.path] at h
    split at h
    · rename_i d1 t1 h1
      simp only [Option.map_eq_some_iff] at h
      obtain ⟨⟨d2, t2⟩, h2, h3⟩ := h
      simp only [Prod.mk.injEq] at h3
      obtain ⟨rfl, rfl⟩ := h3
      simp only [List.cons_append, Shape.path, h1, Shape.path_snoc p h2 hx, Option.map_some]
      rw [Nat.add_assoc]
    · cases h

/-- Every length, and every scalar, agrees. -/
def V.fits : V → Shape → Bool
  | .nl, .nl => true
  | .cons h t, .cons a b => h.fits a && t.fits b
  | .arr n f, .arr m e => n == m && (List.range n).all fun i => (f i).fits e
  | .nl, _ | .cons _ _, _ | .arr _ _, _ => false
  | .tup _, _ => false
  | _, .sc => true
  | _, _ => false

omit [Gl] in
theorem R.sizes {C : Ctx} (v : V) : ∀ {s s' : Shape} {g : Nat → Option Value} {o : Nat}, R C v (.cel s' g o) → R C v (.cel s g o) → s'.size = s.size := by
  have leaf : ∀ {x : Value} {s s' : Shape} {g : Nat → Option Value} {o : Nat}, (M.cel s' g o).leaf x → (M.cel s g o).leaf x → s'.size = s.size := by
    intro x s s' g o h h'; rw [h.1, h'.1]
  induction v with
  | nl => intro s s' g o h h'; rw [show s' = .nl from h, show s = .nl from h']
  | cons x t ih1 ih2 =>
    intro s s' g o h h'
    obtain ⟨a, b, rfl, h2, h3⟩ := h
    obtain ⟨a', b', rfl, h2', h3'⟩ := h'
    have e1 := ih1 h2 h2'
    rw [e1] at h3
    simp only [Shape.size, e1, ih2 h3 h3']
  | arr n f ih =>
    intro s s' g o h h'
    obtain ⟨e, rfl, h2⟩ := h
    obtain ⟨e', rfl, h2'⟩ := h'
    simp only [Shape.size]
    rcases Nat.eq_zero_or_pos n with h0 | h0
    · simp [h0]
    · have a1 := h2 0 h0
      have a2 := h2' 0 h0
      simp only [Nat.zero_mul, Nat.add_zero] at a1 a2
      rw [ih 0 a1 a2]
  | unk => intro s s' g o h h'; rw [h.1, h'.1]
  | yld id => intro s s' g o h h'; exact leaf h.2.2 h'.2.2
  | tup l ih => intro s s' g o h h'; exact h.elim
  | int k n => intro s s' g o h h'; exact leaf h h'
  | bool k => intro s s' g o h h'; exact leaf h h'
  | str k => intro s s' g o h h'; exact leaf h h'
  | nilp => intro s s' g o h h'; exact leaf h h'
  | nils => intro s s' g o h h'; exact leaf h h'
  | nilf => intro s s' g o h h'; exact leaf h h'
  | ptr id p s0 => intro s s' g o h h'; obtain ⟨h0, b, off, h1, h2, h3⟩ := h; obtain ⟨h0', b', off', h1', h2', h3'⟩ := h'; rw [h3.1, h3'.1]
  | row id e n => intro s s' g o h h'; exact leaf h.2.2.2 h'.2.2.2
  | sl id p e off len cap => intro s s' g o h h'; obtain ⟨h0, ad, c, o1, n, h3, h4⟩ := h; obtain ⟨h0', ad', c', o1', n', h3', h4'⟩ := h'; rw [h3.1, h3'.1]
  | ref u s1 c ih => intro s s' g o h h'; obtain ⟨b, o1, h1, h2⟩ := h; obtain ⟨b', o1', h1', h2'⟩ := h'; rw [h1.1, h1'.1]
  | ro u clip e len f ih => intro s s' g o h h'; obtain ⟨a, c, h1, h2⟩ := h; obtain ⟨a', c', h1', h2'⟩ := h'; rw [h1.1, h1'.1]
  | fn f cap ih => intro s s' g o h h'; obtain ⟨cs, h1, h2⟩ := h; obtain ⟨cs', h1', h2'⟩ := h'; rw [h1.1, h1'.1]

omit [Gl] in
theorem R.fits {C : Ctx} (v : V) : ∀ {s s' : Shape} {g : Nat → Option Value} {o : Nat}, R C v (.cel s' g o) → v.fits s = true → R C v (.cel s g o) := by
  induction v with
  | nl => intro s s' g o h hf; cases s <;> simp [V.fits] at hf; rfl
  | cons x t ih1 ih2 =>
    intro s s' g o h hf
    cases s <;> simp [V.fits] at hf
    rename_i a b
    obtain ⟨a', b', rfl, h2, h3⟩ := h
    have e1 := ih1 h2 hf.1
    have hsz : a'.size = a.size := by
      exact R.sizes x h2 e1
    refine ⟨a, b, rfl, e1, ?_⟩
    rw [← hsz]
    exact ih2 h3 hf.2
  | arr n f ih =>
    intro s s' g o h hf
    cases s <;> simp [V.fits] at hf
    rename_i m e
    obtain ⟨rfl, hf⟩ := hf
    obtain ⟨e', rfl, h2⟩ := h
    refine ⟨e, rfl, fun i hi => ?_⟩
    have e1 := ih i (h2 i hi) (hf i hi)
    have hsz : e'.size = e.size := R.sizes (f i) (h2 i hi) e1
    rw [← hsz]
    exact e1
  | unk => intro s s' g o h hf; cases s <;> simp [V.fits] at hf; exact ⟨rfl, h.2⟩
  | yld id => intro s s' g o h hf; cases s <;> simp [V.fits] at hf; exact ⟨h.1, h.2.1, rfl, h.2.2.2⟩
  | tup l ih => intro s s' g o h hf; simp [V.fits] at hf
  | int k n => intro s s' g o h hf; cases s <;> simp [V.fits] at hf; exact ⟨rfl, h.2⟩
  | bool k => intro s s' g o h hf; cases s <;> simp [V.fits] at hf; exact ⟨rfl, h.2⟩
  | str k => intro s s' g o h hf; cases s <;> simp [V.fits] at hf; exact ⟨rfl, h.2⟩
  | nilp => intro s s' g o h hf; cases s <;> simp [V.fits] at hf; exact ⟨rfl, h.2⟩
  | nils => intro s s' g o h hf; cases s <;> simp [V.fits] at hf; exact ⟨rfl, h.2⟩
  | nilf => intro s s' g o h hf; cases s <;> simp [V.fits] at hf; exact ⟨rfl, h.2⟩
  | ptr id p s0 => intro s s' g o h hf; cases s <;> simp [V.fits] at hf; obtain ⟨h0, b, off, h1, h2, h3⟩ := h; exact ⟨h0, b, off, h1, h2, rfl, h3.2⟩
  | row id e n => intro s s' g o h hf; cases s <;> simp [V.fits] at hf; obtain ⟨h0, h1, h2, h3⟩ := h; exact ⟨h0, h1, h2, rfl, h3.2⟩
  | sl id p e off len cap => intro s s' g o h hf; cases s <;> simp [V.fits] at hf; obtain ⟨h0, ad, c, o1, n, h3, h4⟩ := h; exact ⟨h0, ad, c, o1, n, ⟨rfl, h3.2⟩, h4⟩
  | ref u s1 c ih => intro s s' g o h hf; cases s <;> simp [V.fits] at hf; obtain ⟨b, o1, h1, h2⟩ := h; exact ⟨b, o1, ⟨rfl, h1.2⟩, h2⟩
  | ro u clip e len f ih => intro s s' g o h hf; cases s <;> simp [V.fits] at hf; obtain ⟨a, c, h1, h2⟩ := h; exact ⟨a, c, ⟨rfl, h1.2⟩, h2⟩
  | fn f cap ih => intro s s' g o h hf; cases s <;> simp [V.fits] at hf; obtain ⟨cs, h1, h2⟩ := h; exact ⟨cs, ⟨rfl, h1.2⟩, h2⟩

def V.known : V → Bool
  | .unk => false
  | _ => true

omit [Gl] in
/-- A value that fits a shape, as cells. -/
theorem R.cells_of {C : Ctx} {v : V} {s : Shape} {x : Value} (h : R C v (.val x)) (hf : v.fits s = true) (hu : v.known = true) :
    x.cells.size = s.size ∧ R C v (.cel s (fun i => x.cells[i]?) 0) ∧ ∀ u ∈ x.cells.toList, u.oneCell' = true := by
  by_cases ha : v.isAgg = true
  · obtain ⟨s', cs, rfl, h2, h3, h4⟩ := R.agg_at h ha
    have h5 := R.fits v h4 hf
    have hz := R.sizes v h4 h5
    refine ⟨by simp [Value.cells, h2, hz], h5, fun u hu => ?_⟩
    obtain ⟨k, hk, rfl⟩ := List.mem_iff_getElem.1 hu
    simp only [Value.cells, Array.length_toList] at hk
    obtain ⟨y, h6, h7⟩ := R.cells v h5 k (by omega)
    have : (Value.agg cs).cells[0 + k]? = some y := h6
    simp only [Value.cells, Nat.zero_add, Array.getElem?_eq_getElem hk, Option.some.injEq] at this
    simp only [Value.cells, Array.getElem_toList]
    rw [this]; exact h7
  · have hls : v.isLeaf = true ∧ s = .sc := by
      cases v <;> cases s <;> first
        | exact ⟨rfl, rfl⟩
        | exact absurd rfl ha
        | (simp [V.fits] at hf; done)
        | (simp [V.known] at hu; done)
    obtain ⟨hl, rfl⟩ := hls
    have h1 := R.leaf_one h hl
    have hc : x.cells = #[x] := by cases x <;> first | rfl | simp [Value.oneCell'] at h1
    refine ⟨by simp [hc, Shape.size], R.leaf_at h hl (by simp [hc]), ?_⟩
    intro u hu
    simp [hc] at hu
    subst hu; exact h1

end Go.Ab
set_option linter.unusedVariables false
set_option linter.unusedSimpArgs false
namespace Go.Ab
open Go.RowKit
variable [Gl]

def V.ofVal : Value → V
  | .int k n => .int k n
  | .bool b => .bool b
  | .string s => .str s
  | .pointer none => .nilp
  | .slice none 0 0 => .nils
  | .nilFunc => .nilf
  | .nilIface => .fn 2147483648 .nl
  | _ => .unk

omit [Gl] in
/-- No value of an interface. -/
theorem R.nilI {C : Ctx} {m : Ab.M} (h : m.leaf .nilIface) : R C (.fn 2147483648 .nl) m :=
  ⟨⟨#[], #[], fun h => absurd h (by decide), fun h => absurd h (by decide)⟩, h, rfl⟩
omit [Gl] in
theorem R.ofVal (C : Ctx) (v : Value) : R C (V.ofVal v) (.val v) := by
  unfold V.ofVal
  split <;> first
    | rfl
    | exact R.nilI rfl
    | exact trivial

omit [Gl] in
/-- A scalar that is known, at its place. -/
theorem R.ofVal_at (C : Ctx) {v : Value} {g : Nat → Option Value} {o : Nat} (h : g o = some v) (h1 : v.oneCell' = true) : R C (V.ofVal v) (.cel .sc g o) := by
  unfold V.ofVal
  split <;> first
    | exact ⟨rfl, h⟩
    | exact R.nilI ⟨rfl, h⟩
    | exact ⟨rfl, _, h, h1⟩

/-- The zero of a type. -/
def ztree (P : Program) : Nat → TypeId → V
  | 0, _ => .unk
  | d + 1, t => match P.underlying t with
    | some (.struct fs) => fs.toList.foldr (fun f acc => .cons (ztree P d f.type) acc) .nl
    | some (.array n e) => .arr n fun _ => ztree P d e
    | _ => match P.info? t with
      | some i => match i.zero with
        | some z => V.ofVal z
        | none => .unk
      | none => .unk

/-- Do these cells hold this tree? -/
def V.held : V → Shape → (Nat → Option Value) → Nat → Bool
  | .int k n, .sc, g, o => match g o with | some (.int k' n') => k == k' && n == n' | _ => false
  | .bool b, .sc, g, o => match g o with | some (.bool b') => b == b' | _ => false
  | .str s, .sc, g, o => match g o with | some (.string s') => s.data.toList == s'.data.toList | _ => false
  | .nilp, .sc, g, o => match g o with | some (.pointer none) => true | _ => false
  | .nils, .sc, g, o => match g o with | some (.slice none 0 0) => true | _ => false
  | .nilf, .sc, g, o => match g o with | some .nilFunc => true | _ => false
  | .unk, .sc, g, o => match g o with | some v => v.oneCell' | _ => false
  | .nl, .nl, _, _ => true
  | .cons h t, .cons a b, g, o => h.held a g o && t.held b g (o + a.size)
  | .arr n f, .arr m e, g, o => n == m && (List.range n).all fun i => (f i).held e g (o + i * e.size)
  | _, _, _, _ => false

omit [Gl] in
theorem R.held {C : Ctx} (v : V) : ∀ {s : Shape} {g : Nat → Option Value} {o : Nat}, v.held s g o = true → R C v (.cel s g o) := by
  induction v with
  | nl => intro s g o h; cases s <;> simp [V.held] at h; rfl
  | cons x t ih1 ih2 =>
    intro s g o h
    cases s <;> simp [V.held] at h
    exact ⟨_, _, rfl, ih1 h.1, ih2 h.2⟩
  | arr n f ih =>
    intro s g o h
    cases s <;> simp [V.held] at h
    obtain ⟨rfl, h⟩ := h
    exact ⟨_, rfl, fun i hi => ih i (h i hi)⟩
  | int k n =>
    intro s g o h
    cases s <;> simp only [V.held] at h <;> (try (simp at h; done))
    split at h
    · rename_i k' n' hg; simp at h; obtain ⟨rfl, rfl⟩ := h; exact ⟨rfl, hg⟩
    · cases h
  | bool b =>
    intro s g o h
    cases s <;> simp only [V.held] at h <;> (try (simp at h; done))
    split at h
    · rename_i b' hg; simp at h; subst h; exact ⟨rfl, hg⟩
    · cases h
  | str x =>
    intro s g o h
    cases s <;> simp only [V.held] at h <;> (try (simp at h; done))
    split at h
    · rename_i y hg
      have : x = y := by
        obtain ⟨⟨a⟩⟩ := x; obtain ⟨⟨b⟩⟩ := y
        simp at h; simp [h]
      subst this; exact ⟨rfl, hg⟩
    · cases h
  | nilp =>
    intro s g o h
    cases s <;> simp only [V.held] at h <;> (try (simp at h; done))
    split at h
    · exact ⟨rfl, ‹_›⟩
    · cases h
  | nils =>
    intro s g o h
    cases s <;> simp only [V.held] at h <;> (try (simp at h; done))
    split at h
    · exact ⟨rfl, ‹_›⟩
    · cases h
  | nilf =>
    intro s g o h
    cases s <;> simp only [V.held] at h <;> (try (simp at h; done))
    split at h
    · exact ⟨rfl, ‹_›⟩
    · cases h
  | unk =>
    intro s g o h
    cases s <;> simp only [V.held] at h <;> (try (simp at h; done))
    split at h
    · exact ⟨rfl, _, ‹_›, h⟩
    · cases h
  | _ => intro s g o h; cases s <;> simp [V.held] at h

/-- The zero of a type, if the table bears it out. -/
def zero? (P : Program) (t : TypeId) : Option (Shape × V) :=
  match tshape P t, P.info? t with
  | some s, some i => match i.zero with
    | some z => if z.cells.size = s.size ∧ (ztree P 12 t).held s (fun j => z.cells[j]?) 0 = true then some (s, ztree P 12 t) else none
    | none => none
  | _, _ => none

omit [Gl] in
theorem zero?_spec {P : Program} {t : TypeId} {s : Shape} {v : V} (h : zero? P t = some (s, v)) :
    tshape P t = some s ∧ ∃ z, (∀ w, (zeroValue t).run P w = .ok z w) ∧ z.cells.size = s.size ∧ ∀ C, R C v (.cel s (fun j => z.cells[j]?) 0) := by
  unfold zero? at h
  split at h
  · rename_i s' i h1 h2
    split at h
    · rename_i z hz
      split at h
      · rename_i hc
        simp only [Option.some.injEq, Prod.mk.injEq] at h
        obtain ⟨rfl, rfl⟩ := h
        exact ⟨h1, z, fun w => by simp [zeroValue, typeInfo, h2, hz], hc.1, fun C => R.held _ hc.2⟩
      · cases h
    · cases h
  · cases h

/-! ### The operations -/

variable {P : Program} {B : Nat} {o : Oper} {ρ : Operand → V} {m : Mem} {n : Nat}

theorem sem_move {x : Operand} (ho : o.op = .move x ∨ o.op = .assign x) : OpSem P B o ρ m n (pureE (ρ x)) :=
  OpSem.pure fun C M ρc _ _ hx => ⟨ρc x, by rcases ho with ho | ho <;> simp [execOp, ho], hx x (by rcases ho with ho | ho <;> simp [ho, Op.operands])⟩

theorem sem_pick {c a b : Operand} {t : Bool} (ho : o.op = .pick c a b) (hc : ρ c = .bool t) : OpSem P B o ρ m n (pureE (V.ite t (ρ a) (ρ b))) :=
  OpSem.pure fun C M ρc _ _ hx => by
    have h0 := hx c (by simp [ho, Op.operands])
    rw [hc] at h0
    have h0' : ρc c = .bool t := h0
    refine ⟨if t then ρc a else ρc b, by simp [execOp, ho, h0', asBool], ?_⟩
    rw [V.ite_eq]
    cases t
    · exact hx b (by simp [ho, Op.operands])
    · exact hx a (by simp [ho, Op.operands])

/-- A new variable. -/
theorem does_new {C : Ctx} {M : Mem} {cs : Array Value} {t : TypeId} {s : Shape} {v : V} {op : Sem Next} (hs : SR B C M) (hn : ¬ C.al n)
    (hrun : op.run P C.w = .ok (.value (.pointer (some ⟨C.w.heap.size, 0, none⟩))) (C.w.alloc (.cells cs t))) (hz : cs.size = s.size) (hv : R C v (.cel s (fun i => cs[i]?) 0)) :
    Does P op C.w (Post B C (upd M n (some ⟨.box t, s, v⟩)) (fun id => n ≤ id ∧ id < n + 1) (.ptr n [] s)) := by
  unfold Does
  rw [hrun]
  obtain ⟨h1, h2⟩ := hs.alloc hn cs t ⟨.box t, s, v⟩ (.pointer (some ⟨C.w.heap.size, 0, none⟩)) rfl (by
    intro C' hk h3 h4 h5
    exact ⟨C.w.heap.size, cs, t, h3, hs.base, by rw [h5]; exact heap_alloc_new C.w _, h4, hz, R.keep hk _ _ hv, rfl⟩)
  refine ⟨_, rfl, ⟨Or.inr rfl, C.w.heap.size, 0, by simp [blk?], by simp [Shape.path], rfl⟩, h2, h1, fun id h => ?_⟩
  rcases h with h | h
  · exact .inl h
  · exact .inr ⟨by omega, by omega⟩

theorem sem_alloc {t : TypeId} {s : Shape} {z : V} (ho : o.op = .alloc t) (hz : zero? P t = some (s, z)) : OpSem P B o ρ m n ⟨.ptr n [] s, [], [⟨.box t, s, z⟩], []⟩ := by
  intro C M ρc hs _ _ hn _
  obtain ⟨_, zv, h1, h2, h3⟩ := zero?_spec hz
  rw [put_new]
  refine does_new hs (by simpa using hn 0 (by simp)) (cs := zv.cells) (t := t) ?_ h2 (h3 C)
  simp [execOp, ho, Instr.alloc, h1, newVar, newRow]

theorem sem_box {t : TypeId} {x : Operand} {s : Shape} (ho : o.op = .box t x) (hf : (ρ x).fits s = true) (hk : (ρ x).known = true) : OpSem P B o ρ m n ⟨.ptr n [] s, [], [⟨.box t, s, ρ x⟩], []⟩ := by
  intro C M ρc hs _ _ hn hx
  obtain ⟨h1, h2, _⟩ := R.cells_of (hx x (by simp [ho, Op.operands])) hf hk
  rw [put_new]
  refine does_new hs (by simpa using hn 0 (by simp)) (cs := (ρc x).cells) (t := t) ?_ h1 h2
  simp [execOp, ho, Instr.box, newVar, newRow]

omit [Gl] in
/-- The cells of a block of the function's own. -/
theorem BR.at {C : Ctx} {id : Nat} {blk : Blk} {b d : Nat} {p : List Step} {t : Shape} (h : BR B C id blk) (ha : blk.alive = true) (hb : blk? (C.sv id) = some b) (hp : Shape.path p (C.shp id) = some (d, t)) :
    R C (blk.v.path p) (.cel t (cg C.w b) d) ∧ C.shp id = blk.sh := by
  unfold BR at h; unfold Blk.alive at ha
  cases hkd : blk.k <;> simp only [hkd] at h ha
  · obtain ⟨g, cur, e, h1, h2, h3, h4, h5, h6, hT⟩ := h
    rw [h1] at hb; simp only [blk?, Option.some.injEq] at hb; subst hb
    rw [h4] at hp
    have h7 := R.path p h6 hp
    rw [Nat.zero_add] at h7
    refine ⟨?_, h4⟩
    have : (fun i => cur[i]?) = cg C.w g := by funext i; exact (cell_of_row C.w g i cur e (0, 0) h3).symm
    rw [← this]; exact h7
  · obtain ⟨n, s, cells, h1, h2, h3, h4⟩ := h
    rw [h1] at hp
    have h7 := R.path p h4 hp
    rw [Nat.zero_add] at h7
    refine ⟨?_, h1⟩
    refine R.shift _ h7 fun k hk => ?_
    have hle := Shape.path_le p _ hp
    rcases h3.2 with ⟨h8, _⟩ | ⟨g, cap, cur, hv, hg, hh, hnc, _, hcs, htake⟩
    · rw [h8] at hb; simp [blk?] at hb
    · rw [hv] at hb; simp only [blk?, Option.some.injEq] at hb; subst hb
      show C.w.cell? ⟨g, d + k, none⟩ = cells[d + k]?
      rw [cell_of_row C.w g (d + k) cur _ (0, 0) hh, ← htake, List.getElem?_take]
      rw [h2] at hle
      simp only [Shape.size] at hle
      rw [if_pos (by omega)]
      simp
  · simp at ha
  · simp at ha
  · simp at ha

theorem sem_load {t : TypeId} {x : Operand} {id : Nat} {p : List Step} {blk : Blk} {s : Shape} {d : TypeDesc} (ho : o.op = .load t x) (hx : ρ x = .ptr id p s) (hm : m id = some blk) (ha : blk.alive = true)
    (ht : tshape P t = some s) (hu : P.underlying t = some d) : OpSem P B o ρ m n ⟨blk.v.path p, [], [], [id]⟩ :=
  OpSem.pure fun C M ρc hs hr hrel => by
    have h0 := hrel x (by simp [ho, Op.operands])
    rw [hx] at h0
    obtain ⟨hal, b, off, h1, h2, h3⟩ := h0
    have h3' : ρc x = .pointer (some ⟨b, off, none⟩) := h3
    have hM : M id = some blk := by rw [hr id (by simp), hm]
    obtain ⟨h4, h5⟩ := BR.at (hs.mem id blk hM) ha h1 h2
    obtain ⟨val, h6, h7⟩ := run_loadVar_tree ht hu h4
    exact ⟨val, by simp [execOp, ho, h3', Instr.loadAt, Instr.sureAddr, h6], h7⟩

theorem sem_load_ref {t : TypeId} {x : Operand} {u : Bool} {c : V} {s : Shape} {d : TypeDesc} (ho : o.op = .load t x) (hx : ρ x = .ref u s c) (ht : tshape P t = some s) (hu : P.underlying t = some d) : OpSem P B o ρ m n (pureE c) :=
  OpSem.pure fun C M ρc hs hr hrel => by
    have h0 := hrel x (by simp [ho, Op.operands])
    rw [hx] at h0
    obtain ⟨b, off, h1, h2, h3⟩ := h0
    have h1' : ρc x = .pointer (some ⟨b, off, none⟩) := h1
    obtain ⟨val, h6, h7⟩ := run_loadVar_tree (C := C.pur) ht hu h3
    exact ⟨val, by simp only [Ctx.pur] at h6; simp [execOp, ho, h1', Instr.loadAt, Instr.sureAddr, h6], R.keep (Keep.of_pur C) _ _ h7⟩

omit [Gl] in
theorem size_take_drop (cur : Array Value) (o : Nat) (vs : List Value) (h : o + vs.length ≤ cur.size) : (cur.toList.take o ++ vs ++ cur.toList.drop (o + vs.length)).length = cur.size := by
  simp; omega
omit [Gl] in
theorem get_splice (cur : Array Value) (o : Nat) (vs : List Value) (h : o + vs.length ≤ cur.size) (j : Nat) :
    (cur.toList.take o ++ vs ++ cur.toList.drop (o + vs.length))[j]? = if o ≤ j ∧ j < o + vs.length then vs[j - o]? else cur[j]? := by
  have hlen : (cur.toList.take o).length = o := by simp; omega
  rw [List.append_assoc, List.getElem?_append]
  by_cases h1 : j < o
  · rw [hlen, if_pos h1, if_neg (by omega), List.getElem?_take, if_pos h1]; simp
  · rw [hlen, if_neg h1, List.getElem?_append]
    by_cases h2 : j < o + vs.length
    · rw [if_pos (by omega), if_pos ⟨by omega, h2⟩]
    · rw [if_neg (by omega), if_neg (by omega), List.getElem?_drop]
      rw [show o + vs.length + (j - o - vs.length) = j by omega]; simp

/-- A store into a block of the function's own. -/
theorem does_store {C : Ctx} {M : Mem} {id : Nat} {blk : Blk} {p : List Step} {x : V} {val : Value} {b d : Nat} {t : Shape} {op : Sem Next} (hs : SR B C M) (hm : M id = some blk) (ha : blk.alive = true)
    (hb : blk? (C.sv id) = some b) (hp : Shape.path p (C.shp id) = some (d, t)) (hx : R C x (.val val)) (hf : x.fits t = true) (hk : x.known = true)
    (hrun : ∀ w', (storeCells ⟨b, d, none⟩ val.cells.toList).run P C.w = .ok () w' → op.run P C.w = .ok .skip w') :
    Does P op C.w (Post B C (upd M id (some ⟨blk.k, blk.sh, V.set p x blk.v⟩)) (fun i => n ≤ i ∧ i < n + 0) (.tup .nl)) := by
  obtain ⟨hz, hcx, h1⟩ := R.cells_of hx hf hk
  have hbr := hs.mem id blk hm
  have hle := Shape.path_le p _ hp
  have hvl : val.cells.toList.length = t.size := by simpa using hz
  -- the row that is written
  have key : ∃ cur e, C.w.heap[b]? = some (.cells cur e (0, 0)) ∧ d + t.size ≤ cur.size ∧
      ∀ C' : Ctx, Keep C C' → C'.sv id = C.sv id → C'.shp id = C.shp id → C'.w = C.w.setRow b (cur.toList.take d ++ val.cells.toList ++ cur.toList.drop (d + val.cells.toList.length)).toArray →
        BR B C' id ⟨blk.k, blk.sh, V.set p x blk.v⟩ := by
    unfold BR at hbr; unfold Blk.alive at ha
    cases hkd : blk.k <;> simp only [hkd] at hbr ha
    · obtain ⟨g, cur, e, h2, h3, h4, h5, h6, h7, rfl⟩ := hbr
      rw [h2] at hb; simp only [blk?, Option.some.injEq] at hb; subst hb
      rw [h5] at hp hle
      refine ⟨cur, e, h4, by omega, fun C' hk' e1 e2 e3 => ?_⟩
      show BR B C' id ⟨.box e, blk.sh, _⟩
      refine ⟨g, _, e, by rw [e1]; exact h2, h3, by rw [e3]; exact setRow_heap C.w g cur _ e _ h4, by rw [e2]; exact h5, ?_, ?_⟩
      · rw [List.size_toArray, size_take_drop _ _ _ (by rw [hvl]; omega)]; exact h6
      · refine ⟨R.set p (R.keep hk' _ _ h7) hp ?_ ?_, rfl⟩
        · intro j hj
          simp only [List.getElem?_toArray, Nat.zero_add] at hj ⊢
          rw [get_splice _ _ _ (by rw [hvl]; omega), hvl, if_neg hj]
        · refine R.shift x (R.keep hk' _ _ hcx) fun k hk2 => ?_
          simp only [List.getElem?_toArray]
          rw [get_splice _ _ _ (by rw [hvl]; omega), hvl, if_pos (by omega)]
          rw [show 0 + d + k - d = 0 + k by omega]; simp
    · obtain ⟨n1, s1, cells, h2, h3, h4, h5⟩ := hbr
      rw [h2] at hp hle
      obtain ⟨h40, h4⟩ := h4
      rcases h4 with ⟨h8, _⟩ | ⟨g, cap, cur, hv, hg, hh, hnc, hcm, hcs, htake⟩
      · rw [h8] at hb; simp [blk?] at hb
      · rw [hv] at hb; simp only [blk?, Option.some.injEq] at hb; subst hb
        rename_i e
        have hsz : blk.sh.size = n1 * s1.size := by rw [h3]; rfl
        have hcz : n1 * s1.size ≤ cur.size := by rw [hcs]; exact Nat.mul_le_mul_right _ hnc
        refine ⟨cur, e, hh, by omega, fun C' hk' e1 e2 e3 => ?_⟩
        show BR B C' id ⟨.row e, blk.sh, _⟩
        refine ⟨n1, s1, (cur.toList.take d ++ val.cells.toList ++ cur.toList.drop (d + val.cells.toList.length)).take (n1 * s1.size), by rw [e2]; exact h2, h3, ⟨?_, .inr ⟨g, cap, _, by rw [e1]; exact hv, hg, by rw [e3]; exact setRow_heap C.w g cur _ e _ hh, hnc, hcm, ?_, ?_⟩⟩, ?_⟩
        · rw [List.length_take, size_take_drop _ _ _ (by rw [hvl]; omega)]; omega
        · rw [List.size_toArray, size_take_drop _ _ _ (by rw [hvl]; omega)]; exact hcs
        · rfl
        · have hcell : ∀ j, j < n1 * s1.size → cells[j]? = cur[j]? := by
            intro j hj; rw [← htake, List.getElem?_take, if_pos hj]; simp
          refine R.set p (R.keep hk' _ _ h5) hp ?_ ?_
          · intro j hj
            simp only [Nat.zero_add] at hj ⊢
            by_cases hj2 : j < n1 * s1.size
            · rw [List.getElem?_take, if_pos hj2, get_splice _ _ _ (by rw [hvl]; omega), hvl, if_neg hj, hcell j hj2]
            · rw [List.getElem?_take, if_neg hj2, ← htake, List.getElem?_take, if_neg hj2]
          · refine R.shift x (R.keep hk' _ _ hcx) fun k hk2 => ?_
            rw [List.getElem?_take, if_pos (by omega), get_splice _ _ _ (by rw [hvl]; omega), hvl, if_pos (by omega)]
            rw [show 0 + d + k - d = 0 + k by omega]; simp
    · simp at ha
    · simp at ha
    · simp at ha
  obtain ⟨cur, e, hh, hfit, hbr'⟩ := key
  have hrun' := run_storeCells_at P b d e val.cells.toList 0 cur C.w hh (by rw [hvl]; omega) h1
  simp only [Nat.add_zero] at hrun'
  obtain ⟨h2, h3⟩ := hs.write hm (Blk.lv ha) (blkL_of hb) _ hbr'
  unfold Does
  rw [hrun _ hrun']
  exact ⟨_, rfl, ⟨#[], rfl, rfl⟩, h3, h2, fun i hi => .inl hi⟩

theorem sem_store {t : TypeId} {a x : Operand} {id : Nat} {p : List Step} {blk : Blk} {s : Shape} (ho : o.op = .store t a x) (hx : ρ a = .ptr id p s) (hm : m id = some blk) (ha : blk.alive = true)
    (ht : tshape P t = some s) (hf : (ρ x).fits s = true) (hk : (ρ x).known = true) : OpSem P B o ρ m n ⟨.tup .nl, [(id, ⟨blk.k, blk.sh, V.set p (ρ x) blk.v⟩)], [], []⟩ := by
  intro C M ρc hs _ hup _ hrel
  have h0 := hrel a (by simp [ho, Op.operands])
  have hv := hrel x (by simp [ho, Op.operands])
  rw [hx] at h0
  obtain ⟨hal, b, off, h1, h2, h3⟩ := h0
  have h3' : ρc a = .pointer (some ⟨b, off, none⟩) := h3
  have hM : M id = some blk := (hup _ (List.mem_singleton.2 rfl)).trans hm
  rw [put_up]
  refine does_store hs hM ha h1 h2 hv hf hk fun w' hw' => ?_
  obtain ⟨i, hi, hsz, _⟩ := tshape_size ht
  obtain ⟨hz, _, _⟩ := R.cells_of hv hf hk
  simp [execOp, ho, h3', Instr.storeAt, Instr.sureAddr, storeVar, run_sizeOf' hi, hsz, hz, hw']

end Go.Ab
