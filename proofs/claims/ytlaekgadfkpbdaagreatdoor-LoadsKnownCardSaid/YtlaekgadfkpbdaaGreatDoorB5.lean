/- Single operations over memory: alloc, box, load, store, addresses. No condition. Single operations: what each does to trees, and that the model does the same. No condition. Single operations: addresses, parts, numbers, tests. No condition. -/
import Derived.Test.YtlaekgadfkpbdaaGreatDoorB1
set_option linter.unusedVariables false
set_option linter.unusedSimpArgs false
namespace Go.Ab
open Go.RowKit
variable [Gl]

/-- The shape at a path, whatever the indexes. -/
def Shape.stepU (s : Shape) : Step → Option Shape
  | .fld k => (s.fld k).map (·.2)
  | .idx _ => match s with
    | .arr _ e => some e
    | _ => none
  | .sub _ k => match s with
    | .arr _ e => some (.arr k e)
    | _ => none
def Shape.pathU : List Step → Shape → Option Shape
  | [], s => some s
  | x :: p, s => match s.stepU x with
    | some t => Shape.pathU p t
    | none => none

omit [Gl] in
theorem Shape.stepU_of {s t : Shape} {x : Step} {d : Nat} (h : s.step x = some (d, t)) : s.stepU x = some t := by
  cases x with
  | fld k => simp only [Shape.step] at h; simp [Shape.stepU, h]
  | idx i => cases s <;> simp [Shape.step] at h; simp [Shape.stepU, h]
  | sub o k => cases s <;> simp [Shape.step] at h; simp [Shape.stepU, h]

omit [Gl] in
theorem Shape.pathU_of : ∀ (p : List Step) {s t : Shape} {d : Nat}, Shape.path p s = some (d, t) → Shape.pathU p s = some t
  | [], s, t, d, h => by simp [Shape.path] at h; simp [Shape.pathU, h]
  | x :: p, s, t, d, h => by
    simp only [Shape.path] at h
    split at h
    · rename_i d1 t1 h1
      simp only [Option.map_eq_some_iff] at h
      obtain ⟨⟨d2, t2⟩, h2, h3⟩ := h
      simp only [Prod.mk.injEq] at h3
      obtain ⟨_, rfl⟩ := h3
      simp only [Shape.pathU, Shape.stepU_of h1]
      exact Shape.pathU_of p h2
    · cases h

omit [Gl] in
theorem Shape.path_snoc : ∀ (p : List Step) {s t u : Shape} {d e : Nat} {x : Step}, Shape.path p s = some (d, t) → t.step x = some (e, u) → Shape.path (p ++ [x]) s = some (d + e, u)
  | [], s, t, u, d, e, x, h, hx => by
    simp only [Shape.path, Option.some.injEq, Prod.mk.injEq] at h
    obtain ⟨rfl, rfl⟩ := h
    simp [Shape.path, hx]
  | y :: p, s, t, u, d, e, x, h, hx => by
    simp only [Shape.path] at h
    split at h
    · rename_i d1 t1 h1
      simp only [Option.map_eq_some_iff] at h
      obtain ⟨⟨d2, t2⟩, h2, h3⟩ := h
      simp only [Prod.mk.injEq] at h3
      obtain ⟨rfl, rfl⟩ := h3
      simp only [List.cons_append, Shape.path, h1, Shape.path_snoc p h2 hx, Option.map_some]
      rw [Nat.add_assoc]
    · cases h

/-- Every length, and every scalar, agrees. -/
def V.fits : V → Shape → Bool
  | .nl, .nl => true
  | .cons h t, .cons a b => h.fits a && t.fits b
  | .arr n f, .arr m e => n == m && (List.range n).all fun i => (f i).fits e
  | .nl, _ | .cons _ _, _ | .arr _ _, _ => false
  | .tup _, _ => false
  | _, .sc => true
  | _, _ => false

omit [Gl] in
theorem R.sizes {C : Ctx} (v : V) : ∀ {s s' : Shape} {g : Nat → Option Value} {o : Nat}, R C v (.cel s' g o) → R C v (.cel s g o) → s'.size = s.size := by
  have leaf : ∀ {x : Value} {s s' : Shape} {g : Nat → Option Value} {o : Nat}, (M.cel s' g o).leaf x → (M.cel s g o).leaf x → s'.size = s.size := by
    intro x s s' g o h h'; rw [h.1, h'.1]
  induction v with
  | nl => intro s s' g o h h'; rw [show s' = .nl from h, show s = .nl from h']
  | cons x t ih1 ih2 =>
    intro s s' g o h h'
    obtain ⟨a, b, rfl, h2, h3⟩ := h
    obtain ⟨a', b', rfl, h2', h3'⟩ := h'
    have e1 := ih1 h2 h2'
    rw [e1] at h3
    simp only [Shape.size, e1, ih2 h3 h3']
  | arr n f ih =>
    intro s s' g o h h'
    obtain ⟨e, rfl, h2⟩ := h
    obtain ⟨e', rfl, h2'⟩ := h'
    simp only [Shape.size]
    rcases Nat.eq_zero_or_pos n with h0 | h0
    · simp [h0]
    · have a1 := h2 0 h0
      have a2 := h2' 0 h0
      simp only [Nat.zero_mul, Nat.add_zero] at a1 a2
      rw [ih 0 a1 a2]
  | unk => intro s s' g o h h'; rw [h.1, h'.1]
  | yld id => intro s s' g o h h'; exact leaf h.2.2 h'.2.2
  | tup l ih => intro s s' g o h h'; exact h.elim
  | int k n => intro s s' g o h h'; exact leaf h h'
  | bool k => intro s s' g o h h'; exact leaf h h'
  | str k => intro s s' g o h h'; exact leaf h h'
  | nilp => intro s s' g o h h'; exact leaf h h'
  | nils => intro s s' g o h h'; exact leaf h h'
  | nilf => intro s s' g o h h'; exact leaf h h'
  | ptr id p s0 => intro s s' g o h h'; obtain ⟨h0, b, off, h1, h2, h3⟩ := h; obtain ⟨h0', b', off', h1', h2', h3'⟩ := h'; rw [h3.1, h3'.1]
  | row id e n => intro s s' g o h h'; exact leaf h.2.2.2 h'.2.2.2
  | sl id p e off len cap => intro s s' g o h h'; obtain ⟨h0, ad, c, o1, n, h3, h4⟩ := h; obtain ⟨h0', ad', c', o1', n', h3', h4'⟩ := h'; rw [h3.1, h3'.1]
  | ref u s1 c ih => intro s s' g o h h'; obtain ⟨b, o1, h1, h2⟩ := h; obtain ⟨b', o1', h1', h2'⟩ := h'; rw [h1.1, h1'.1]
  | ro u clip e len f ih => intro s s' g o h h'; obtain ⟨a, c, h1, h2⟩ := h; obtain ⟨a', c', h1', h2'⟩ := h'; rw [h1.1, h1'.1]
  | fn f cap ih => intro s s' g o h h'; obtain ⟨cs, h1, h2⟩ := h; obtain ⟨cs', h1', h2'⟩ := h'; rw [h1.1, h1'.1]

omit [Gl] in
theorem R.fits {C : Ctx} (v : V) : ∀ {s s' : Shape} {g : Nat → Option Value} {o : Nat}, R C v (.cel s' g o) → v.fits s = true → R C v (.cel s g o) := by
  induction v with
  | nl => intro s s' g o h hf; cases s <;> simp [V.fits] at hf; rfl
  | cons x t ih1 ih2 =>
    intro s s' g o h hf
    cases s <;> simp [V.fits] at hf
    rename_i a b
    obtain ⟨a', b', rfl, h2, h3⟩ := h
    have e1 := ih1 h2 hf.1
    have hsz : a'.size = a.size := by
      exact R.sizes x h2 e1
    refine ⟨a, b, rfl, e1, ?_⟩
    rw [← hsz]
    exact ih2 h3 hf.2
  | arr n f ih =>
    intro s s' g o h hf
    cases s <;> simp [V.fits] at hf
    rename_i m e
    obtain ⟨rfl, hf⟩ := hf
    obtain ⟨e', rfl, h2⟩ := h
    refine ⟨e, rfl, fun i hi => ?_⟩
    have e1 := ih i (h2 i hi) (hf i hi)
    have hsz : e'.size = e.size := R.sizes (f i) (h2 i hi) e1
    rw [← hsz]
    exact e1
  | unk => intro s s' g o h hf; cases s <;> simp [V.fits] at hf; exact ⟨rfl, h.2⟩
  | yld id => intro s s' g o h hf; cases s <;> simp [V.fits] at hf; exact ⟨h.1, h.2.1, rfl, h.2.2.2⟩
  | tup l ih => intro s s' g o h hf; simp [V.fits] at hf
  | int k n => intro s s' g o h hf; cases s <;> simp [V.fits] at hf; exact ⟨rfl, h.2⟩
  | bool k => intro s s' g o h hf; cases s <;> simp [V.fits] at hf; exact ⟨rfl, h.2⟩
  | str k => intro s s' g o h hf; cases s <;> simp [V.fits] at hf; exact ⟨rfl, h.2⟩
  | nilp => intro s s' g o h hf; cases s <;> simp [V.fits] at hf; exact ⟨rfl, h.2⟩
  | nils => intro s s' g o h hf; cases s <;> simp [V.fits] at hf; exact ⟨rfl, h.2⟩
  | nilf => intro s s' g o h hf; cases s <;> simp [V.fits] at hf; exact ⟨rfl, h.2⟩
  | ptr id p s0 => intro s s' g o h hf; cases s <;> simp [V.fits] at hf; obtain ⟨h0, b, off, h1, h2, h3⟩ := h; exact ⟨h0, b, off, h1, h2, rfl, h3.2⟩
  | row id e n => intro s s' g o h hf; cases s <;> simp [V.fits] at hf; obtain ⟨h0, h1, h2, h3⟩ := h; exact ⟨h0, h1, h2, rfl, h3.2⟩
  | sl id p e off len cap => intro s s' g o h hf; cases s <;> simp [V.fits] at hf; obtain ⟨h0, ad, c, o1, n, h3, h4⟩ := h; exact ⟨h0, ad, c, o1, n, ⟨rfl, h3.2⟩, h4⟩
  | ref u s1 c ih => intro s s' g o h hf; cases s <;> simp [V.fits] at hf; obtain ⟨b, o1, h1, h2⟩ := h; exact ⟨b, o1, ⟨rfl, h1.2⟩, h2⟩
  | ro u clip e len f ih => intro s s' g o h hf; cases s <;> simp [V.fits] at hf; obtain ⟨a, c, h1, h2⟩ := h; exact ⟨a, c, ⟨rfl, h1.2⟩, h2⟩
  | fn f cap ih => intro s s' g o h hf; cases s <;> simp [V.fits] at hf; obtain ⟨cs, h1, h2⟩ := h; exact ⟨cs, ⟨rfl, h1.2⟩, h2⟩

def V.known : V → Bool
  | .unk => false
  | _ => true

omit [Gl] in
/-- A value that fits a shape, as cells. -/
theorem R.cells_of {C : Ctx} {v : V} {s : Shape} {x : Value} (h : R C v (.val x)) (hf : v.fits s = true) (hu : v.known = true) :
    x.cells.size = s.size ∧ R C v (.cel s (fun i => x.cells[i]?) 0) ∧ ∀ u ∈ x.cells.toList, u.oneCell' = true := by
  by_cases ha : v.isAgg = true
  · obtain ⟨s', cs, rfl, h2, h3, h4⟩ := R.agg_at h ha
    have h5 := R.fits v h4 hf
    have hz := R.sizes v h4 h5
    refine ⟨by simp [Value.cells, h2, hz], h5, fun u hu => ?_⟩
    obtain ⟨k, hk, rfl⟩ := List.mem_iff_getElem.1 hu
    simp only [Value.cells, Array.length_toList] at hk
    obtain ⟨y, h6, h7⟩ := R.cells v h5 k (by omega)
    have : (Value.agg cs).cells[0 + k]? = some y := h6
    simp only [Value.cells, Nat.zero_add, Array.getElem?_eq_getElem hk, Option.some.injEq] at this
    simp only [Value.cells, Array.getElem_toList]
    rw [this]; exact h7
  · have hls : v.isLeaf = true ∧ s = .sc := by
      cases v <;> cases s <;> first
        | exact ⟨rfl, rfl⟩
        | exact absurd rfl ha
        | (simp [V.fits] at hf; done)
        | (simp [V.known] at hu; done)
    obtain ⟨hl, rfl⟩ := hls
    have h1 := R.leaf_one h hl
    have hc : x.cells = #[x] := by cases x <;> first | rfl | simp [Value.oneCell'] at h1
    refine ⟨by simp [hc, Shape.size], R.leaf_at h hl (by simp [hc]), ?_⟩
    intro u hu
    simp [hc] at hu
    subst hu; exact h1

end Go.Ab
set_option linter.unusedVariables false
set_option linter.unusedSimpArgs false
namespace Go.Ab
open Go.RowKit
variable [Gl]

def V.ofVal : Value → V
  | .int k n => .int k n
  | .bool b => .bool b
  | .string s => .str s
  | .pointer none => .nilp
  | .slice none 0 0 => .nils
  | .nilFunc => .nilf
  | _ => .unk

omit [Gl] in
theorem R.ofVal (C : Ctx) (v : Value) : R C (V.ofVal v) (.val v) := by
  unfold V.ofVal
  split <;> first
    | rfl
    | exact trivial

omit [Gl] in
/-- A scalar that is known, at its place. -/
theorem R.ofVal_at (C : Ctx) {v : Value} {g : Nat → Option Value} {o : Nat} (h : g o = some v) (h1 : v.oneCell' = true) : R C (V.ofVal v) (.cel .sc g o) := by
  unfold V.ofVal
  split <;> first
    | exact ⟨rfl, h⟩
    | exact ⟨rfl, _, h, h1⟩

/-- The zero of a type. -/
def ztree (P : Program) : Nat → TypeId → V
  | 0, _ => .unk
  | d + 1, t => match P.underlying t with
    | some (.struct fs) => fs.toList.foldr (fun f acc => .cons (ztree P d f.type) acc) .nl
    | some (.array n e) => .arr n fun _ => ztree P d e
    | _ => match P.info? t with
      | some i => match i.zero with
        | some z => V.ofVal z
        | none => .unk
      | none => .unk

/-- Do these cells hold this tree? -/
def V.held : V → Shape → (Nat → Option Value) → Nat → Bool
  | .int k n, .sc, g, o => match g o with | some (.int k' n') => k == k' && n == n' | _ => false
  | .bool b, .sc, g, o => match g o with | some (.bool b') => b == b' | _ => false
  | .str s, .sc, g, o => match g o with | some (.string s') => s.data.toList == s'.data.toList | _ => false
  | .nilp, .sc, g, o => match g o with | some (.pointer none) => true | _ => false
  | .nils, .sc, g, o => match g o with | some (.slice none 0 0) => true | _ => false
  | .nilf, .sc, g, o => match g o with | some .nilFunc => true | _ => false
  | .unk, .sc, g, o => match g o with | some v => v.oneCell' | _ => false
  | .nl, .nl, _, _ => true
  | .cons h t, .cons a b, g, o => h.held a g o && t.held b g (o + a.size)
  | .arr n f, .arr m e, g, o => n == m && (List.range n).all fun i => (f i).held e g (o + i * e.size)
  | _, _, _, _ => false

omit [Gl] in
theorem R.held {C : Ctx} (v : V) : ∀ {s : Shape} {g : Nat → Option Value} {o : Nat}, v.held s g o = true → R C v (.cel s g o) := by
  induction v with
  | nl => intro s g o h; cases s <;> simp [V.held] at h; rfl
  | cons x t ih1 ih2 =>
    intro s g o h
    cases s <;> simp [V.held] at h
    exact ⟨_, _, rfl, ih1 h.1, ih2 h.2⟩
  | arr n f ih =>
    intro s g o h
    cases s <;> simp [V.held] at h
    obtain ⟨rfl, h⟩ := h
    exact ⟨_, rfl, fun i hi => ih i (h i hi)⟩
  | int k n =>
    intro s g o h
    cases s <;> simp only [V.held] at h <;> (try (simp at h; done))
    split at h
    · rename_i k' n' hg; simp at h; obtain ⟨rfl, rfl⟩ := h; exact ⟨rfl, hg⟩
    · cases h
  | bool b =>
    intro s g o h
    cases s <;> simp only [V.held] at h <;> (try (simp at h; done))
    split at h
    · rename_i b' hg; simp at h; subst h; exact ⟨rfl, hg⟩
    · cases h
  | str x =>
    intro s g o h
    cases s <;> simp only [V.held] at h <;> (try (simp at h; done))
    split at h
    · rename_i y hg
      have : x = y := by
        obtain ⟨⟨a⟩⟩ := x; obtain ⟨⟨b⟩⟩ := y
        simp at h; simp [h]
      subst this; exact ⟨rfl, hg⟩
    · cases h
  | nilp =>
    intro s g o h
    cases s <;> simp only [V.held] at h <;> (try (simp at h; done))
    split at h
    · exact ⟨rfl, ‹_›⟩
    · cases h
  | nils =>
    intro s g o h
    cases s <;> simp only [V.held] at h <;> (try (simp at h; done))
    split at h
    · exact ⟨rfl, ‹_›⟩
    · cases h
  | nilf =>
    intro s g o h
    cases s <;> simp only [V.held] at h <;> (try (simp at h; done))
    split at h
    · exact ⟨rfl, ‹_›⟩
    · cases h
  | unk =>
    intro s g o h
    cases s <;> simp only [V.held] at h <;> (try (simp at h; done))
    split at h
    · exact ⟨rfl, _, ‹_›, h⟩
    · cases h
  | _ => intro s g o h; cases s <;> simp [V.held] at h

/-- The zero of a type, if the table bears it out. -/
def zero? (P : Program) (t : TypeId) : Option (Shape × V) :=
  match tshape P t, P.info? t with
  | some s, some i => match i.zero with
    | some z => if z.cells.size = s.size ∧ (ztree P 12 t).held s (fun j => z.cells[j]?) 0 = true then some (s, ztree P 12 t) else none
    | none => none
  | _, _ => none

omit [Gl] in
theorem zero?_spec {P : Program} {t : TypeId} {s : Shape} {v : V} (h : zero? P t = some (s, v)) :
    tshape P t = some s ∧ ∃ z, (∀ w, (zeroValue t).run P w = .ok z w) ∧ z.cells.size = s.size ∧ ∀ C, R C v (.cel s (fun j => z.cells[j]?) 0) := by
  unfold zero? at h
  split at h
  · rename_i s' i h1 h2
    split at h
    · rename_i z hz
      split at h
      · rename_i hc
        simp only [Option.some.injEq, Prod.mk.injEq] at h
        obtain ⟨rfl, rfl⟩ := h
        exact ⟨h1, z, fun w => by simp [zeroValue, typeInfo, h2, hz], hc.1, fun C => R.held _ hc.2⟩
      · cases h
    · cases h
  · cases h

/-! ### The operations -/

variable {P : Program} {B : Nat} {o : Oper} {ρ : Operand → V} {m : Mem} {n : Nat}

theorem sem_move {x : Operand} (ho : o.op = .move x ∨ o.op = .assign x) : OpSem P B o ρ m n (pureE (ρ x)) :=
  OpSem.pure fun C M ρc _ _ hx => ⟨ρc x, by rcases ho with ho | ho <;> simp [execOp, ho], hx x (by rcases ho with ho | ho <;> simp [ho, Op.operands])⟩

theorem sem_pick {c a b : Operand} {t : Bool} (ho : o.op = .pick c a b) (hc : ρ c = .bool t) : OpSem P B o ρ m n (pureE (V.ite t (ρ a) (ρ b))) :=
  OpSem.pure fun C M ρc _ _ hx => by
    have h0 := hx c (by simp [ho, Op.operands])
    rw [hc] at h0
    have h0' : ρc c = .bool t := h0
    refine ⟨if t then ρc a else ρc b, by simp [execOp, ho, h0', asBool], ?_⟩
    rw [V.ite_eq]
    cases t
    · exact hx b (by simp [ho, Op.operands])
    · exact hx a (by simp [ho, Op.operands])

/-- A new variable. -/
theorem does_new {C : Ctx} {M : Mem} {cs : Array Value} {t : TypeId} {s : Shape} {v : V} {op : Sem Next} (hs : SR B C M) (hn : ¬ C.al n)
    (hrun : op.run P C.w = .ok (.value (.pointer (some ⟨C.w.heap.size, 0, none⟩))) (C.w.alloc (.cells cs t))) (hz : cs.size = s.size) (hv : R C v (.cel s (fun i => cs[i]?) 0)) :
    Does P op C.w (Post B C (upd M n (some ⟨.box, s, v⟩)) (fun id => n ≤ id ∧ id < n + 1) (.ptr n [] s)) := by
  unfold Does
  rw [hrun]
  obtain ⟨h1, h2⟩ := hs.alloc hn cs t ⟨.box, s, v⟩ (.pointer (some ⟨C.w.heap.size, 0, none⟩)) rfl (by
    intro C' hk h3 h4 h5
    exact ⟨C.w.heap.size, cs, t, h3, hs.base, by rw [h5]; exact heap_alloc_new C.w _, h4, hz, R.keep hk _ _ hv⟩)
  refine ⟨_, rfl, ⟨Or.inr rfl, C.w.heap.size, 0, by simp [blk?], by simp [Shape.path], rfl⟩, h2, h1, fun id h => ?_⟩
  rcases h with h | h
  · exact .inl h
  · exact .inr ⟨by omega, by omega⟩

theorem sem_alloc {t : TypeId} {s : Shape} {z : V} (ho : o.op = .alloc t) (hz : zero? P t = some (s, z)) : OpSem P B o ρ m n ⟨.ptr n [] s, [], [⟨.box, s, z⟩], []⟩ := by
  intro C M ρc hs _ _ hn _
  obtain ⟨_, zv, h1, h2, h3⟩ := zero?_spec hz
  rw [put_new]
  refine does_new hs (by simpa using hn 0 (by simp)) (cs := zv.cells) (t := t) ?_ h2 (h3 C)
  simp [execOp, ho, Instr.alloc, h1, newVar, newRow]

theorem sem_box {t : TypeId} {x : Operand} {s : Shape} (ho : o.op = .box t x) (hf : (ρ x).fits s = true) (hk : (ρ x).known = true) : OpSem P B o ρ m n ⟨.ptr n [] s, [], [⟨.box, s, ρ x⟩], []⟩ := by
  intro C M ρc hs _ _ hn hx
  obtain ⟨h1, h2, _⟩ := R.cells_of (hx x (by simp [ho, Op.operands])) hf hk
  rw [put_new]
  refine does_new hs (by simpa using hn 0 (by simp)) (cs := (ρc x).cells) (t := t) ?_ h1 h2
  simp [execOp, ho, Instr.box, newVar, newRow]

omit [Gl] in
/-- The cells of a block of the function's own. -/
theorem BR.at {C : Ctx} {id : Nat} {blk : Blk} {b d : Nat} {p : List Step} {t : Shape} (h : BR B C id blk) (ha : blk.alive = true) (hb : blk? (C.sv id) = some b) (hp : Shape.path p (C.shp id) = some (d, t)) :
    R C (blk.v.path p) (.cel t (cg C.w b) d) ∧ C.shp id = blk.sh := by
  unfold BR at h; unfold Blk.alive at ha
  cases hkd : blk.k <;> simp only [hkd] at h ha
  · obtain ⟨g, cur, e, h1, h2, h3, h4, h5, h6⟩ := h
    rw [h1] at hb; simp only [blk?, Option.some.injEq] at hb; subst hb
    rw [h4] at hp
    have h7 := R.path p h6 hp
    rw [Nat.zero_add] at h7
    refine ⟨?_, h4⟩
    have : (fun i => cur[i]?) = cg C.w g := by funext i; exact (cell_of_row C.w g i cur e (0, 0) h3).symm
    rw [← this]; exact h7
  · obtain ⟨n, s, cells, h1, h2, h3, h4⟩ := h
    rw [h1] at hp
    have h7 := R.path p h4 hp
    rw [Nat.zero_add] at h7
    refine ⟨?_, h1⟩
    refine R.shift _ h7 fun k hk => ?_
    have hle := Shape.path_le p _ hp
    rcases h3.2 with ⟨h8, _⟩ | ⟨g, cap, cur, hv, hg, hh, hnc, _, hcs, htake⟩
    · rw [h8] at hb; simp [blk?] at hb
    · rw [hv] at hb; simp only [blk?, Option.some.injEq] at hb; subst hb
      show C.w.cell? ⟨g, d + k, none⟩ = cells[d + k]?
      rw [cell_of_row C.w g (d + k) cur _ (0, 0) hh, ← htake, List.getElem?_take]
      rw [h2] at hle
      simp only [Shape.size] at hle
      rw [if_pos (by omega)]
      simp
  · simp at ha
  · simp at ha

theorem sem_load {t : TypeId} {x : Operand} {id : Nat} {p : List Step} {blk : Blk} {s : Shape} {d : TypeDesc} (ho : o.op = .load t x) (hx : ρ x = .ptr id p s) (hm : m id = some blk) (ha : blk.alive = true)
    (ht : tshape P t = some s) (hu : P.underlying t = some d) : OpSem P B o ρ m n ⟨blk.v.path p, [], [], [id]⟩ :=
  OpSem.pure fun C M ρc hs hr hrel => by
    have h0 := hrel x (by simp [ho, Op.operands])
    rw [hx] at h0
    obtain ⟨hal, b, off, h1, h2, h3⟩ := h0
    have h3' : ρc x = .pointer (some ⟨b, off, none⟩) := h3
    have hM : M id = some blk := by rw [hr id (by simp), hm]
    obtain ⟨h4, h5⟩ := BR.at (hs.mem id blk hM) ha h1 h2
    obtain ⟨val, h6, h7⟩ := run_loadVar_tree ht hu h4
    exact ⟨val, by simp [execOp, ho, h3', Instr.loadAt, Instr.sureAddr, h6], h7⟩

theorem sem_load_ref {t : TypeId} {x : Operand} {u : Bool} {c : V} {s : Shape} {d : TypeDesc} (ho : o.op = .load t x) (hx : ρ x = .ref u s c) (ht : tshape P t = some s) (hu : P.underlying t = some d) : OpSem P B o ρ m n (pureE c) :=
  OpSem.pure fun C M ρc hs hr hrel => by
    have h0 := hrel x (by simp [ho, Op.operands])
    rw [hx] at h0
    obtain ⟨b, off, h1, h2, h3⟩ := h0
    have h1' : ρc x = .pointer (some ⟨b, off, none⟩) := h1
    obtain ⟨val, h6, h7⟩ := run_loadVar_tree (C := C.pur) ht hu h3
    exact ⟨val, by simp only [Ctx.pur] at h6; simp [execOp, ho, h1', Instr.loadAt, Instr.sureAddr, h6], R.keep (Keep.of_pur C) _ _ h7⟩

omit [Gl] in
theorem size_take_drop (cur : Array Value) (o : Nat) (vs : List Value) (h : o + vs.length ≤ cur.size) : (cur.toList.take o ++ vs ++ cur.toList.drop (o + vs.length)).length = cur.size := by
  simp; omega
omit [Gl] in
theorem get_splice (cur : Array Value) (o : Nat) (vs : List Value) (h : o + vs.length ≤ cur.size) (j : Nat) :
    (cur.toList.take o ++ vs ++ cur.toList.drop (o + vs.length))[j]? = if o ≤ j ∧ j < o + vs.length then vs[j - o]? else cur[j]? := by
  have hlen : (cur.toList.take o).length = o := by simp; omega
  rw [List.append_assoc, List.getElem?_append]
  by_cases h1 : j < o
  · rw [hlen, if_pos h1, if_neg (by omega), List.getElem?_take, if_pos h1]; simp
  · rw [hlen, if_neg h1, List.getElem?_append]
    by_cases h2 : j < o + vs.length
    · rw [if_pos (by omega), if_pos ⟨by omega, h2⟩]
    · rw [if_neg (by omega), if_neg (by omega), List.getElem?_drop]
      rw [show o + vs.length + (j - o - vs.length) = j by omega]; simp

/-- A store into a block of the function's own. -/
theorem does_store {C : Ctx} {M : Mem} {id : Nat} {blk : Blk} {p : List Step} {x : V} {val : Value} {b d : Nat} {t : Shape} {op : Sem Next} (hs : SR B C M) (hm : M id = some blk) (ha : blk.alive = true)
    (hb : blk? (C.sv id) = some b) (hp : Shape.path p (C.shp id) = some (d, t)) (hx : R C x (.val val)) (hf : x.fits t = true) (hk : x.known = true)
    (hrun : ∀ w', (storeCells ⟨b, d, none⟩ val.cells.toList).run P C.w = .ok () w' → op.run P C.w = .ok .skip w') :
    Does P op C.w (Post B C (upd M id (some ⟨blk.k, blk.sh, V.set p x blk.v⟩)) (fun i => n ≤ i ∧ i < n + 0) (.tup .nl)) := by
  obtain ⟨hz, hcx, h1⟩ := R.cells_of hx hf hk
  have hbr := hs.mem id blk hm
  have hle := Shape.path_le p _ hp
  have hvl : val.cells.toList.length = t.size := by simpa using hz
  -- the row that is written
  have key : ∃ cur e, C.w.heap[b]? = some (.cells cur e (0, 0)) ∧ d + t.size ≤ cur.size ∧
      ∀ C' : Ctx, Keep C C' → C'.sv id = C.sv id → C'.shp id = C.shp id → C'.w = C.w.setRow b (cur.toList.take d ++ val.cells.toList ++ cur.toList.drop (d + val.cells.toList.length)).toArray →
        BR B C' id ⟨blk.k, blk.sh, V.set p x blk.v⟩ := by
    unfold BR at hbr; unfold Blk.alive at ha
    cases hkd : blk.k <;> simp only [hkd] at hbr ha
    · obtain ⟨g, cur, e, h2, h3, h4, h5, h6, h7⟩ := hbr
      rw [h2] at hb; simp only [blk?, Option.some.injEq] at hb; subst hb
      rw [h5] at hp hle
      refine ⟨cur, e, h4, by omega, fun C' hk' e1 e2 e3 => ?_⟩
      show BR B C' id ⟨.box, blk.sh, _⟩
      refine ⟨g, _, e, by rw [e1]; exact h2, h3, by rw [e3]; exact setRow_heap C.w g cur _ e _ h4, by rw [e2]; exact h5, ?_, ?_⟩
      · rw [List.size_toArray, size_take_drop _ _ _ (by rw [hvl]; omega)]; exact h6
      · refine R.set p (R.keep hk' _ _ h7) hp ?_ ?_
        · intro j hj
          simp only [List.getElem?_toArray, Nat.zero_add] at hj ⊢
          rw [get_splice _ _ _ (by rw [hvl]; omega), hvl, if_neg hj]
        · refine R.shift x (R.keep hk' _ _ hcx) fun k hk2 => ?_
          simp only [List.getElem?_toArray]
          rw [get_splice _ _ _ (by rw [hvl]; omega), hvl, if_pos (by omega)]
          rw [show 0 + d + k - d = 0 + k by omega]; simp
    · obtain ⟨n1, s1, cells, h2, h3, h4, h5⟩ := hbr
      rw [h2] at hp hle
      obtain ⟨h40, h4⟩ := h4
      rcases h4 with ⟨h8, _⟩ | ⟨g, cap, cur, hv, hg, hh, hnc, hcm, hcs, htake⟩
      · rw [h8] at hb; simp [blk?] at hb
      · rw [hv] at hb; simp only [blk?, Option.some.injEq] at hb; subst hb
        rename_i e
        have hsz : blk.sh.size = n1 * s1.size := by rw [h3]; rfl
        have hcz : n1 * s1.size ≤ cur.size := by rw [hcs]; exact Nat.mul_le_mul_right _ hnc
        refine ⟨cur, e, hh, by omega, fun C' hk' e1 e2 e3 => ?_⟩
        show BR B C' id ⟨.row e, blk.sh, _⟩
        refine ⟨n1, s1, (cur.toList.take d ++ val.cells.toList ++ cur.toList.drop (d + val.cells.toList.length)).take (n1 * s1.size), by rw [e2]; exact h2, h3, ⟨?_, .inr ⟨g, cap, _, by rw [e1]; exact hv, hg, by rw [e3]; exact setRow_heap C.w g cur _ e _ hh, hnc, hcm, ?_, ?_⟩⟩, ?_⟩
        · rw [List.length_take, size_take_drop _ _ _ (by rw [hvl]; omega)]; omega
        · rw [List.size_toArray, size_take_drop _ _ _ (by rw [hvl]; omega)]; exact hcs
        · rfl
        · have hcell : ∀ j, j < n1 * s1.size → cells[j]? = cur[j]? := by
            intro j hj; rw [← htake, List.getElem?_take, if_pos hj]; simp
          refine R.set p (R.keep hk' _ _ h5) hp ?_ ?_
          · intro j hj
            simp only [Nat.zero_add] at hj ⊢
            by_cases hj2 : j < n1 * s1.size
            · rw [List.getElem?_take, if_pos hj2, get_splice _ _ _ (by rw [hvl]; omega), hvl, if_neg hj, hcell j hj2]
            · rw [List.getElem?_take, if_neg hj2, ← htake, List.getElem?_take, if_neg hj2]
          · refine R.shift x (R.keep hk' _ _ hcx) fun k hk2 => ?_
            rw [List.getElem?_take, if_pos (by omega), get_splice _ _ _ (by rw [hvl]; omega), hvl, if_pos (by omega)]
            rw [show 0 + d + k - d = 0 + k by omega]; simp
    · simp at ha
    · simp at ha
  obtain ⟨cur, e, hh, hfit, hbr'⟩ := key
  have hrun' := run_storeCells_at P b d e val.cells.toList 0 cur C.w hh (by rw [hvl]; omega) h1
  simp only [Nat.add_zero] at hrun'
  obtain ⟨h2, h3⟩ := hs.write hm (Blk.lv ha) (blkL_of hb) _ hbr'
  unfold Does
  rw [hrun _ hrun']
  exact ⟨_, rfl, ⟨#[], rfl, rfl⟩, h3, h2, fun i hi => .inl hi⟩

theorem sem_store {t : TypeId} {a x : Operand} {id : Nat} {p : List Step} {blk : Blk} {s : Shape} (ho : o.op = .store t a x) (hx : ρ a = .ptr id p s) (hm : m id = some blk) (ha : blk.alive = true)
    (ht : tshape P t = some s) (hf : (ρ x).fits s = true) (hk : (ρ x).known = true) : OpSem P B o ρ m n ⟨.tup .nl, [(id, ⟨blk.k, blk.sh, V.set p (ρ x) blk.v⟩)], [], []⟩ := by
  intro C M ρc hs _ hup _ hrel
  have h0 := hrel a (by simp [ho, Op.operands])
  have hv := hrel x (by simp [ho, Op.operands])
  rw [hx] at h0
  obtain ⟨hal, b, off, h1, h2, h3⟩ := h0
  have h3' : ρc a = .pointer (some ⟨b, off, none⟩) := h3
  have hM : M id = some blk := (hup _ (List.mem_singleton.2 rfl)).trans hm
  rw [put_up]
  refine does_store hs hM ha h1 h2 hv hf hk fun w' hw' => ?_
  obtain ⟨i, hi, hsz, _⟩ := tshape_size ht
  obtain ⟨hz, _, _⟩ := R.cells_of hv hf hk
  simp [execOp, ho, h3', Instr.storeAt, Instr.sureAddr, storeVar, run_sizeOf' hi, hsz, hz, hw']

end Go.Ab
set_option linter.unusedVariables false
set_option linter.unusedSimpArgs false
namespace Go.Ab
open Go.RowKit
variable [Gl]

variable {P : Program} {B : Nat} {o : Oper} {ρ : Operand → V} {m : Mem} {n : Nat}

omit [Gl] in
theorem add_lit (b off k : Nat) : (⟨b, off, none⟩ : Addr).add k = ⟨b, off + k, none⟩ := by unfold Addr.add; split <;> simp_all

theorem sem_nilCheck {x : Operand} (ho : o.op = .nilCheck x) (hx : (∃ id p s, ρ x = .ptr id p s) ∨ (∃ u s c, ρ x = .ref u s c) ∨ (∃ f c, ρ x = .fn f c)) : OpSem P B o ρ m n (pureE (ρ x)) :=
  OpSem.pure fun C M ρc _ _ hrel => by
    have h0 := hrel x (by simp [ho, Op.operands])
    refine ⟨ρc x, ?_, h0⟩
    rcases hx with ⟨id, p, s, hx⟩ | ⟨u, s, c, hx⟩ | ⟨f, c, hx⟩ <;> rw [hx] at h0
    · obtain ⟨_, b, off, _, _, h3⟩ := h0
      have h3' : ρc x = .pointer (some ⟨b, off, none⟩) := h3
      simp [execOp, ho, h3']
    · obtain ⟨b, off, h3, _⟩ := h0
      have h3' : ρc x = .pointer (some ⟨b, off, none⟩) := h3
      simp [execOp, ho, h3']
    · obtain ⟨cs, h3, _⟩ := h0
      have h3' : ρc x = .func (.func (fnId f)) cs.fs cs.cs := h3
      simp [execOp, ho, h3']

omit [Gl] in
theorem run_fieldAt {st : TypeId} {fs : Array Field} {fd : Field} {f b off : Nat} {i : TypeInfo} {s s' : Shape} (hu : P.underlying st = some (.struct fs)) (hf : fs[f]? = some fd) (hi : P.info? fd.type = some i) (hz : i.size ≠ 0)
    (hs : s.fld f = some (fd.offset, s')) (w : World) : (Instr.fieldAt st (.pointer (some ⟨b, off, none⟩)) f).run P w = .ok (.pointer (some ⟨b, off + fd.offset, none⟩)) w := by
  simp [Instr.fieldAt, run_underlying hu, hf, Instr.sureAddr, fieldPlace, run_sizeOf' hi, hz, add_lit]

theorem sem_fieldAddr {st : TypeId} {x : Operand} {f id : Nat} {p : List Step} {s s' : Shape} {fs : Array Field} {fd : Field} {i : TypeInfo} (ho : o.op = .fieldAddr st x f) (hx : ρ x = .ptr id p s)
    (hu : P.underlying st = some (.struct fs)) (hf : fs[f]? = some fd) (hi : P.info? fd.type = some i) (hz : i.size ≠ 0) (hs : s.fld f = some (fd.offset, s')) : OpSem P B o ρ m n (pureE (.ptr id (p ++ [.fld f]) s')) :=
  OpSem.pure fun C M ρc _ _ hrel => by
    have h0 := hrel x (by simp [ho, Op.operands])
    rw [hx] at h0
    obtain ⟨hal, b, off, h1, h2, h3⟩ := h0
    have h3' : ρc x = .pointer (some ⟨b, off, none⟩) := h3
    refine ⟨.pointer (some ⟨b, off + fd.offset, none⟩), by simp [execOp, ho, h3', run_fieldAt hu hf hi hz hs], hal, b, off + fd.offset, h1, Shape.path_snoc p h2 hs, rfl⟩

theorem sem_fieldAddr_ref {st : TypeId} {x : Operand} {f : Nat} {u : Bool} {c : V} {s s' : Shape} {fs : Array Field} {fd : Field} {i : TypeInfo} (ho : o.op = .fieldAddr st x f) (hx : ρ x = .ref u s c)
    (hu : P.underlying st = some (.struct fs)) (hf : fs[f]? = some fd) (hi : P.info? fd.type = some i) (hz : i.size ≠ 0) (hs : s.fld f = some (fd.offset, s')) : OpSem P B o ρ m n (pureE (.ref u s' (c.fld f))) :=
  OpSem.pure fun C M ρc _ _ hrel => by
    have h0 := hrel x (by simp [ho, Op.operands])
    rw [hx] at h0
    obtain ⟨b, off, h1, h2, h3⟩ := h0
    have h3' : ρc x = .pointer (some ⟨b, off, none⟩) := h1
    refine ⟨.pointer (some ⟨b, off + fd.offset, none⟩), by simp [execOp, ho, h3', run_fieldAt hu hf hi hz hs], b, off + fd.offset, rfl, h2, R.step (x := .fld f) h3 hs⟩

omit [Gl] in
theorem run_indexAt_array {t elem : TypeId} {len b off : Nat} {k : IntKind} {j : Int} {i : TypeInfo} (hu : P.underlying t = some (.array len elem)) (hi : P.info? elem = some i) (h : 0 ≤ j ∧ j < len) (w : World) :
    (Instr.indexAt t (.pointer (some ⟨b, off, none⟩)) (.int k j)).run P w = .ok (.pointer (some ⟨b, off + j.toNat * i.size, none⟩)) w := by
  simp [Instr.indexAt, asIntOf, run_underlying hu, Instr.sureAddr, h, run_sizeOf' hi, add_lit]

omit [Gl] in
theorem run_indexAt_slice {t elem : TypeId} {len cap b off : Nat} {k : IntKind} {j : Int} {i : TypeInfo} (hu : P.underlying t = some (.slice elem)) (hi : P.info? elem = some i) (h : 0 ≤ j ∧ j < len) (w : World) :
    (Instr.indexAt t (.slice (some ⟨b, off, none⟩) len cap) (.int k j)).run P w = .ok (.pointer (some ⟨b, off + j.toNat * i.size, none⟩)) w := by
  simp [Instr.indexAt, asIntOf, run_underlying hu, h, run_sizeOf' hi, add_lit]

omit [Gl] in
theorem toNat_lt' {j : Int} {n : Nat} (h : 0 ≤ j ∧ j < n) : j.toNat < n := by omega

theorem sem_indexAddr_array {t elem : TypeId} {x ix : Operand} {id len : Nat} {p : List Step} {e : Shape} {i : TypeInfo} {k : IntKind} {j : Int} (ho : o.op = .indexAddr t x ix) (hx : ρ x = .ptr id p (.arr len e)) (hix : ρ ix = .int k j)
    (hu : P.underlying t = some (.array len elem)) (hi : P.info? elem = some i) (hz : i.size = e.size) (h : 0 ≤ j ∧ j < len) : OpSem P B o ρ m n (pureE (.ptr id (p ++ [.idx j.toNat]) e)) :=
  OpSem.pure fun C M ρc _ _ hrel => by
    have h0 := hrel x (by simp [ho, Op.operands])
    have h9 := hrel ix (by simp [ho, Op.operands])
    rw [hx] at h0; rw [hix] at h9
    have h9' : ρc ix = .int k j := h9
    obtain ⟨hal, b, off, h1, h2, h3⟩ := h0
    have h3' : ρc x = .pointer (some ⟨b, off, none⟩) := h3
    refine ⟨_, by simp [execOp, ho, h3', h9', run_indexAt_array hu hi h]; rfl, hal, b, off + j.toNat * e.size, h1, Shape.path_snoc p h2 (by simp [Shape.step, toNat_lt' h]), by rw [hz]; rfl⟩

theorem sem_indexAddr_ref {t elem : TypeId} {x ix : Operand} {len : Nat} {u : Bool} {c : V} {e : Shape} {i : TypeInfo} {k : IntKind} {j : Int} (ho : o.op = .indexAddr t x ix) (hx : ρ x = .ref u (.arr len e) c) (hix : ρ ix = .int k j)
    (hu : P.underlying t = some (.array len elem)) (hi : P.info? elem = some i) (hz : i.size = e.size) (h : 0 ≤ j ∧ j < len) : OpSem P B o ρ m n (pureE (.ref u e (c.step (.idx j.toNat)))) :=
  OpSem.pure fun C M ρc _ _ hrel => by
    have h0 := hrel x (by simp [ho, Op.operands])
    have h9 := hrel ix (by simp [ho, Op.operands])
    rw [hx] at h0; rw [hix] at h9
    have h9' : ρc ix = .int k j := h9
    obtain ⟨b, off, h1, h2, h3⟩ := h0
    have h3' : ρc x = .pointer (some ⟨b, off, none⟩) := h1
    refine ⟨_, by simp [execOp, ho, h3', h9', run_indexAt_array hu hi h]; rfl, b, off + j.toNat * e.size, by rw [hz]; rfl, h2, R.step (x := .idx j.toNat) h3 (by simp [Shape.step, toNat_lt' h])⟩

theorem sem_indexAddr_row {t elem : TypeId} {x ix : Operand} {id len : Nat} {e : Shape} {i : TypeInfo} {k : IntKind} {j : Int} {blk : Blk} (ho : o.op = .indexAddr t x ix) (hx : ρ x = .row id e len) (hix : ρ ix = .int k j)
    (hm : m id = some blk) (hal : blk.alive = true)
    (hu : P.underlying t = some (.slice elem)) (hi : P.info? elem = some i) (hz : i.size = e.size) (h : 0 ≤ j ∧ j < len) : OpSem P B o ρ m n ⟨.ptr id [.idx j.toNat] e, [], [], [id]⟩ :=
  OpSem.pure fun C M ρc hs hr hrel => by
    have h0 := hrel x (by simp [ho, Op.operands])
    have h9 := hrel ix (by simp [ho, Op.operands])
    rw [hx] at h0; rw [hix] at h9
    have h9' : ρc ix = .int k j := h9
    obtain ⟨hal', ⟨a, c, h1⟩, h2, h3⟩ := h0
    have h3' : ρc x = .slice a len c := by rw [← h1]; exact h3
    have hM : M id = some blk := by rw [hr id (by simp), hm]
    have hb := hs.mem id blk hM
    have : ∃ g, a = some ⟨g, 0, none⟩ := by
      unfold BR at hb; unfold Blk.alive at hal
      cases hkd : blk.k <;> simp only [hkd] at hb hal
      · obtain ⟨g, cur, e', h4, _⟩ := hb
        rw [h1] at h4; cases h4
      · obtain ⟨n1, s1, cells, h4, h5, h6, _⟩ := hb
        rcases h6.2 with ⟨h7, h8⟩ | ⟨g, cap, cur, hv, _⟩
        · rw [h1] at h7; cases h7; omega
        · rw [h1] at hv; cases hv; exact ⟨g, rfl⟩
      · simp at hal
      · simp at hal
    obtain ⟨g, rfl⟩ := this
    refine ⟨_, by simp [execOp, ho, h3', h9', run_indexAt_slice hu hi h]; rfl, hal', g, 0 + j.toNat * e.size, by rw [h1]; rfl, by rw [h2]; simp [Shape.path, Shape.step, toNat_lt' h], by rw [hz]; simp; rfl⟩

theorem sem_indexAddr_sl {t elem : TypeId} {x ix : Operand} {id off len : Nat} {p : List Step} {cap : Option Nat} {e : Shape} {i : TypeInfo} {k : IntKind} {j : Int} (ho : o.op = .indexAddr t x ix) (hx : ρ x = .sl id p e off len cap) (hix : ρ ix = .int k j)
    (hu : P.underlying t = some (.slice elem)) (hi : P.info? elem = some i) (hz : i.size = e.size) (h : 0 ≤ j ∧ j < len) : OpSem P B o ρ m n (pureE (.ptr id (p ++ [.idx (off + j.toNat)]) e)) :=
  OpSem.pure fun C M ρc _ _ hrel => by
    have h0 := hrel x (by simp [ho, Op.operands])
    have h9 := hrel ix (by simp [ho, Op.operands])
    rw [hx] at h0; rw [hix] at h9
    have h9' : ρc ix = .int k j := h9
    obtain ⟨hal, ad, c, o1, n1, h1, h2, h3, h5, h7, h4⟩ := h0
    have hlt := toNat_lt' h
    rcases h4 with h4 | ⟨b, h4, h6⟩
    · omega
    subst h6
    have h1' : ρc x = .slice (some ⟨b, o1 + off * e.size, none⟩) len c := h1
    refine ⟨_, by simp [execOp, ho, h1', h9', run_indexAt_slice hu hi h]; rfl, hal, b, o1 + (off + j.toNat) * e.size, h4, Shape.path_snoc p h5 (by simp [Shape.step]; omega), ?_⟩
    rw [hz, Nat.add_mul, Nat.add_assoc]; rfl

theorem sem_indexAddr_ro {t elem : TypeId} {x ix : Operand} {len : Nat} {u clip : Bool} {f : Nat → V} {e : Shape} {i : TypeInfo} {k : IntKind} {j : Int} (ho : o.op = .indexAddr t x ix) (hx : ρ x = .ro u clip e len f) (hix : ρ ix = .int k j)
    (hu : P.underlying t = some (.slice elem)) (hi : P.info? elem = some i) (hz : i.size = e.size) (h : 0 ≤ j ∧ j < len) : OpSem P B o ρ m n (pureE (.ref u e (f j.toNat))) :=
  OpSem.pure fun C M ρc _ _ hrel => by
    have h0 := hrel x (by simp [ho, Op.operands])
    have h9 := hrel ix (by simp [ho, Op.operands])
    rw [hx] at h0; rw [hix] at h9
    have h9' : ρc ix = .int k j := h9
    obtain ⟨a, c, h1, h2, h3, h4⟩ := h0
    have h1' : ρc x = .slice a len c := h1
    have hlt := toNat_lt' h
    rcases h4 with h4 | ⟨b, o1, rfl, h5, h6⟩
    · omega
    · exact ⟨_, by simp [execOp, ho, h1', h9', run_indexAt_slice hu hi h]; rfl, b, o1 + j.toNat * e.size, by rw [hz]; rfl, h5, h6 _ hlt⟩

/-! ### Slice expressions -/
/-- What a bound says: it is written, or it is the end. -/
def V.bnd (d : Int) (x : Option V) : Option Int :=
  match x with
  | none => some d
  | some (.int _ n) => some n
  | some _ => none
omit [Gl] in
theorem run_slice_bd {t el : TypeId} {a : Option Addr} {len c : Nat} {i : TypeInfo} (hu : P.underlying t = some (.slice el)) (hi : P.info? el = some i) {lo hi' : Option Value} {l h : Int}
    (hlo : (lo = none ∧ l = 0) ∨ ∃ k, lo = some (.int k l)) (hhi : (hi' = none ∧ h = len) ∨ ∃ k, hi' = some (.int k h)) (h0 : 0 ≤ l) (h1 : l ≤ h) (h2 : h ≤ c) (w : World) :
    (Instr.sliceAt t (.slice a len c) lo hi' none).run P w = .ok (sliced a l.toNat h.toNat c i.size) w := by
  have he : P.elem t = el := by unfold Program.elem; rw [hu]
  have hu' : P.underlying t = some (.slice (P.elem t)) := by rw [he]; exact hu
  rw [run_sliceAt_slice w t _ _ _ _ hu']
  rcases hlo with ⟨rfl, rfl⟩ | ⟨k, rfl⟩ <;> rcases hhi with ⟨rfl, rfl⟩ | ⟨k', rfl⟩
  · rw [run_slice_all w t a len c hu', he, run_sizeOf' hi]; rfl
  · rw [run_slice_h w t a len c hu' k' h (by omega) h2, he, run_sizeOf' hi]; rfl
  · rw [run_slice_l w t a len c hu' k l h0 h1, he, run_sizeOf' hi]; rfl
  · rw [run_slice_lh w t a len c hu' k k' l h h0 h1 h2, he, run_sizeOf' hi]; rfl
omit [Gl] in
theorem bnd_rel {C : Ctx} {M : Nat → Option Blk} {ρc : Operand → Value} {x : Option Operand} {d l : Int} (h : V.bnd d (x.map ρ) = some l) (hr : ∀ y, x = some y → R C (ρ y) (.val (ρc y))) : (x.map ρc = none ∧ l = d) ∨ ∃ k, x.map ρc = some (.int k l) := by
  cases x with
  | none => simp only [Option.map_none, V.bnd, Option.some.injEq] at h; exact .inl ⟨rfl, h.symm⟩
  | some y =>
    have h1 := hr y rfl
    simp only [Option.map_some] at h ⊢
    cases hy : ρ y <;> rw [hy] at h <;> simp only [V.bnd, Option.some.injEq, reduceCtorEq] at h
    rename_i k n
    subst h
    rw [hy] at h1
    have h2 : ρc y = .int k n := h1
    exact .inr ⟨k, by rw [h2]⟩
theorem sem_slice_ro {t el : TypeId} {x : Operand} {lo hi' : Option Operand} {u clip : Bool} {e : Shape} {len : Nat} {f : Nat → V} {i : TypeInfo} {l h : Int} (ho : o.op = .slice t x lo hi' none) (hx : ρ x = .ro u clip e len f)
    (hu : P.underlying t = some (.slice el)) (hi : P.info? el = some i) (hz : i.size = e.size) (hlo : V.bnd 0 (lo.map ρ) = some l) (hhi : V.bnd len (hi'.map ρ) = some h) (hb : 0 ≤ l ∧ l ≤ h ∧ h ≤ len) :
    OpSem P B o ρ m n (pureE (.ro u (clip && decide (h = len)) e (h.toNat - l.toNat) fun j => f (l.toNat + j))) :=
  OpSem.pure fun C M ρc _ _ hrel => by
    have h0 := hrel x (by simp [ho, Op.operands])
    rw [hx] at h0
    obtain ⟨a, c, h1, h2, h3, h4⟩ := h0
    have h1' : ρc x = .slice a len c := h1
    have q1 := bnd_rel (C := C) (M := M) (ρc := ρc) hlo (fun y hy => hrel y (by subst hy; simp [ho, Op.operands]))
    have q2 := bnd_rel (C := C) (M := M) (ρc := ρc) hhi (fun y hy => hrel y (by subst hy; simp [ho, Op.operands]))
    have hrun := fun w => run_slice_bd (a := a) (len := len) (c := c) hu hi q1 q2 hb.1 hb.2.1 (by omega) w
    refine ⟨sliced a l.toNat h.toNat c i.size, by simp only [execOp, ho, h1', Option.map_none]; simp only [Sem.run_bind, hrun, Result.andThen_ok]; rfl, _, c - l.toNat, rfl, by omega, ?_, ?_⟩
    · intro hc
      simp only [Bool.and_eq_true, decide_eq_true_eq] at hc
      have := h3 hc.1
      omega
    · rcases h4 with h4 | ⟨b, o1, rfl, h5, h6⟩
      · left; omega
      · rcases Nat.lt_or_ge l.toNat h.toNat with hlt | hge
        · refine .inr ⟨b, o1 + l.toNat * e.size, ?_, h5, fun j hj => ?_⟩
          · split
            · omega
            · simp [Addr.add_lit, hz]
          · have := h6 (l.toNat + j) (by omega)
            rw [Nat.add_mul, ← Nat.add_assoc] at this
            exact this
        · left; omega

/-! ### Lists of values -/
def V.nth : V → Nat → Option V
  | .cons h _, 0 => some h
  | .cons _ t, k + 1 => t.nth k
  | _, _ => none

omit [Gl] in
theorem R.nth {C : Ctx} : ∀ (k : Nat) (l : V) {vs : List Value} {v : V}, R C l (.list vs) → l.nth k = some v → ∃ x, vs[k]? = some x ∧ R C v (.val x)
  | 0, .cons h t, vs, v, hr, hn => by
    obtain ⟨x, xs, rfl, h1, _⟩ := hr
    simp only [V.nth, Option.some.injEq] at hn
    subst hn
    exact ⟨x, rfl, h1⟩
  | k + 1, .cons h t, vs, v, hr, hn => by
    obtain ⟨x, xs, rfl, _, h2⟩ := hr
    exact R.nth k t h2 hn
  | k, .nl, _, _, _, hn | k, .int .., _, _, _, hn | k, .bool _, _, _, _, hn | k, .str _, _, _, _, hn | k, .arr .., _, _, _, hn | k, .ptr .., _, _, _, hn | k, .row .., _, _, _, hn
  | k, .sl .., _, _, _, hn | k, .ref .., _, _, _, hn | k, .nilp, _, _, _, hn | k, .nils, _, _, _, hn | k, .nilf, _, _, _, hn | k, .ro .., _, _, _, hn | k, .fn .., _, _, _, hn | k, .tup _, _, _, _, hn
  | k, .unk, _, _, _, hn => by cases k <;> simp [V.nth] at hn

theorem sem_extract {x : Operand} {k : Nat} {l v : V} (ho : o.op = .extract x k) (hx : ρ x = .tup l) (hl : l.nth k = some v) : OpSem P B o ρ m n (pureE v) :=
  OpSem.pure fun C M ρc _ _ hrel => by
    have h0 := hrel x (by simp [ho, Op.operands])
    rw [hx] at h0
    obtain ⟨cs, h1, h2⟩ := h0
    obtain ⟨y, h3, h4⟩ := R.nth k l h2 hl
    rw [Array.getElem?_toList] at h3
    exact ⟨y, by simp [execOp, ho, h1, Instr.extract, h3], h4⟩

/-! ### Numbers -/
noncomputable def bin (op : BinOp) (k : IntKind) (a b : Int) : V :=
  match op with
  | .add => .int k (addI k a b)
  | .sub => .int k (subI k a b)
  | .mul => .int k (mulI k a b)
  | .quo => .int k (divI k a b)
  | .rem => .int k (a.tmod b)
  | .and => .int k (andI k a b)
  | .or => .int k (orI k a b)
  | .xor => .int k (xorI k a b)
  | .andNot => .int k (k.wrap (BitVec.ofInt k.bits a &&& ~~~ BitVec.ofInt k.bits b).toNat)
  | .eql => .bool (eqI a b)
  | .neq => .bool (!eqI a b)
  | .lss => .bool (ltI a b)
  | .leq => .bool (leI a b)
  | .gtr => .bool (ltI b a)
  | .geq => .bool (leI b a)
  | _ => .unk

def binOk (op : BinOp) (b : Int) : Prop :=
  match op with
  | .quo | .rem => b ≠ 0
  | .shl | .shr => False
  | _ => True

omit [Gl] in
theorem run_bin (op : BinOp) (t : TypeId) (k : IntKind) (a b : Int) (h : binOk op b) (C : Ctx) (w : World) : ∃ val, (binOp op t (.int k a) (.int k b)).run P w = .ok val w ∧ R C (bin op k a b) (.val val) := by
  cases op <;> simp [binOk] at h <;> refine ⟨_, by simp [binOp, Op.intArith, Op.intDiv, Op.intBits, Op.intCmp, h]; rfl, ?_⟩ <;> first
    | rfl
    | (simp only [bin, addI_eq, subI_eq, mulI_eq, divI_eq, andI_eq, orI_eq, xorI_eq, eqI_eq, ltI_eq, leI_eq]; rfl)
    | (simp [bin, eqI_eq, ltI_eq, leI_eq, addI_eq, subI_eq, mulI_eq, divI_eq, andI_eq, orI_eq, xorI_eq]; rfl)

omit [Gl] in
theorem run_eqGuard_int (op : BinOp) (t : TypeId) (x y : Operand) (k k' : IntKind) (a b : Int) (w : World) : (eqGuard op t x y (.int k a) (.int k' b)).run P w = .ok () w := by
  cases op <;> simp [eqGuard]

theorem sem_bin {op : BinOp} {t t' : TypeId} {x y : Operand} {k : IntKind} {a b : Int} (ho : o.op = .binOp op t x y t') (hx : ρ x = .int k a) (hy : ρ y = .int k b) (h : binOk op b) : OpSem P B o ρ m n (pureE (bin op k a b)) :=
  OpSem.pure fun C M ρc _ _ hrel => by
    have h0 := hrel x (by simp [ho, Op.operands])
    have h1 := hrel y (by simp [ho, Op.operands])
    rw [hx] at h0; rw [hy] at h1
    have h0' : ρc x = .int k a := h0
    have h1' : ρc y = .int k b := h1
    obtain ⟨val, h2, h3⟩ := run_bin (P := P) op t k a b h C C.w
    exact ⟨val, by simp [execOp, ho, h0', h1', run_eqGuard_int, h2], h3⟩

noncomputable def shift (op : BinOp) (k : IntKind) (a b : Int) : V :=
  match op with
  | .shl => .int k (shlI k a (min b.toNat k.bits))
  | .shr => .int k (fdv a (2 ^ (min b.toNat k.bits)))
  | _ => .unk

theorem sem_shift {op : BinOp} {t t' : TypeId} {x y : Operand} {k k' : IntKind} {a b : Int} (ho : o.op = .binOp op t x y t') (hop : op = .shl ∨ op = .shr) (hx : ρ x = .int k a) (hy : ρ y = .int k' b) (h : 0 ≤ b) : OpSem P B o ρ m n (pureE (shift op k a b)) :=
  OpSem.pure fun C M ρc _ _ hrel => by
    have h0 := hrel x (by simp [ho, Op.operands])
    have h1 := hrel y (by simp [ho, Op.operands])
    rw [hx] at h0; rw [hy] at h1
    have h0' : ρc x = .int k a := h0
    have h1' : ρc y = .int k' b := h1
    have hb : ¬ b < 0 := by omega
    rcases hop with rfl | rfl
    · exact ⟨.int k (k.wrap (a * 2 ^ (min b.toNat k.bits))), by simp [execOp, ho, h0', h1', run_eqGuard_int, binOp, Op.shift, hb], by show Value.int _ _ = Value.int _ _; rw [shlI_eq]⟩
    · exact ⟨.int k (a.fdiv (2 ^ (min b.toNat k.bits))), by simp [execOp, ho, h0', h1', run_eqGuard_int, binOp, Op.shift, hb], by show Value.int _ _ = Value.int _ _; rw [fdv_eq, ← ofNat_pow]; rfl⟩

theorem sem_conv {src dst : TypeId} {x : Operand} {k k' : IntKind} {a : Int} (ho : o.op = .convert src dst x) (hx : ρ x = .int k a) (hu : P.underlying dst = some (.int k')) (hs : (P.underlying src).isSome) : OpSem P B o ρ m n (pureE (.int k' (wrpI k' a))) :=
  OpSem.pure fun C M ρc _ _ hrel => by
    have h0 := hrel x (by simp [ho, Op.operands])
    rw [hx] at h0
    have h0' : ρc x = .int k a := h0
    obtain ⟨d, hd⟩ := Option.isSome_iff_exists.1 hs
    exact ⟨.int k' (k'.wrap a), by simp [execOp, ho, h0', convert, run_underlying hu, run_underlying hd, Conv.intToInt], by show Value.int _ _ = Value.int _ _; rw [wrpI_eq]⟩

theorem sem_not {t : TypeId} {x : Operand} {b : Bool} (ho : o.op = .unOp .not t x) (hx : ρ x = .bool b) : OpSem P B o ρ m n (pureE (.bool !b)) :=
  OpSem.pure fun C M ρc _ _ hrel => by
    have h0 := hrel x (by simp [ho, Op.operands])
    rw [hx] at h0
    have h0' : ρc x = .bool b := h0
    exact ⟨.bool !b, by simp [execOp, ho, h0', Op.unary], rfl⟩

noncomputable def unary (op : UnOp) (k : IntKind) (a : Int) : V :=
  match op with
  | .neg => .int k (k.wrap (0 - a))
  | .xor => .int k (notI k a)
  | _ => .unk

theorem sem_unary {op : UnOp} {t : TypeId} {x : Operand} {k : IntKind} {a : Int} (ho : o.op = .unOp op t x) (hop : op = .neg ∨ op = .xor) (hx : ρ x = .int k a) : OpSem P B o ρ m n (pureE (unary op k a)) :=
  OpSem.pure fun C M ρc _ _ hrel => by
    have h0 := hrel x (by simp [ho, Op.operands])
    rw [hx] at h0
    have h0' : ρc x = .int k a := h0
    rcases hop with rfl | rfl
    · exact ⟨_, by simp [execOp, ho, h0', Op.unary, Op.intArith]; rfl, by simp [unary]; rfl⟩
    · exact ⟨.int k (k.wrap (BitVec.ofInt k.bits (if k.signed then -1 else k.max) ^^^ BitVec.ofInt k.bits a).toNat), by simp [execOp, ho, h0', Op.unary, Op.intBits], by show Value.int _ _ = Value.int _ _; rw [notI_eq]⟩

/-! ### Lengths -/
def V.len : V → Option Nat
  | .row _ _ n => some n
  | .sl _ _ _ _ len _ => some len
  | .ro _ _ _ len _ => some len
  | .nils => some 0
  | _ => none

omit [Gl] in
theorem R.len {C : Ctx} {v : V} {x : Value} {k : Nat} (h : R C v (.val x)) (hl : v.len = some k) : ∃ a c, x = .slice a k c := by
  cases v <;> simp [V.len] at hl
  · obtain ⟨_, ⟨a, c, h1⟩, _, h3⟩ := h
    subst hl
    exact ⟨a, c, by rw [← h1]; exact h3⟩
  · obtain ⟨_, ad, c, o1, n1, h3, _⟩ := h
    subst hl
    exact ⟨ad, c, h3⟩
  · subst hl; exact ⟨none, 0, h⟩
  · obtain ⟨a, c, h1, _⟩ := h
    subst hl
    exact ⟨a, c, h1⟩

theorem sem_len {t e : TypeId} {x : Operand} {k : Nat} (ho : o.op = .call { callee := .builtin .len, args := #[x], argTypes := #[t] }) (hx : (ρ x).len = some k) (hu : P.underlying t = some (.slice e)) : OpSem P B o ρ m n (pureE (.int .i64 k)) :=
  OpSem.pure fun C M ρc _ _ hrel => by
    have h0 := hrel x (by simp [ho, Op.operands, Call.operands])
    obtain ⟨a, c, h1⟩ := R.len h0 hx
    exact ⟨.int .i64 k, by simp [execOp, ho, resolve, invoke, builtin, h1, Builtin.len_, run_underlying hu, goInt], rfl⟩

theorem sem_len_str {t : TypeId} {x : Operand} {s : ByteArray} (ho : o.op = .call { callee := .builtin .len, args := #[x], argTypes := #[t] }) (hx : ρ x = .str s) (hu : P.underlying t = some .string) : OpSem P B o ρ m n (pureE (.int .i64 s.size)) :=
  OpSem.pure fun C M ρc _ _ hrel => by
    have h0 := hrel x (by simp [ho, Op.operands, Call.operands])
    rw [hx] at h0
    have h1 : ρc x = .string s := h0
    exact ⟨.int .i64 s.size, by simp [execOp, ho, resolve, invoke, builtin, h1, Builtin.len_, run_underlying hu, goInt], rfl⟩

theorem sem_len_arr {t e : TypeId} {x : Operand} {k : Nat} (ho : o.op = .call { callee := .builtin .len, args := #[x], argTypes := #[t] }) (hu : P.underlying t = some (.array k e)) : OpSem P B o ρ m n (pureE (.int .i64 k)) :=
  OpSem.pure fun C M ρc _ _ _ => ⟨.int .i64 k, by simp [execOp, ho, resolve, invoke, builtin, Builtin.len_, run_underlying hu, goInt], rfl⟩

/-! ### Functions as values -/
/-- Values, as a list of trees. -/
def mkL : List V → V
  | [] => .nl
  | v :: l => .cons v (mkL l)

omit [Gl] in
theorem R.mkL {C : Ctx} {ρc : Operand → Value} : ∀ (l : List Operand), (∀ x ∈ l, R C (ρ x) (.val (ρc x))) → R C (Ab.mkL (l.map ρ)) (.list (l.map ρc))
  | [], _ => rfl
  | x :: l, h => ⟨ρc x, l.map ρc, rfl, h x (by simp), R.mkL l fun y hy => h y (by simp [hy])⟩

theorem sem_makeFunc {f : FuncId} {cap : Array Operand} (ho : o.op = .makeFunc (.func f) #[] cap) (hf : f < 1073741824) : OpSem P B o ρ m n (pureE (.fn f (mkL (cap.toList.map ρ)))) :=
  OpSem.pure fun C M ρc _ _ hrel => by
    have := R.mkL (ρ := ρ) (C := C) (ρc := ρc) cap.toList fun x hx => hrel x (by simp [ho, Op.operands]; simpa using hx)
    exact ⟨.func (.func f) #[] (cap.map ρc), by simp [execOp, ho, Instr.makeFunc], FC.of (cap.map ρc), by rw [show fnId f = f from Nat.mod_eq_of_lt hf]; rfl, by rw [FC.of_l hf]; simpa using this⟩
omit [Gl] in
theorem R.app_list {C : Ctx} {ρc : Operand → Value} : ∀ (l r : List Operand), (∀ x ∈ l ++ r, R C (ρ x) (.val (ρc x))) → R C (Ab.mkL (l.map ρ)) (.list (l.map ρc)) ∧ R C (Ab.mkL (r.map ρ)) (.list (r.map ρc)) := fun l r h =>
  ⟨R.mkL l fun x hx => h x (by simp [hx]), R.mkL r fun x hx => h x (by simp [hx])⟩
omit [Gl] in
theorem R.fn0 {C : Ctx} {f : FuncId} {caps : V} {x : Value} (hf : f < 1073741824) (h : R C (.fn f caps) (.val x)) : ∃ cs : Array Value, x = .func (.func f) #[] cs ∧ R C caps (.list cs.toList) := by
  obtain ⟨cs, h1, h2⟩ := h
  obtain ⟨q1, q2, q3⟩ := cs.plain hf
  rw [q2] at h2
  have h1' : x = .func (.func (fnId f)) cs.fs cs.cs := h1
  rw [q1, q3] at h1'
  exact ⟨_, h1', h2⟩
omit [Gl] in
/-- Of a method's value: what goes first, what goes last. -/
theorem R.fn1 {C : Ctx} {f : FuncId} {first rest : V} {x : Value} (hf : ¬ f < 1073741824) (h : R C (.fn f (.cons (.tup first) rest)) (.val x)) : ∃ fs cs : Array Value, x = .func (.func (fnId f)) fs cs ∧ R C first (.list fs.toList) ∧ R C rest (.list cs.toList) := by
  obtain ⟨cs, h1, h2⟩ := h
  have hl : cs.l = .tuple cs.fs :: cs.cs.toList := by unfold FC.l; rw [if_neg hf]
  rw [hl] at h2
  obtain ⟨y, ys, h3, ⟨fs, h4, h5⟩, h6⟩ := h2
  cases h3
  cases h4
  exact ⟨_, _, h1, h5, h6⟩
/-- A method's value. -/
theorem sem_makeMeth {f : FuncId} {a cap : Array Operand} (ho : o.op = .makeFunc (.func f) a cap) (hf : f < 1073741824) : OpSem P B o ρ m n (pureE (.fn (f + 1073741824) (.cons (.tup (mkL (a.toList.map ρ))) (mkL (cap.toList.map ρ))))) :=
  OpSem.pure fun C M ρc _ _ hrel => by
    obtain ⟨h1, h2⟩ := R.app_list (ρ := ρ) (C := C) (ρc := ρc) a.toList cap.toList fun x hx => hrel x (by simp [ho, Op.operands]; simpa using hx)
    have hl : (⟨a.map ρc, cap.map ρc, fun h => absurd h (Nat.not_lt.2 (Nat.le_add_left _ _))⟩ : FC (f + 1073741824)).l = .tuple (a.map ρc) :: (cap.map ρc).toList := by
      unfold FC.l
      rw [if_neg (Nat.not_lt.2 (Nat.le_add_left _ _))]
    refine ⟨.func (.func f) (a.map ρc) (cap.map ρc), by simp [execOp, ho, Instr.makeFunc], ⟨a.map ρc, cap.map ρc, fun h => absurd h (Nat.not_lt.2 (Nat.le_add_left _ _))⟩, ?_, ?_⟩
    · have : fnId (f + 1073741824) = f := by unfold fnId; rw [Nat.add_mod_right]; exact Nat.mod_eq_of_lt hf
      rw [this]; rfl
    · rw [hl]
      exact ⟨_, _, rfl, ⟨a.map ρc, rfl, by simpa using h1⟩, by simpa using h2⟩

end Go.Ab
