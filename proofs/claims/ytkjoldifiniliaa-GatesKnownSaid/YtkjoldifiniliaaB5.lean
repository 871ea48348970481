/- Single operations over memory: alloc, box, load, store, addresses. No condition. -/
import Derived.Test.YtkjoldifiniliaaB4
set_option linter.unusedVariables false
set_option linter.unusedSimpArgs false
namespace Go.Ab
open Go.RowKit
variable [Gl]

/-- The shape at a path, whatever the indexes. -/
def Shape.stepU (s : Shape) : Step → Option Shape
  | .fld k => (s.fld k).map (·.2)
  | .idx _ => match s with
    | .arr _ e => some e
    | _ => none
def Shape.pathU : List Step → Shape → Option Shape
  | [], s => some s
  | x :: p, s => match s.stepU x with
    | some t => Shape.pathU p t
    | none => none

omit [Gl] in
theorem Shape.stepU_of {s t : Shape} {x : Step} {d : Nat} (h : s.step x = some (d, t)) : s.stepU x = some t := by
  cases x with
  | fld k => simp only [Shape.step] at h; simp [Shape.stepU, h]
  | idx i => cases s <;> simp [Shape.step] at h; simp [Shape.stepU, h]

omit [Gl] in
theorem Shape.pathU_of : ∀ (p : List Step) {s t : Shape} {d : Nat}, Shape.path p s = some (d, t) → Shape.pathU p s = some t
  | [], s, t, d, h => by simp [Shape.path] at h; simp [Shape.pathU, h]
  | x :: p, s, t, d, h => by
    simp only [Shape.path] at h
    split at h
    · rename_i d1 t1 h1
      simp only [Option.map_eq_some_iff] at h
      obtain ⟨⟨d2, t2⟩, h2, h3⟩ := h
      simp only [Prod.mk.injEq] at h3
      obtain ⟨_, rfl⟩ := h3
      simp only [Shape.pathU, Shape.stepU_of h1]
      exact Shape.pathU_of p h2
    · cases h

omit [Gl] in
theorem Shape.path_snoc : ∀ (p : List Step) {s t u : Shape} {d e : Nat} {x : Step}, Shape.path p s = some (d, t) → t.step x = some (e, u) → Shape.path (p ++ [x]) s = some (d + e, u)
  | [], s, t, u, d, e, x, h, hx => by
    simp only [Shape.path, Option.some.injEq, Prod.mk.injEq] at h
    obtain ⟨rfl, rfl⟩ := h
    simp [Shape.path, hx]
  | y :: p, s, t, u, d, e, x, h, hx => by
    simp only [Shape.path] at h
    split at h
    · rename_i d1 t1 h1
      simp only [Option.map_eq_some_iff] at h
      obtain ⟨⟨d2, t2⟩, h2, h3⟩ := h
      simp only [Prod.mk.injEq] at h3
      obtain ⟨rfl, rfl⟩ := h3
      simp only [List.cons_append, Shape.path, h1, Shape.path_snoc p h2 hx, Option.map_some]
      rw [Nat.add_assoc]
    · cases h

/-- Every length, and every scalar, agrees. -/
def V.fits : V → Shape → Bool
  | .nl, .nl => true
  | .cons h t, .cons a b => h.fits a && t.fits b
  | .arr n f, .arr m e => n == m && (List.range n).all fun i => (f i).fits e
  | .nl, _ | .cons _ _, _ | .arr _ _, _ => false
  | .tup _, _ => false
  | _, .sc => true
  | _, _ => false

omit [Gl] in
theorem R.sizes {C : Ctx} (v : V) : ∀ {s s' : Shape} {g : Nat → Option Value} {o : Nat}, R C v (.cel s' g o) → R C v (.cel s g o) → s'.size = s.size := by
  have leaf : ∀ {x : Value} {s s' : Shape} {g : Nat → Option Value} {o : Nat}, (M.cel s' g o).leaf x → (M.cel s g o).leaf x → s'.size = s.size := by
    intro x s s' g o h h'; rw [h.1, h'.1]
  induction v with
  | nl => intro s s' g o h h'; rw [show s' = .nl from h, show s = .nl from h']
  | cons x t ih1 ih2 =>
    intro s s' g o h h'
    obtain ⟨a, b, rfl, h2, h3⟩ := h
    obtain ⟨a', b', rfl, h2', h3'⟩ := h'
    have e1 := ih1 h2 h2'
    rw [e1] at h3
    simp only [Shape.size, e1, ih2 h3 h3']
  | arr n f ih =>
    intro s s' g o h h'
    obtain ⟨e, rfl, h2⟩ := h
    obtain ⟨e', rfl, h2'⟩ := h'
    simp only [Shape.size]
    rcases Nat.eq_zero_or_pos n with h0 | h0
    · simp [h0]
    · have a1 := h2 0 h0
      have a2 := h2' 0 h0
      simp only [Nat.zero_mul, Nat.add_zero] at a1 a2
      rw [ih 0 a1 a2]
  | unk => intro s s' g o h h'; rw [h.1, h'.1]
  | tup l ih => intro s s' g o h h'; exact h.elim
  | int k n => intro s s' g o h h'; exact leaf h h'
  | bool k => intro s s' g o h h'; exact leaf h h'
  | str k => intro s s' g o h h'; exact leaf h h'
  | nilp => intro s s' g o h h'; exact leaf h h'
  | nils => intro s s' g o h h'; exact leaf h h'
  | nilf => intro s s' g o h h'; exact leaf h h'
  | ptr id p s0 => intro s s' g o h h'; obtain ⟨h0, b, off, h1, h2, h3⟩ := h; obtain ⟨h0', b', off', h1', h2', h3'⟩ := h'; rw [h3.1, h3'.1]
  | row id e n => intro s s' g o h h'; exact leaf h.2.2.2 h'.2.2.2
  | sl id p e off len cap => intro s s' g o h h'; obtain ⟨h0, ad, c, o1, n, h3, h4⟩ := h; obtain ⟨h0', ad', c', o1', n', h3', h4'⟩ := h'; rw [h3.1, h3'.1]
  | ref u s1 c ih => intro s s' g o h h'; obtain ⟨b, o1, h1, h2⟩ := h; obtain ⟨b', o1', h1', h2'⟩ := h'; rw [h1.1, h1'.1]
  | ro u clip e len f ih => intro s s' g o h h'; obtain ⟨a, c, h1, h2⟩ := h; obtain ⟨a', c', h1', h2'⟩ := h'; rw [h1.1, h1'.1]
  | fn f cap ih => intro s s' g o h h'; obtain ⟨cs, h1, h2⟩ := h; obtain ⟨cs', h1', h2'⟩ := h'; rw [h1.1, h1'.1]

omit [Gl] in
theorem R.fits {C : Ctx} (v : V) : ∀ {s s' : Shape} {g : Nat → Option Value} {o : Nat}, R C v (.cel s' g o) → v.fits s = true → R C v (.cel s g o) := by
  induction v with
  | nl => intro s s' g o h hf; cases s <;> simp [V.fits] at hf; rfl
  | cons x t ih1 ih2 =>
    intro s s' g o h hf
    cases s <;> simp [V.fits] at hf
    rename_i a b
    obtain ⟨a', b', rfl, h2, h3⟩ := h
    have e1 := ih1 h2 hf.1
    have hsz : a'.size = a.size := by
      exact R.sizes x h2 e1
    refine ⟨a, b, rfl, e1, ?_⟩
    rw [← hsz]
    exact ih2 h3 hf.2
  | arr n f ih =>
    intro s s' g o h hf
    cases s <;> simp [V.fits] at hf
    rename_i m e
    obtain ⟨rfl, hf⟩ := hf
    obtain ⟨e', rfl, h2⟩ := h
    refine ⟨e, rfl, fun i hi => ?_⟩
    have e1 := ih i (h2 i hi) (hf i hi)
    have hsz : e'.size = e.size := R.sizes (f i) (h2 i hi) e1
    rw [← hsz]
    exact e1
  | unk => intro s s' g o h hf; cases s <;> simp [V.fits] at hf; exact ⟨rfl, h.2⟩
  | tup l ih => intro s s' g o h hf; simp [V.fits] at hf
  | int k n => intro s s' g o h hf; cases s <;> simp [V.fits] at hf; exact ⟨rfl, h.2⟩
  | bool k => intro s s' g o h hf; cases s <;> simp [V.fits] at hf; exact ⟨rfl, h.2⟩
  | str k => intro s s' g o h hf; cases s <;> simp [V.fits] at hf; exact ⟨rfl, h.2⟩
  | nilp => intro s s' g o h hf; cases s <;> simp [V.fits] at hf; exact ⟨rfl, h.2⟩
  | nils => intro s s' g o h hf; cases s <;> simp [V.fits] at hf; exact ⟨rfl, h.2⟩
  | nilf => intro s s' g o h hf; cases s <;> simp [V.fits] at hf; exact ⟨rfl, h.2⟩
  | ptr id p s0 => intro s s' g o h hf; cases s <;> simp [V.fits] at hf; obtain ⟨h0, b, off, h1, h2, h3⟩ := h; exact ⟨h0, b, off, h1, h2, rfl, h3.2⟩
  | row id e n => intro s s' g o h hf; cases s <;> simp [V.fits] at hf; obtain ⟨h0, h1, h2, h3⟩ := h; exact ⟨h0, h1, h2, rfl, h3.2⟩
  | sl id p e off len cap => intro s s' g o h hf; cases s <;> simp [V.fits] at hf; obtain ⟨h0, ad, c, o1, n, h3, h4⟩ := h; exact ⟨h0, ad, c, o1, n, ⟨rfl, h3.2⟩, h4⟩
  | ref u s1 c ih => intro s s' g o h hf; cases s <;> simp [V.fits] at hf; obtain ⟨b, o1, h1, h2⟩ := h; exact ⟨b, o1, ⟨rfl, h1.2⟩, h2⟩
  | ro u clip e len f ih => intro s s' g o h hf; cases s <;> simp [V.fits] at hf; obtain ⟨a, c, h1, h2⟩ := h; exact ⟨a, c, ⟨rfl, h1.2⟩, h2⟩
  | fn f cap ih => intro s s' g o h hf; cases s <;> simp [V.fits] at hf; obtain ⟨cs, h1, h2⟩ := h; exact ⟨cs, ⟨rfl, h1.2⟩, h2⟩

def V.known : V → Bool
  | .unk => false
  | _ => true

omit [Gl] in
/-- A value that fits a shape, as cells. -/
theorem R.cells_of {C : Ctx} {v : V} {s : Shape} {x : Value} (h : R C v (.val x)) (hf : v.fits s = true) (hu : v.known = true) :
    x.cells.size = s.size ∧ R C v (.cel s (fun i => x.cells[i]?) 0) ∧ ∀ u ∈ x.cells.toList, u.oneCell' = true := by
  by_cases ha : v.isAgg = true
  · obtain ⟨s', cs, rfl, h2, h3, h4⟩ := R.agg_at h ha
    have h5 := R.fits v h4 hf
    have hz := R.sizes v h4 h5
    refine ⟨by simp [Value.cells, h2, hz], h5, fun u hu => ?_⟩
    obtain ⟨k, hk, rfl⟩ := List.mem_iff_getElem.1 hu
    simp only [Value.cells, Array.length_toList] at hk
    obtain ⟨y, h6, h7⟩ := R.cells v h5 k (by omega)
    have : (Value.agg cs).cells[0 + k]? = some y := h6
    simp only [Value.cells, Nat.zero_add, Array.getElem?_eq_getElem hk, Option.some.injEq] at this
    simp only [Value.cells, Array.getElem_toList]
    rw [this]; exact h7
  · have hls : v.isLeaf = true ∧ s = .sc := by
      cases v <;> cases s <;> first
        | exact ⟨rfl, rfl⟩
        | exact absurd rfl ha
        | (simp [V.fits] at hf; done)
        | (simp [V.known] at hu; done)
    obtain ⟨hl, rfl⟩ := hls
    have h1 := R.leaf_one h hl
    have hc : x.cells = #[x] := by cases x <;> first | rfl | simp [Value.oneCell'] at h1
    refine ⟨by simp [hc, Shape.size], R.leaf_at h hl (by simp [hc]), ?_⟩
    intro u hu
    simp [hc] at hu
    subst hu; exact h1

end Go.Ab
