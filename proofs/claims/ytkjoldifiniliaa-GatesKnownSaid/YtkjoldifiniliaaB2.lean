/- Trees: a part of a tree, a part replaced, a tree read and stored. No condition. -/
import Derived.Test.YtkjoldifiniliaaB1
set_option linter.unusedVariables false
set_option linter.unusedSimpArgs false
namespace Go.Ab
open Go.RowKit

theorem R.shift {C : Ctx} (v : V) : ∀ {s : Shape} {g g' : Nat → Option Value} {o o' : Nat}, R C v (.cel s g o) → (∀ k, k < s.size → g' (o' + k) = g (o + k)) → R C v (.cel s g' o') := by
  have leaf : ∀ {x : Value} {s : Shape} {g g' : Nat → Option Value} {o o' : Nat}, (M.cel s g o).leaf x → (∀ k, k < s.size → g' (o' + k) = g (o + k)) → (M.cel s g' o').leaf x := by
    intro x s g g' o o' h hg
    obtain ⟨rfl, h⟩ := h
    exact ⟨rfl, by have := hg 0 (by simp [Shape.size]); simpa [h] using this⟩
  induction v with
  | int k n => intro s g g' o o' h hg; exact leaf h hg
  | bool b => intro s g g' o o' h hg; exact leaf h hg
  | str x => intro s g g' o o' h hg; exact leaf h hg
  | nilp => intro s g g' o o' h hg; exact leaf h hg
  | nils => intro s g g' o o' h hg; exact leaf h hg
  | nilf => intro s g g' o o' h hg; exact leaf h hg
  | nl => intro s g g' o o' h hg; exact h
  | cons x t ih1 ih2 =>
    intro s g g' o o' h hg
    obtain ⟨a, b, rfl, h2, h3⟩ := h
    simp only [Shape.size] at hg
    refine ⟨a, b, rfl, ih1 h2 fun k hk => hg k (by omega), ih2 h3 fun k hk => ?_⟩
    have := hg (a.size + k) (by omega)
    simpa [Nat.add_assoc] using this
  | arr n f ih =>
    intro s g g' o o' h hg
    obtain ⟨e, rfl, h2⟩ := h
    simp only [Shape.size] at hg
    refine ⟨e, rfl, fun i hi => ih i (h2 i hi) fun k hk => ?_⟩
    have hlt : i * e.size + k < n * e.size := by
      have h1 : (i + 1) * e.size ≤ n * e.size := Nat.mul_le_mul_right _ hi
      rw [Nat.add_mul] at h1; omega
    have := hg (i * e.size + k) hlt
    simpa [Nat.add_assoc] using this
  | ptr id p s0 => intro s g g' o o' h hg; obtain ⟨h0, b, off, h1, h2, h3⟩ := h; exact ⟨h0, b, off, h1, h2, leaf h3 hg⟩
  | row id e n => intro s g g' o o' h hg; obtain ⟨h0, h1, h2, h3⟩ := h; exact ⟨h0, h1, h2, leaf h3 hg⟩
  | sl id p e off len cap => intro s g g' o o' h hg; obtain ⟨h0, ad, c, o1, n, h1, h4⟩ := h; exact ⟨h0, ad, c, o1, n, leaf h1 hg, h4⟩
  | ref u s1 c ih => intro s g g' o o' h hg; obtain ⟨b, o1, h1, h2⟩ := h; exact ⟨b, o1, leaf h1 hg, h2⟩
  | ro u clip e len f ih => intro s g g' o o' h hg; obtain ⟨a, c, h1, h2⟩ := h; exact ⟨a, c, leaf h1 hg, h2⟩
  | fn f cap ih => intro s g g' o o' h hg; obtain ⟨cs, h1, h2⟩ := h; exact ⟨cs, leaf h1 hg, h2⟩
  | tup l ih => intro s g g' o o' h hg; exact h
  | unk =>
    intro s g g' o o' h hg
    obtain ⟨rfl, x, h1, h2⟩ := h
    exact ⟨rfl, x, by have := hg 0 (by simp [Shape.size]); simpa [h1] using this, h2⟩

/-- Every cell of what a tree stands for is there, and is one cell. -/
theorem R.cells {C : Ctx} (v : V) : ∀ {s : Shape} {g : Nat → Option Value} {o : Nat}, R C v (.cel s g o) → ∀ k, k < s.size → ∃ x, g (o + k) = some x ∧ x.oneCell' = true := by
  have leaf : ∀ {x : Value} {s : Shape} {g : Nat → Option Value} {o : Nat}, (M.cel s g o).leaf x → x.oneCell' = true → ∀ k, k < s.size → ∃ x, g (o + k) = some x ∧ x.oneCell' = true := by
    intro x s g o h hx k hk
    obtain ⟨rfl, h⟩ := h
    simp only [Shape.size] at hk
    obtain rfl : k = 0 := by omega
    exact ⟨x, h, hx⟩
  induction v with
  | int k n => intro s g o h; exact leaf h rfl
  | bool b => intro s g o h; exact leaf h rfl
  | str x => intro s g o h; exact leaf h rfl
  | nilp => intro s g o h; exact leaf h rfl
  | nils => intro s g o h; exact leaf h rfl
  | nilf => intro s g o h; exact leaf h rfl
  | nl => intro s g o h k hk; subst h; simp [Shape.size] at hk
  | cons x t ih1 ih2 =>
    intro s g o h k hk
    obtain ⟨a, b, rfl, h2, h3⟩ := h
    simp only [Shape.size] at hk
    by_cases hka : k < a.size
    · exact ih1 h2 k hka
    · obtain ⟨x, h4, h5⟩ := ih2 h3 (k - a.size) (by omega)
      exact ⟨x, by rw [show o + k = o + a.size + (k - a.size) by omega]; exact h4, h5⟩
  | arr n f ih =>
    intro s g o h k hk
    obtain ⟨e, rfl, h2⟩ := h
    simp only [Shape.size] at hk
    have he : 0 < e.size := by
      rcases Nat.eq_zero_or_pos e.size with h0 | h0
      · rw [h0] at hk; simp at hk
      · exact h0
    have hi : k / e.size < n := (Nat.div_lt_iff_lt_mul he).2 hk
    obtain ⟨x, h4, h5⟩ := ih (k / e.size) (h2 _ hi) (k % e.size) (Nat.mod_lt _ he)
    refine ⟨x, ?_, h5⟩
    have := Nat.div_add_mod k e.size
    rw [Nat.mul_comm] at this
    rw [show o + k = o + k / e.size * e.size + k % e.size by omega]
    exact h4
  | ptr id p s0 => intro s g o h; obtain ⟨h0, b, off, h1, h2, h3⟩ := h; exact leaf h3 rfl
  | row id e n => intro s g o h; obtain ⟨h0, ⟨a, c, h1⟩, h2, h3⟩ := h; exact leaf h3 (by rw [h1]; rfl)
  | sl id p e off len cap => intro s g o h; obtain ⟨h0, ad, c, o1, n, h1, h4⟩ := h; exact leaf h1 rfl
  | ref u s1 c ih => intro s g o h; obtain ⟨b, o1, h1, h2⟩ := h; exact leaf h1 rfl
  | ro u clip e len f ih => intro s g o h; obtain ⟨a, c, h1, h2⟩ := h; exact leaf h1 rfl
  | fn f cap ih => intro s g o h; obtain ⟨cs, h1, h2⟩ := h; exact leaf h1 rfl
  | tup l ih => intro s g o h; exact h.elim
  | unk =>
    intro s g o h k hk
    obtain ⟨rfl, x, h1, h2⟩ := h
    simp only [Shape.size] at hk
    obtain rfl : k = 0 := by omega
    exact ⟨x, h1, h2⟩

theorem Shape.fld_le : ∀ (k : Nat) (s : Shape) {d : Nat} {t : Shape}, s.fld k = some (d, t) → d + t.size ≤ s.size
  | 0, .cons a b, d, t, h => by simp [Shape.fld] at h; obtain ⟨rfl, rfl⟩ := h; simp [Shape.size]
  | k + 1, .cons a b, d, t, h => by
    simp only [Shape.fld, Option.map_eq_some_iff] at h
    obtain ⟨⟨d', t'⟩, h1, h2⟩ := h
    simp only [Prod.mk.injEq] at h2
    obtain ⟨rfl, rfl⟩ := h2
    have := Shape.fld_le k b h1
    simp only [Shape.size]; omega
  | 0, .sc, _, _, h => by simp [Shape.fld] at h
  | 0, .nl, _, _, h => by simp [Shape.fld] at h
  | 0, .arr _ _, _, _, h => by simp [Shape.fld] at h
  | _ + 1, .sc, _, _, h => by simp [Shape.fld] at h
  | _ + 1, .nl, _, _, h => by simp [Shape.fld] at h
  | _ + 1, .arr _ _, _, _, h => by simp [Shape.fld] at h

theorem Shape.step_le {s : Shape} {x : Step} {d : Nat} {t : Shape} (h : s.step x = some (d, t)) : d + t.size ≤ s.size := by
  cases x with
  | fld k => exact Shape.fld_le k s h
  | idx i =>
    cases s <;> simp [Shape.step] at h
    rename_i n e
    obtain ⟨hi, rfl, rfl⟩ := h
    have h1 : (i + 1) * e.size ≤ n * e.size := Nat.mul_le_mul_right _ hi
    rw [Nat.add_mul] at h1
    simp only [Shape.size]; omega

theorem Shape.path_le : ∀ (p : List Step) (s : Shape) {d : Nat} {t : Shape}, Shape.path p s = some (d, t) → d + t.size ≤ s.size
  | [], s, d, t, h => by simp [Shape.path] at h; obtain ⟨rfl, rfl⟩ := h; simp
  | x :: p, s, d, t, h => by
    simp only [Shape.path] at h
    split at h
    · rename_i d1 t1 h1
      simp only [Option.map_eq_some_iff] at h
      obtain ⟨⟨d2, t2⟩, h2, h3⟩ := h
      simp only [Prod.mk.injEq] at h3
      obtain ⟨rfl, rfl⟩ := h3
      have a1 := Shape.step_le h1
      have a2 := Shape.path_le p t1 h2
      omega
    · cases h

theorem R.fld {C : Ctx} : ∀ (k : Nat) (v : V) {s : Shape} {g : Nat → Option Value} {o d : Nat} {t : Shape}, R C v (.cel s g o) → s.fld k = some (d, t) → R C (v.fld k) (.cel t g (o + d)) ∨ (R C v (.cel s g o) ∧ ¬ ∃ a b, v = .cons a b)
  | k, v, s, g, o, d, t, h, hs => by
    cases v with
    | cons x y =>
      obtain ⟨a, b, rfl, h2, h3⟩ := h
      cases k with
      | zero => simp [Shape.fld] at hs; obtain ⟨rfl, rfl⟩ := hs; exact .inl h2
      | succ k =>
        simp only [Shape.fld, Option.map_eq_some_iff] at hs
        obtain ⟨⟨d', t'⟩, h4, h5⟩ := hs
        simp only [Prod.mk.injEq] at h5
        obtain ⟨rfl, rfl⟩ := h5
        rcases R.fld k y h3 h4 with h6 | ⟨_, h6⟩
        · exact .inl (by rw [← Nat.add_assoc]; exact h6)
        · exfalso
          cases b with
          | cons a' b' =>
            cases y <;> (try exact h6 ⟨_, _, rfl⟩) <;> simp [RR, M.leaf] at h3
          | sc => cases k <;> simp [Shape.fld] at h4
          | nl => cases k <;> simp [Shape.fld] at h4
          | arr n e => cases k <;> simp [Shape.fld] at h4
    | _ => exact .inr ⟨h, by rintro ⟨a, b, h'⟩; cases h'⟩

/-- A tree that lies over a compound shape is compound itself. -/
theorem R.cons_of {C : Ctx} {v : V} {a b : Shape} {g : Nat → Option Value} {o : Nat} (h : R C v (.cel (.cons a b) g o)) : ∃ x y, v = .cons x y := by
  cases v <;> first
    | exact ⟨_, _, rfl⟩
    | (simp [RR, M.leaf] at h)
theorem R.arr_of {C : Ctx} {v : V} {n : Nat} {e : Shape} {g : Nat → Option Value} {o : Nat} (h : R C v (.cel (.arr n e) g o)) : ∃ f, v = .arr n f := by
  cases v <;> first
    | (obtain ⟨e', h, _⟩ := h; simp only [Shape.arr.injEq] at h; obtain ⟨rfl, _⟩ := h; exact ⟨_, rfl⟩)
    | (simp [RR, M.leaf] at h)

theorem Shape.fld_cons {k : Nat} {s : Shape} {x : Nat × Shape} (h : s.fld k = some x) : ∃ a b, s = .cons a b := by
  cases s <;> cases k <;> first
    | exact ⟨_, _, rfl⟩
    | simp [Shape.fld] at h

theorem R.step {C : Ctx} {v : V} {s : Shape} {g : Nat → Option Value} {o d : Nat} {t : Shape} {x : Step} (h : R C v (.cel s g o)) (hs : s.step x = some (d, t)) : R C (v.step x) (.cel t g (o + d)) := by
  cases x with
  | fld k =>
    rcases R.fld k v h hs with h1 | ⟨_, h1⟩
    · exact h1
    · obtain ⟨a, b, rfl⟩ := Shape.fld_cons hs
      exact absurd (R.cons_of h) h1
  | idx i =>
    cases s <;> simp [Shape.step] at hs
    rename_i n e
    obtain ⟨hi, rfl, rfl⟩ := hs
    obtain ⟨f, rfl⟩ := R.arr_of h
    obtain ⟨e', he, h2⟩ := h
    simp only [Shape.arr.injEq, true_and] at he
    subst he
    exact h2 i hi

theorem R.path {C : Ctx} : ∀ (p : List Step) {v : V} {s : Shape} {g : Nat → Option Value} {o d : Nat} {t : Shape}, R C v (.cel s g o) → Shape.path p s = some (d, t) → R C (v.path p) (.cel t g (o + d))
  | [], v, s, g, o, d, t, h, hs => by simp [Shape.path] at hs; obtain ⟨rfl, rfl⟩ := hs; exact h
  | x :: p, v, s, g, o, d, t, h, hs => by
    simp only [Shape.path] at hs
    split at hs
    · rename_i d1 t1 h1
      simp only [Option.map_eq_some_iff] at hs
      obtain ⟨⟨d2, t2⟩, h2, h3⟩ := hs
      simp only [Prod.mk.injEq] at h3
      obtain ⟨rfl, rfl⟩ := h3
      have := R.path p (R.step h h1) h2
      rw [← Nat.add_assoc]; exact this
    · cases hs

theorem R.setFld {C : Ctx} (u : V → V) : ∀ (k : Nat) (v : V) {s : Shape} {g g' : Nat → Option Value} {o d : Nat} {t : Shape}, R C v (.cel s g o) → s.fld k = some (d, t) →
    (∀ j, ¬ (o + d ≤ j ∧ j < o + d + t.size) → g' j = g j) → (∀ y, R C y (.cel t g (o + d)) → R C (u y) (.cel t g' (o + d))) → R C (v.setFld k u) (.cel s g' o)
  | k, v, s, g, g', o, d, t, h, hs, hg, hu => by
    obtain ⟨a, b, rfl⟩ := Shape.fld_cons hs
    obtain ⟨x, y, rfl⟩ := R.cons_of h
    obtain ⟨a', b', he, h2, h3⟩ := h
    simp only [Shape.cons.injEq] at he
    obtain ⟨rfl, rfl⟩ := he
    cases k with
    | zero =>
      simp [Shape.fld] at hs; obtain ⟨rfl, rfl⟩ := hs
      exact ⟨a, b, rfl, hu _ h2, R.shift y h3 fun k hk => hg _ (by omega)⟩
    | succ k =>
      simp only [Shape.fld, Option.map_eq_some_iff] at hs
      obtain ⟨⟨d', t'⟩, h4, h5⟩ := hs
      simp only [Prod.mk.injEq] at h5
      obtain ⟨rfl, rfl⟩ := h5
      refine ⟨a, b, rfl, R.shift x h2 fun k hk => hg _ (by omega), R.setFld u k y h3 h4 (fun j hj => hg j (by omega)) ?_⟩
      intro z hz
      rw [Nat.add_assoc] at hz ⊢
      exact hu z hz

theorem R.set {C : Ctx} {x : V} : ∀ (p : List Step) {v : V} {s : Shape} {g g' : Nat → Option Value} {o d : Nat} {t : Shape}, R C v (.cel s g o) → Shape.path p s = some (d, t) →
    (∀ j, ¬ (o + d ≤ j ∧ j < o + d + t.size) → g' j = g j) → R C x (.cel t g' (o + d)) → R C (V.set p x v) (.cel s g' o)
  | [], v, s, g, g', o, d, t, h, hs, hg, hx => by simp [Shape.path] at hs; obtain ⟨rfl, rfl⟩ := hs; exact hx
  | y :: p, v, s, g, g', o, d, t, h, hs, hg, hx => by
    simp only [Shape.path] at hs
    split at hs
    · rename_i d1 t1 h1
      simp only [Option.map_eq_some_iff] at hs
      obtain ⟨⟨d2, t2⟩, h2, h3⟩ := hs
      simp only [Prod.mk.injEq] at h3
      obtain ⟨rfl, rfl⟩ := h3
      have hle := Shape.path_le p t1 h2
      rw [← Nat.add_assoc] at hx
      cases y with
      | fld k =>
        refine R.setFld (V.set p x) k v h h1 (fun j hj => hg j (by omega)) ?_
        intro z hz
        exact R.set p hz h2 (fun j hj => hg j (by omega)) hx
      | idx i =>
        cases s <;> simp [Shape.step] at h1
        rename_i n e
        obtain ⟨hi, rfl, rfl⟩ := h1
        obtain ⟨f, rfl⟩ := R.arr_of h
        obtain ⟨e', he, h4⟩ := h
        simp only [Shape.arr.injEq, true_and] at he
        subst he
        refine ⟨e, rfl, fun j hj => ?_⟩
        show R C (V.ite (j == i) (V.set p x (f j)) (f j)) _
        rw [V.ite_eq]
        by_cases hji : j = i
        · subst hji
          simp only [beq_self_eq_true, cond_true]
          exact R.set p (h4 j hj) h2 (fun k hk => hg k (by omega)) hx
        · have : (j == i) = false := by simpa using hji
          rw [this, cond_false]
          refine R.shift _ (h4 j hj) fun k hk => hg _ ?_
          intro hc
          rcases Nat.lt_or_gt_of_ne hji with hlt | hlt
          · have a1 : (j + 1) * e.size ≤ i * e.size := Nat.mul_le_mul_right _ hlt
            rw [Nat.add_mul] at a1; omega
          · have a1 : (i + 1) * e.size ≤ j * e.size := Nat.mul_le_mul_right _ hlt
            rw [Nat.add_mul] at a1; omega
    · exact absurd hs (by simp)

/-- May be stored: a value of which something is known. -/
def V.isAgg : V → Bool
  | .nl | .cons _ _ | .arr _ _ => true
  | _ => false
def V.isLeaf : V → Bool
  | .nl | .cons _ _ | .arr _ _ | .tup _ | .unk => false
  | _ => true

theorem R.agg_at {C : Ctx} {v : V} {x : Value} (h : R C v (.val x)) (ha : v.isAgg = true) : ∃ s cs, x = .agg cs ∧ cs.size = s.size ∧ s ≠ .sc ∧ R C v (.cel s (fun i => cs[i]?) 0) := by
  cases v <;> simp [V.isAgg] at ha
  · exact ⟨.nl, #[], h, rfl, by simp, rfl⟩
  · obtain ⟨cs, a, b, h1, h2, h3, h4⟩ := h
    exact ⟨.cons a b, cs, h1, h2, by simp, a, b, rfl, h3, by simpa using h4⟩
  · obtain ⟨cs, e, h1, h2, h3⟩ := h
    exact ⟨.arr _ e, cs, h1, h2, by simp, e, rfl, fun i hi => by simpa using h3 i hi⟩

theorem R.leaf_at {C : Ctx} {v : V} {x : Value} (h : R C v (.val x)) (ha : v.isLeaf = true) {g : Nat → Option Value} {o : Nat} (hg : g o = some x) : R C v (.cel .sc g o) := by
  have leaf : ∀ {y : Value}, (M.val x).leaf y → (M.cel .sc g o).leaf y := fun h => ⟨rfl, by rw [hg]; exact congrArg some h⟩
  cases v <;> simp [V.isLeaf] at ha <;> simp only [RR] at h ⊢
  · exact leaf h
  · exact leaf h
  · exact leaf h
  · obtain ⟨h0, b, off, h1, h2, h3⟩ := h; exact ⟨h0, b, off, h1, h2, leaf h3⟩
  · obtain ⟨h0, h1, h2, h3⟩ := h; exact ⟨h0, h1, h2, leaf h3⟩
  · obtain ⟨h0, ad, c, o1, n, h1, h4⟩ := h; exact ⟨h0, ad, c, o1, n, leaf h1, h4⟩
  · obtain ⟨b, o1, h1, h2⟩ := h; exact ⟨b, o1, leaf h1, h2⟩
  · exact leaf h
  · exact leaf h
  · exact leaf h
  · obtain ⟨a, c, h1, h2⟩ := h; exact ⟨a, c, leaf h1, h2⟩
  · obtain ⟨cs, h1, h2⟩ := h; exact ⟨cs, leaf h1, h2⟩

theorem R.leaf_one {C : Ctx} {v : V} {x : Value} (h : R C v (.val x)) (ha : v.isLeaf = true) : x.oneCell' = true := by
  obtain ⟨y, h1, h2⟩ := R.cells v (R.leaf_at h ha (g := fun _ => some x) (o := 0) rfl) 0 (by simp [Shape.size])
  simp only [Option.some.injEq] at h1
  subst h1; exact h2

/-- A scalar that was read. -/
theorem R.sc_val {C : Ctx} {v : V} {g : Nat → Option Value} {o : Nat} {x : Value} (h : R C v (.cel .sc g o)) (hg : g o = some x) : R C v (.val x) := by
  have leaf : ∀ {y : Value}, (M.cel .sc g o).leaf y → (M.val x).leaf y := fun h => by have := h.2; rw [hg] at this; exact Option.some.inj this
  cases v <;> simp only [RR] at h ⊢
  · exact leaf h
  · exact leaf h
  · exact leaf h
  · simp at h
  · simp at h
  · simp at h
  · obtain ⟨h0, b, off, h1, h2, h3⟩ := h; exact ⟨h0, b, off, h1, h2, leaf h3⟩
  · obtain ⟨h0, h1, h2, h3⟩ := h; exact ⟨h0, h1, h2, leaf h3⟩
  · obtain ⟨h0, ad, c, o1, n, h1, h4⟩ := h; exact ⟨h0, ad, c, o1, n, leaf h1, h4⟩
  · obtain ⟨b, o1, h1, h2⟩ := h; exact ⟨b, o1, leaf h1, h2⟩
  · exact leaf h
  · exact leaf h
  · exact leaf h
  · obtain ⟨a, c, h1, h2⟩ := h; exact ⟨a, c, leaf h1, h2⟩
  · obtain ⟨cs, h1, h2⟩ := h; exact ⟨cs, leaf h1, h2⟩

/-- A compound value that was read. -/
theorem R.agg_val {C : Ctx} {v : V} {s : Shape} {cs : Array Value} (h : R C v (.cel s (fun i => cs[i]?) 0)) (hs : s ≠ .sc) (hz : cs.size = s.size) : R C v (.val (.agg cs)) := by
  cases s with
  | sc => exact absurd rfl hs
  | nl =>
    cases v <;> first
      | (simp [RR, M.leaf] at h; done)
      | (simp only [Shape.size] at hz; rw [Array.eq_empty_of_size_eq_zero hz]; rfl)
  | cons a b =>
    obtain ⟨x, y, rfl⟩ := R.cons_of h
    obtain ⟨a', b', h1, h2, h3⟩ := h
    simp only [Shape.cons.injEq] at h1
    obtain ⟨rfl, rfl⟩ := h1
    exact ⟨cs, a, b, rfl, hz, h2, by simpa using h3⟩
  | arr n e =>
    obtain ⟨f, rfl⟩ := R.arr_of h
    obtain ⟨e', h1, h2⟩ := h
    simp only [Shape.arr.injEq, true_and] at h1
    subst h1
    exact ⟨cs, e, rfl, hz, fun i hi => by simpa using h2 i hi⟩

end Go.Ab
