/- The run is right: names replaced, contracts, temporaries, results. No condition. -/
import Derived.Test.YtkjoldifiniliaaY3
set_option linter.unusedVariables false
set_option linter.unusedSimpArgs false
set_option linter.constructorNameAsVariable false
namespace Go.Y
open Go.Ab Go.RowKit
noncomputable section
variable [Gl]

/-! ### Names replaced -/
omit [Gl] in
theorem R.mapL {C C' : Ctx} {g : V → V} (hg : ∀ v, (∀ a b, v ≠ .cons a b) → (∀ n f, v ≠ .arr n f) → (∀ f c, v ≠ .fn f c) → (∀ l, v ≠ .tup l) → ∀ m, R C v m → R C' (g v) m) (v : V) : ∀ {m : Ab.M}, R C v m → R C' (Y.mapL g v) m := by
  induction v with
  | cons x t ih1 ih2 =>
    intro m h
    cases m with
    | cel s g off => obtain ⟨a, b, h1, h2, h3⟩ := h; exact ⟨a, b, h1, ih1 h2, ih2 h3⟩
    | val v => obtain ⟨cs, a, b, h1, h2, h3, h4⟩ := h; exact ⟨cs, a, b, h1, h2, ih1 h3, ih2 h4⟩
    | list l => obtain ⟨y, ys, h1, h2, h3⟩ := h; exact ⟨y, ys, h1, ih1 h2, ih2 h3⟩
  | arr n f ih =>
    intro m h
    cases m with
    | cel s g off => obtain ⟨e, h1, h2⟩ := h; exact ⟨e, h1, fun i hi => ih i (h2 i hi)⟩
    | val v => obtain ⟨cs, e, h1, h2, h3⟩ := h; exact ⟨cs, e, h1, h2, fun i hi => ih i (h3 i hi)⟩
    | list l => exact h
  | fn f c ih => intro m h; obtain ⟨cs, h1, h2⟩ := h; exact ⟨cs, h1, ih h2⟩
  | tup l ih =>
    intro m h
    cases m with
    | val v => obtain ⟨cs, h1, h2⟩ := h; exact ⟨cs, h1, ih h2⟩
    | cel => exact h
    | list => exact h
  | _ => intro m h; exact hg _ (by intros; intro e; cases e) (by intros; intro e; cases e) (by intros; intro e; cases e) (by intros; intro e; cases e) _ h

omit [Gl] in
theorem unk_of_leaf {C C' : Ctx} {v : V} {m : Ab.M} (hv : ∀ l, m = .list l → False) (h : (∃ x : Value, x.oneCell' = true ∧ m.leaf x)) : R C' .unk m := by
  obtain ⟨x, h1, h2⟩ := h
  cases m with
  | cel s g off => obtain ⟨rfl, h3⟩ := h2; exact ⟨rfl, x, h3, h1⟩
  | val v => trivial
  | list l => exact (hv l rfl).elim
omit [Gl] in
theorem leaf_list {x : Value} {m : Ab.M} (h : m.leaf x) : ∀ l, m = .list l → False := by intro l e; subst e; exact h
omit [Gl] in
/-- What is named lies in a cell. -/
theorem name_leaf {C : Ctx} {v : V} {m : Ab.M} (h : R C v m) (hv : (∃ id p s, v = .ptr id p s) ∨ (∃ id e n, v = .row id e n) ∨ (∃ id p e off len cap, v = .sl id p e off len cap)) : ∃ x : Value, x.oneCell' = true ∧ m.leaf x := by
  rcases hv with ⟨id, p, s, rfl⟩ | ⟨id, e, n, rfl⟩ | ⟨id, p, e, off, len, cap, rfl⟩
  · obtain ⟨_, b, off, _, _, h3⟩ := h; exact ⟨_, rfl, h3⟩
  · obtain ⟨_, ⟨a, c, h1⟩, _, h3⟩ := h; exact ⟨_, by rw [h1]; rfl, h3⟩
  · obtain ⟨_, ad, c, o, n, h3, _⟩ := h; exact ⟨_, rfl, h3⟩
omit [Gl] in
theorem R.unk_name {C C' : Ctx} {v : V} {m : Ab.M} (h : R C v m) (hv : (∃ id p s, v = .ptr id p s) ∨ (∃ id e n, v = .row id e n) ∨ (∃ id p e off len cap, v = .sl id p e off len cap)) : R C' .unk m := by
  obtain ⟨x, h1, h2⟩ := name_leaf h hv
  exact unk_of_leaf (C := C) (v := v) (leaf_list h2) ⟨x, h1, h2⟩

omit [Gl] in
theorem capIs_eq {cap : Option Nat} {len : Nat} (h : capIs cap len = true) : cap = some len := by
  unfold capIs at h
  split at h
  · rw [Nat.eq_of_beq_eq_true h]
  · cases h

section
variable {B : Nat} {C : Ctx} {M : Mem}
/-- A slice of its own, as one that is read. -/
theorem R.row_ro (hs : SR B C M) {id n : Nat} {e : Shape} {blk : Blk} {n1 : Nat} {f : Nat → V} {g : V → V} {md : Ab.M} (hM : M id = some blk) (ha : blk.alive = true) (hv : blk.v = .arr n1 f)
    (hg : ∀ i, i < n → ∀ md, R C (f i) md → R (C.opened B) (g (f i)) md) (hr : R C (.row id e n) md) : R (C.opened B) (.ro false false e n fun i => g (f i)) md := by
  obtain ⟨hal, ⟨a, c, h1⟩, h2, h3⟩ := hr
  have hbr := hs.mem id blk hM
  unfold BR at hbr; unfold Blk.alive at ha
  cases hkd : blk.k <;> simp only [hkd] at hbr ha
  · obtain ⟨g, cur, e', h4, _⟩ := hbr; rw [h1] at h4; cases h4
  · obtain ⟨n2, s2, cells, h4, h5, h6, h7⟩ := hbr
    rw [h4, h5] at h2
    simp only [Shape.arr.injEq] at h2
    obtain ⟨rfl, rfl⟩ := h2
    refine ⟨a, c, by rw [← h1]; exact h3, ?_, (by intro hc; cases hc), ?_⟩
    · rcases h6.2 with ⟨h8, h9⟩ | ⟨g, cap, cur, hv', hg, hh, hnc, _⟩
      · rw [h1] at h8; cases h8; omega
      · rw [h1] at hv'; cases hv'; exact hnc
    · rcases h6.2 with ⟨h8, h9⟩ | ⟨q, cap, cur, hv', hq, hh, hnc, _, hcs, htake⟩
      · exact .inl h9
      · right
        rw [h1] at hv'
        simp only [Value.slice.injEq] at hv'
        obtain ⟨rfl, _, rfl⟩ := hv'
        refine ⟨q, 0, rfl, .inr ⟨hq, (Array.getElem?_eq_some_iff.1 hh).1⟩, fun i hi => ?_⟩
        have hb' : blk? (C.sv id) = some q := by rw [h1]; rfl
        have hpa : Shape.path [.idx i] (C.shp id) = some (0 + i * s2.size, s2) := by rw [h4, h5]; simp [Shape.path, Shape.step, hi]
        obtain ⟨h10, _⟩ := BR.at (hs.mem id blk hM) (by unfold Blk.alive; rw [hkd]) hb' hpa
        rw [hv] at h10
        have h11 : R C (f i) (.cel s2 (cg C.w q) (0 + i * s2.size)) := by simpa [V.path, V.step] using h10
        exact hg i hi _ h11
  · simp at ha
theorem R.sl_ro (hs : SR B C M) {id off len : Nat} {p : List Step} {cap : Option Nat} {e : Shape} {blk : Blk} {n1 : Nat} {f : Nat → V} {g : V → V} {md : Ab.M} (hM : M id = some blk) (ha : blk.alive = true) (hv : blk.v.path p = .arr n1 f)
    (hg : ∀ i, i < len → ∀ md, R C (f (off + i)) md → R (C.opened B) (g (f (off + i))) md) (hr : R C (.sl id p e off len cap) md) : R (C.opened B) (.ro false (capIs cap len) e len fun i => g (f (off + i))) md := by
  obtain ⟨hal, ad, c, o1, n2, h3, h4, h5, h2, h8, h6⟩ := hr
  refine ⟨ad, c, h3, h4, (fun hc => h5 _ (capIs_eq hc)), h6.imp (fun h => h) ?_⟩
  rintro ⟨b, h1, h6⟩
  obtain ⟨h7, _⟩ := BR.at (hs.mem id blk hM) ha h1 h2
  rw [hv] at h7
  obtain ⟨e', q1, h9⟩ := h7
  simp only [Shape.arr.injEq] at q1
  obtain ⟨rfl, rfl⟩ := q1
  refine ⟨b, o1 + off * e.size, h6, .inr (hs.lt hM ha h1), fun i hi => ?_⟩
  have h10 : R C (f (off + i)) (.cel e (cg C.w b) (o1 + off * e.size + i * e.size)) := by rw [Nat.add_assoc, ← Nat.add_mul]; exact h9 (off + i) (by omega)
  exact hg i hi _ h10
theorem R.ptr_ref (hs : SR B C M) {id : Nat} {p : List Step} {s : Shape} {blk : Blk} {g : V → V} {md : Ab.M} (hM : M id = some blk) (ha : blk.alive = true)
    (hg : ∀ md, R C (blk.v.path p) md → R (C.opened B) (g (blk.v.path p)) md) (hr : R C (.ptr id p s) md) : R (C.opened B) (.ref false s (g (blk.v.path p))) md := by
  obtain ⟨hal, b, off, h1, h2, h3⟩ := hr
  obtain ⟨h7, _⟩ := BR.at (hs.mem id blk hM) ha h1 h2
  have hlt := hs.lt hM ha h1
  exact ⟨b, off, h3, .inr hlt, hg _ h7⟩

theorem R.leafZ (hs : SR B C M) {m : Mem} (hm : Sub m M) {g : V → V} (hg : ∀ v md, R C v md → R (C.opened B) (g v) md) (v : V) (h1 : ∀ a b, v ≠ .cons a b) (h2 : ∀ n f, v ≠ .arr n f) (h3 : ∀ f c, v ≠ .fn f c) (h4 : ∀ l, v ≠ .tup l) (md : Ab.M) (hr : R C v md) : R (C.opened B) (Y.leafZ m g v) md := by
  cases v with
  | ptr id p s =>
    simp only [Y.leafZ]
    cases hb : m id with
    | none => exact R.unk_name hr (.inl ⟨_, _, _, rfl⟩)
    | some blk =>
      simp only
      split
      · rename_i ha; exact R.ptr_ref hs (hm _ _ hb) ha (fun md h => hg _ md h) hr
      · exact R.unk_name hr (.inl ⟨_, _, _, rfl⟩)
  | row id e n =>
    simp only [Y.leafZ]
    cases hb : m id with
    | none => exact R.unk_name hr (.inr (.inl ⟨_, _, _, rfl⟩))
    | some blk =>
      simp only
      split
      · rename_i ha
        split
        · rename_i n1 f hv; exact R.row_ro hs (hm _ _ hb) ha hv (fun i _ md h => hg _ md h) hr
        · exact R.unk_name hr (.inr (.inl ⟨_, _, _, rfl⟩))
      · exact R.unk_name hr (.inr (.inl ⟨_, _, _, rfl⟩))
  | sl id p e off len cap =>
    simp only [Y.leafZ]
    cases hb : m id with
    | none => exact R.unk_name hr (.inr (.inr ⟨_, _, _, _, _, _, rfl⟩))
    | some blk =>
      simp only
      split
      · rename_i ha
        split
        · rename_i n1 f hv; exact R.sl_ro hs (hm _ _ hb) ha hv (fun i _ md h => hg _ md h) hr
        · exact R.unk_name hr (.inr (.inr ⟨_, _, _, _, _, _, rfl⟩))
      · exact R.unk_name hr (.inr (.inr ⟨_, _, _, _, _, _, rfl⟩))
  | cons a b => exact absurd rfl (h1 _ _)
  | arr n f => exact absurd rfl (h2 _ _)
  | fn f c => exact absurd rfl (h3 _ _)
  | tup l => exact absurd rfl (h4 _)
  | _ => exact R.keep (Keep.opened C B) _ _ (R.pure_of _ rfl hr)
omit [Gl] in
theorem R.cutL (v : V) (h1 : ∀ a b, v ≠ .cons a b) (h2 : ∀ n f, v ≠ .arr n f) (h3 : ∀ f c, v ≠ .fn f c) (h4 : ∀ l, v ≠ .tup l) (md : Ab.M) (hr : R C v md) : R (C.opened B) (Y.cutL v) md := by
  cases v with
  | ptr id p s => exact R.unk_name hr (.inl ⟨_, _, _, rfl⟩)
  | row id e n => exact R.unk_name hr (.inr (.inl ⟨_, _, _, rfl⟩))
  | sl id p e off len cap => exact R.unk_name hr (.inr (.inr ⟨_, _, _, _, _, _, rfl⟩))
  | cons a b => exact absurd rfl (h1 _ _)
  | arr n f => exact absurd rfl (h2 _ _)
  | fn f c => exact absurd rfl (h3 _ _)
  | tup l => exact absurd rfl (h4 _)
  | _ => exact R.keep (Keep.opened C B) _ _ (R.pure_of _ rfl hr)
/-- A tree stands for what it stood for, its names replaced by what they stand for now. -/
theorem R.frz (hs : SR B C M) {m : Mem} (hm : Sub m M) : ∀ (k : Nat) (v : V) (md : Ab.M), R C v md → R (C.opened B) (Y.frz m k v) md
  | 0, v, md, h => R.mapL (g := Y.cutL) (fun v h1 h2 h3 h4 md hr => R.cutL v h1 h2 h3 h4 md hr) v h
  | k + 1, v, md, h => R.mapL (g := Y.leafZ m (Y.frz m k)) (fun v h1 h2 h3 h4 md hr => R.leafZ hs hm (fun v md hr => R.frz hs hm k v md hr) v h1 h2 h3 h4 md hr) v h

theorem R.resM (hs : SR B C M) {m : Mem} (v : V) : ∀ {p : Bool} {v' : V} {rd : List Nat} {md : Ab.M}, Y.resM m v = some (p, v', rd) → p = true → (∀ id ∈ rd, M id = m id) → R C v md → R (C.opened B) v' md := by
  have pure : ∀ {v : V} {p : Bool} {v' : V} {rd : List Nat} {md : Ab.M}, (if noId v then some (true, v, ([] : List Nat)) else none) = some (p, v', rd) → R C v md → R (C.opened B) v' md := by
    intro v p v' rd md h hr
    split at h
    · rename_i hn
      simp only [Option.some.injEq, Prod.mk.injEq] at h
      obtain ⟨_, rfl, _⟩ := h
      exact R.keep (Keep.opened C B) _ _ (R.pure_of v hn hr)
    · cases h
  have pg : ∀ {f : Nat → V} {n : Nat} {o : Nat}, (∀ i, i < n → noId (f (o + i)) = true) → ∀ i, i < n → ∀ md, R C (f (o + i)) md → R (C.opened B) (id (f (o + i))) md := fun hp i hi md h => R.keep (Keep.opened C B) _ _ (R.pure_of _ (hp i hi) h)
  induction v with
  | row id e n =>
    intro p v' rd md h hp hrd hr
    simp only [Y.resM] at h
    split at h
    · rename_i blk hb
      split at h
      · rename_i ha
        split at h
        · rename_i n1 f hv
          simp only [Option.some.injEq, Prod.mk.injEq] at h
          obtain ⟨rfl, rfl, rfl⟩ := h
          exact R.row_ro (g := fun v => v) hs (by rw [hrd id (by simp)]; exact hb) ha hv (fun i hi md h => R.keep (Keep.opened C B) _ _ (R.pure_of _ (List.all_eq_true.1 hp i (List.mem_range.2 hi)) h)) hr
        · cases h
      · cases h
    · cases h
  | sl id q e off len cap =>
    intro p v' rd md h hp hrd hr
    simp only [Y.resM] at h
    split at h
    · rename_i blk hb
      split at h
      · rename_i ha
        split at h
        · rename_i n1 f hv
          simp only [Option.some.injEq, Prod.mk.injEq] at h
          obtain ⟨rfl, rfl, rfl⟩ := h
          exact R.sl_ro (g := fun v => v) hs (by rw [hrd id (by simp)]; exact hb) ha hv (fun i hi md h => R.keep (Keep.opened C B) _ _ (R.pure_of _ (List.all_eq_true.1 hp i (List.mem_range.2 hi)) h)) hr
        · cases h
      · cases h
    · cases h
  | ptr id q s =>
    intro p v' rd md h hp hrd hr
    simp only [Y.resM] at h
    split at h
    · rename_i blk hb
      split at h
      · rename_i ha
        simp only [Bool.and_eq_true] at ha
        simp only [Option.some.injEq, Prod.mk.injEq] at h
        obtain ⟨rfl, rfl, rfl⟩ := h
        exact R.ptr_ref (g := fun v => v) hs (by rw [hrd id (by simp)]; exact hb) ha.1 (fun md h => R.keep (Keep.opened C B) _ _ (R.pure_of _ ha.2 h)) hr
      · cases h
    · cases h
  | cons x t ih1 ih2 =>
    intro p v' rd md h hp hrd hr
    simp only [Y.resM] at h
    split at h
    · rename_i p1 h1 r1 p2 t1 r2 e1 e2
      simp only [Option.some.injEq, Prod.mk.injEq] at h
      obtain ⟨rfl, rfl, rfl⟩ := h
      rw [Bool.and_eq_true] at hp
      have hrd1 : ∀ id ∈ r1, M id = m id := fun id hid => hrd id (by simp [hid])
      have hrd2 : ∀ id ∈ r2, M id = m id := fun id hid => hrd id (by simp [hid])
      cases md with
      | cel s g off => obtain ⟨a, b, q1, q2, q3⟩ := hr; exact ⟨a, b, q1, ih1 e1 hp.1 hrd1 q2, ih2 e2 hp.2 hrd2 q3⟩
      | val v => obtain ⟨cs, a, b, q1, q2, q3, q4⟩ := hr; exact ⟨cs, a, b, q1, q2, ih1 e1 hp.1 hrd1 q3, ih2 e2 hp.2 hrd2 q4⟩
      | list l => obtain ⟨y, ys, q1, q2, q3⟩ := hr; exact ⟨y, ys, q1, ih1 e1 hp.1 hrd1 q2, ih2 e2 hp.2 hrd2 q3⟩
    · cases h
  | tup l ih =>
    intro p v' rd md h hp hrd hr
    simp only [Y.resM] at h
    split at h
    · rename_i p1 l1 r1 e1
      simp only [Option.some.injEq, Prod.mk.injEq] at h
      obtain ⟨rfl, rfl, rfl⟩ := h
      cases md with
      | val v => obtain ⟨cs, q1, q2⟩ := hr; exact ⟨cs, q1, ih e1 hp hrd q2⟩
      | cel => exact hr.elim
      | list => exact hr.elim
    · cases h
  | _ => intro p v' rd md h hp hrd hr; simp only [Y.resM] at h; exact pure h hr
omit [Gl] in
theorem R.resM0 {m : Mem} (v : V) : ∀ {p : Bool} {v' : V} {rd : List Nat} {md : Ab.M}, Y.resM m v = some (p, v', rd) → rd = [] → R C v md → R C.pur v' md := by
  have pure : ∀ {v : V} {p : Bool} {v' : V} {rd : List Nat} {md : Ab.M}, (if noId v then some (true, v, ([] : List Nat)) else none) = some (p, v', rd) → R C v md → R C.pur v' md := by
    intro v p v' rd md h hr
    split at h
    · rename_i hn
      simp only [Option.some.injEq, Prod.mk.injEq] at h
      obtain ⟨_, rfl, _⟩ := h
      exact R.pure_of v hn hr
    · cases h
  induction v with
  | row id e n =>
    intro p v' rd md h hrd hr
    simp only [Y.resM] at h
    split at h
    · split at h
      · split at h
        · simp only [Option.some.injEq, Prod.mk.injEq] at h
          rw [← h.2.2] at hrd; cases hrd
        · cases h
      · cases h
    · cases h
  | sl id q e off len cap =>
    intro p v' rd md h hrd hr
    simp only [Y.resM] at h
    split at h
    · split at h
      · split at h
        · simp only [Option.some.injEq, Prod.mk.injEq] at h
          rw [← h.2.2] at hrd; cases hrd
        · cases h
      · cases h
    · cases h
  | ptr id q s =>
    intro p v' rd md h hrd hr
    simp only [Y.resM] at h
    split at h
    · split at h
      · simp only [Option.some.injEq, Prod.mk.injEq] at h
        rw [← h.2.2] at hrd; cases hrd
      · cases h
    · cases h
  | cons x t ih1 ih2 =>
    intro p v' rd md h hrd hr
    simp only [Y.resM] at h
    split at h
    · rename_i p1 h1 r1 p2 t1 r2 e1 e2
      simp only [Option.some.injEq, Prod.mk.injEq] at h
      obtain ⟨rfl, rfl, rfl⟩ := h
      obtain ⟨hr1, hr2⟩ := List.append_eq_nil_iff.1 hrd
      cases md with
      | cel s g off => obtain ⟨a, b, q1, q2, q3⟩ := hr; exact ⟨a, b, q1, ih1 e1 hr1 q2, ih2 e2 hr2 q3⟩
      | val v => obtain ⟨cs, a, b, q1, q2, q3, q4⟩ := hr; exact ⟨cs, a, b, q1, q2, ih1 e1 hr1 q3, ih2 e2 hr2 q4⟩
      | list l => obtain ⟨y, ys, q1, q2, q3⟩ := hr; exact ⟨y, ys, q1, ih1 e1 hr1 q2, ih2 e2 hr2 q3⟩
    · cases h
  | tup l ih =>
    intro p v' rd md h hrd hr
    simp only [Y.resM] at h
    split at h
    · rename_i p1 l1 r1 e1
      simp only [Option.some.injEq, Prod.mk.injEq] at h
      obtain ⟨rfl, rfl, rfl⟩ := h
      cases md with
      | val v => obtain ⟨cs, q1, q2⟩ := hr; exact ⟨cs, q1, ih e1 hrd q2⟩
      | cel => exact hr.elim
      | list => exact hr.elim
    · cases h
  | _ => intro p v' rd md h hrd hr; simp only [Y.resM] at h; exact pure h hr
end
end
end Go.Y
