/- What is known of a function's own memory. No condition. -/
import Derived.Test.YtkjoldifiniliaaB2
set_option linter.unusedVariables false
set_option linter.unusedSimpArgs false
namespace Go.Ab
open Go.RowKit
/-- What the globals are. -/
class Gl where
  G : Nat → V
  /-- Is all known? -/
  cl : Bool := false
variable [Gl]

inductive Kind where
  | box
  | row (e : TypeId)
  | dead

structure Blk where
  k : Kind
  sh : Shape
  v : V

def Blk.alive (b : Blk) : Bool := match b.k with | .dead => false | _ => true

abbrev Mem := Nat → Option Blk

/-- What a block of the function's own is. -/
def BR (B : Nat) (C : Ctx) (id : Nat) (blk : Blk) : Prop :=
  match blk.k with
  | .box => ∃ g cur e, C.sv id = .pointer (some ⟨g, 0, none⟩) ∧ B ≤ g ∧ C.w.heap[g]? = some (.cells cur e (0, 0)) ∧ C.shp id = blk.sh ∧ cur.size = blk.sh.size ∧ R C blk.v (.cel blk.sh (fun i => cur[i]?) 0)
  | .row e => ∃ n s cells, C.shp id = blk.sh ∧ blk.sh = .arr n s ∧ C.w.ownsRow B e s.size (C.sv id) n cells ∧ R C blk.v (.cel blk.sh (fun i => cells[i]?) 0)
  | .dead => True

structure SR (B : Nat) (C : Ctx) (m : Mem) : Prop where
  base : B ≤ C.w.heap.size
  okLt : ∀ u b, C.ok u b → b < C.w.heap.size
  al : ∀ id blk, m id = some blk → C.al id
  mem : ∀ id blk, m id = some blk → BR B C id blk
  sep : ∀ id id' blk blk' b, m id = some blk → blk.alive = true → m id' = some blk' → blk'.alive = true → blk? (C.sv id) = some b → blk? (C.sv id') = some b → id = id'
  own : ∀ id blk b, m id = some blk → blk.alive = true → blk? (C.sv id) = some b → ∀ u, ¬ C.ok u b
  gl : ∀ g, R C (Gl.G g) (.val (.pointer (some ⟨g, 0, none⟩)))

structure Kp (B : Nat) (C C' : Ctx) : Prop extends Keep C C' where
  below : Below B C.w C'.w
  okn : ∀ u b, C'.ok u b → (C.ok u b ∨ (u = true ∧ C.ok false b)) ∨ B ≤ b

omit [Gl] in
theorem Kp.refl (B : Nat) (C : Ctx) : Kp B C C := ⟨Keep.refl C, Below.refl B C.w, fun _ _ h => .inl (.inl h)⟩
omit [Gl] in
theorem Kp.trans {B : Nat} {a b c : Ctx} (h : Kp B a b) (k : Kp B b c) : Kp B a c := ⟨h.toKeep.trans k.toKeep, h.below.trans k.below, fun u b x => by
    rcases k.okn u b x with (h1 | ⟨rfl, h1⟩) | h1
    · exact h.okn u b h1
    · rcases h.okn false b h1 with (h2 | ⟨h2, _⟩) | h2
      · exact .inl (.inr ⟨rfl, h2⟩)
      · cases h2
      · exact .inr h2
    · exact .inr h1⟩

omit [Gl] in
theorem ownsRow_block {w w' : World} {B : Nat} {e : TypeId} {z : Nat} {v : Value} {n : Nat} {xs : List Value} (h : w.ownsRow B e z v n xs) (hb : ∀ g, blk? v = some g → w'.heap[g]? = w.heap[g]?) : w'.ownsRow B e z v n xs := by
  refine ⟨h.1, ?_⟩
  rcases h.2 with h2 | ⟨g, cap, cur, hv, hg, hh, r⟩
  · exact .inl h2
  · exact .inr ⟨g, cap, cur, hv, hg, by rw [hb g (by rw [hv]; rfl)]; exact hh, r⟩

omit [Gl] in
theorem BR.keep {B : Nat} {C C' : Ctx} {id : Nat} {blk : Blk} (h : BR B C id blk) (hal : C.al id) (hk : Keep C C')
    (hb : ∀ g, blk? (C.sv id) = some g → C'.w.heap[g]? = C.w.heap[g]?) : BR B C' id blk := by
  unfold BR at h ⊢
  cases hkd : blk.k <;> simp only [hkd] at h ⊢
  · obtain ⟨g, cur, e, h1, h2, h3, h4, h5, h6⟩ := h
    exact ⟨g, cur, e, by rw [hk.sv _ hal]; exact h1, h2, by rw [hb g (by rw [h1]; rfl)]; exact h3, by rw [hk.shp _ hal]; exact h4, h5, R.keep hk _ _ h6⟩
  · obtain ⟨n, s, cells, h1, h2, h3, h4⟩ := h
    exact ⟨n, s, cells, by rw [hk.shp _ hal]; exact h1, h2, by rw [hk.sv _ hal]; exact ownsRow_block h3 hb, R.keep hk _ _ h4⟩

/-- From one state to the next: what has not changed stays. -/
theorem SR.next {B : Nat} {C C' : Ctx} {m m' : Mem} (h : SR B C m) (hk : Kp B C C') (ch : Nat → Prop)
    (hsame : ∀ id, ¬ ch id → m' id = m id)
    (hframe : ∀ id blk b, ¬ ch id → m id = some blk → blk.alive = true → blk? (C.sv id) = some b → C'.w.heap[b]? = C.w.heap[b]?)
    (hnew : ∀ id blk, ch id → m' id = some blk → C'.al id ∧ BR B C' id blk)
    (hokLt : ∀ u b, C'.ok u b → b < C'.w.heap.size)
    (hsep : ∀ id id' blk blk' b, m' id = some blk → blk.alive = true → m' id' = some blk' → blk'.alive = true → ch id → blk? (C'.sv id) = some b → blk? (C'.sv id') = some b → id = id')
    (hown : ∀ id blk b, m' id = some blk → blk.alive = true → blk? (C'.sv id) = some b → ∀ u, ¬ C'.ok u b) : SR B C' m' := by
  refine ⟨Nat.le_trans h.base hk.below.size, hokLt, ?_, ?_, ?_, hown, fun g => R.keep hk.toKeep _ _ (h.gl g)⟩
  · intro id blk hm
    by_cases hc : ch id
    · exact (hnew id blk hc hm).1
    · exact hk.al _ (h.al id blk (by rw [← hsame id hc]; exact hm))
  · intro id blk hm
    by_cases hc : ch id
    · exact (hnew id blk hc hm).2
    · have hm' : m id = some blk := by rw [← hsame id hc]; exact hm
      by_cases ha : blk.alive = true
      · exact (h.mem id blk hm').keep (h.al id blk hm') hk.toKeep fun g hg => hframe id blk g hc hm' ha hg
      · unfold BR; unfold Blk.alive at ha
        cases hkd : blk.k <;> simp [hkd] at ha ⊢
  · intro id id' blk blk' b h1 h2 h3 h4 h5 h6
    by_cases hc : ch id
    · exact hsep id id' blk blk' b h1 h2 h3 h4 hc h5 h6
    · by_cases hc' : ch id'
      · exact (hsep id' id blk' blk b h3 h4 h1 h2 hc' h6 h5).symm
      · rw [hsame id hc] at h1
        rw [hsame id' hc'] at h3
        rw [hk.sv _ (h.al _ _ h1)] at h5
        rw [hk.sv _ (h.al _ _ h3)] at h6
        exact h.sep id id' blk blk' b h1 h2 h3 h4 h5 h6

def upd {α : Type} (f : Nat → α) (n : Nat) (x : α) : Nat → α := fun i => if i = n then x else f i
omit [Gl] in
@[simp] theorem upd_same {α : Type} (f : Nat → α) (n : Nat) (x : α) : upd f n x n = x := by simp [upd]
omit [Gl] in
theorem upd_other {α : Type} (f : Nat → α) {n i : Nat} (x : α) (h : i ≠ n) : upd f n x i = f i := by simp [upd, h]

/-- A block of an own, alive name lies in memory. -/
theorem SR.lt {B : Nat} {C : Ctx} {m : Mem} (h : SR B C m) {id : Nat} {blk : Blk} {b : Nat} (hm : m id = some blk) (ha : blk.alive = true) (hb : blk? (C.sv id) = some b) : B ≤ b ∧ b < C.w.heap.size := by
  have := h.mem id blk hm
  unfold BR at this; unfold Blk.alive at ha
  cases hkd : blk.k <;> simp only [hkd] at this ha
  · obtain ⟨g, cur, e, h1, h2, h3, _⟩ := this
    rw [h1] at hb; simp only [blk?, Option.some.injEq] at hb; subst hb
    exact ⟨h2, (Array.getElem?_eq_some_iff.1 h3).1⟩
  · obtain ⟨n, s, cells, _, _, h3, _⟩ := this
    rcases h3.2 with ⟨h4, _⟩ | ⟨g, cap, cur, hv, hg, hh, _⟩
    · rw [h4] at hb; simp [blk?] at hb
    · rw [hv] at hb; simp only [blk?, Option.some.injEq] at hb; subst hb
      exact ⟨hg, (Array.getElem?_eq_some_iff.1 hh).1⟩
  · simp at ha

/-- The world has drawn. -/
theorem SR.drew {B : Nat} {C : Ctx} {m : Mem} (h : SR B C m) : SR B { C with w := C.w.drew } m ∧ Kp B C { C with w := C.w.drew } := by
  have hk : Kp B C { C with w := C.w.drew } := ⟨⟨fun _ h => h, fun _ _ => rfl, fun _ _ => rfl, fun _ _ h => h, fun _ _ _ => rfl⟩, (Below.refl B C.w).drew, fun _ _ h => .inl (.inl h)⟩
  exact ⟨h.next hk (fun _ => False) (fun _ _ => rfl) (fun _ _ _ _ _ _ _ => rfl) (fun _ _ h => h.elim) h.okLt (fun _ _ _ _ _ _ _ _ _ h => h.elim) h.own, hk⟩

/-- A callee has been: nothing that was there has changed, and what it hands back may be looked at. -/
theorem SR.grown {B : Nat} {C : Ctx} {m : Mem} (h : SR B C m) {w' : World} (hb : Below C.w.heap.size C.w w') (ok' : Bool → Nat → Prop)
    (h1 : ∀ u b, C.ok u b → ok' u b) (h2 : ∀ u b, ok' u b → (C.ok u b ∨ (u = true ∧ C.ok false b)) ∨ (C.w.heap.size ≤ b ∧ b < w'.heap.size)) : SR B { C with w := w', ok := ok' } m ∧ Kp B C { C with w := w', ok := ok' } := by
  have hk : Kp B C { C with w := w', ok := ok' } := ⟨⟨fun _ h => h, fun _ _ => rfl, fun _ _ => rfl, h1, fun u b hb' => hb.block b (h.okLt u b hb')⟩, hb.mono h.base, fun u b hb' => (h2 u b hb').imp id fun h3 => Nat.le_trans h.base h3.1⟩
  refine ⟨h.next hk (fun _ => False) (fun _ _ => rfl) (fun id blk b _ hm ha hbb => hb.block b (h.lt hm ha hbb).2) (fun _ _ h => h.elim) ?_ (fun _ _ _ _ _ _ _ _ _ h => h.elim) ?_, hk⟩
  · intro u b hb'
    rcases h2 u b hb' with (h3 | ⟨_, h3⟩) | h3
    · exact Nat.lt_of_lt_of_le (h.okLt u b h3) hb.size
    · exact Nat.lt_of_lt_of_le (h.okLt false b h3) hb.size
    · exact h3.2
  · intro id blk b hm ha hbb u hok
    rcases h2 u b hok with (h3 | ⟨_, h3⟩) | h3
    · exact h.own id blk b hm ha hbb u h3
    · exact h.own id blk b hm ha hbb false h3
    · have := (h.lt hm ha hbb).2; omega

/-- A new block of the function's own. -/
theorem SR.alloc {B : Nat} {C : Ctx} {m : Mem} (h : SR B C m) {n : Nat} (hn : ¬ C.al n) (cur : Array Value) (e : TypeId) (blk : Blk) (sv : Value) (hsv : blk? sv = some C.w.heap.size)
    (hbr : ∀ C' : Ctx, Keep C C' → C'.sv n = sv → C'.shp n = blk.sh → C'.w = C.w.alloc (.cells cur e) → BR B C' n blk) :
    let C' : Ctx := { C with al := fun i => C.al i ∨ i = n, sv := upd C.sv n sv, shp := upd C.shp n blk.sh, w := C.w.alloc (.cells cur e) }
    SR B C' (upd m n (some blk)) ∧ Kp B C C' := by
  intro C'
  have hne : ∀ id, C.al id → id ≠ n := fun id hid e => hn (e ▸ hid)
  have hk : Kp B C C' := ⟨⟨fun _ h => .inl h, fun id hid => upd_other _ _ (hne id hid), fun id hid => upd_other _ _ (hne id hid), fun _ _ h => h, fun u b hb' => Below.heap_alloc C.w _ b (h.okLt u b hb')⟩,
    (Below.refl B C.w).alloc h.base _, fun _ _ h => .inl (.inl h)⟩
  refine ⟨h.next hk (fun id => id = n) (fun id hid => upd_other _ _ hid) (fun id blk b _ hm ha hbb => Below.heap_alloc C.w _ b (h.lt hm ha hbb).2) ?_ ?_ ?_ ?_, hk⟩
  · intro id blk' hid hm
    subst hid
    simp only [upd_same, Option.some.injEq] at hm
    subst hm
    exact ⟨.inr rfl, hbr C' hk.toKeep (by simp [C']) (by simp [C']) rfl⟩
  · intro u b hb'
    have := h.okLt u b hb'
    show b < (C.w.alloc _).heap.size
    simp; omega
  · intro id id' blk1 blk2 b h1 h2 h3 h4 hid h5 h6
    subst hid
    simp only [C', upd_same] at h5
    rw [hsv] at h5
    simp only [Option.some.injEq] at h5
    subst h5
    by_cases hid' : id' = id
    · exact hid'.symm
    · exfalso
      rw [upd_other _ _ hid'] at h3
      simp only [C', upd_other _ _ hid'] at h6
      have := (h.lt h3 h4 h6).2
      omega
  · intro id blk1 b h1 h2 h3 u hok
    by_cases hid : id = n
    · subst hid
      simp only [C', upd_same] at h3
      rw [hsv] at h3
      simp only [Option.some.injEq] at h3
      subst h3
      have := h.okLt _ _ hok
      omega
    · rw [upd_other _ _ hid] at h1
      simp only [C', upd_other _ _ hid] at h3
      exact h.own id blk1 b h1 h2 h3 u hok

/-- A block of the function's own has another content. -/
theorem SR.write {B : Nat} {C : Ctx} {m : Mem} (h : SR B C m) {id : Nat} {blk blk' : Blk} {b : Nat} (hm : m id = some blk) (ha : blk.alive = true) (hb : blk? (C.sv id) = some b) (cs : Array Value)
    (hbr : ∀ C' : Ctx, Keep C C' → C'.sv id = C.sv id → C'.shp id = C.shp id → C'.w = C.w.setRow b cs → BR B C' id blk') :
    let C' : Ctx := { C with w := C.w.setRow b cs }
    SR B C' (upd m id (some blk')) ∧ Kp B C C' := by
  intro C'
  have hlt := h.lt hm ha hb
  have hk : Kp B C C' := ⟨⟨fun _ h => h, fun _ _ => rfl, fun _ _ => rfl, fun _ _ h => h, fun u b' hb' => setRow_other C.w b b' cs (fun e => h.own id blk b hm ha hb u (e ▸ hb'))⟩,
    ⟨rfl, rfl, rfl, by simp [C'], fun k hk => setRow_other C.w b k cs (by omega)⟩, fun _ _ h => .inl (.inl h)⟩
  refine ⟨h.next hk (fun i => i = id) (fun i hi => upd_other _ _ hi) ?_ ?_ ?_ ?_ ?_, hk⟩
  · intro i blk1 b1 hi hm1 ha1 hb1
    exact setRow_other C.w b b1 cs (fun e => hi (h.sep i id blk1 blk b hm1 ha1 hm ha (e ▸ hb1) hb))
  · intro i blk1 hi hm1
    subst hi
    simp only [upd_same, Option.some.injEq] at hm1
    subst hm1
    exact ⟨h.al i blk hm, hbr C' hk.toKeep rfl rfl rfl⟩
  · intro u b' hb'
    have := h.okLt u b' hb'
    show b' < (C.w.setRow b cs).heap.size
    simpa using this
  · intro i i' blk1 blk2 b1 h1 h2 h3 h4 hi h5 h6
    subst hi
    by_cases hi' : i' = i
    · exact hi'.symm
    · rw [upd_other _ _ hi'] at h3
      exact h.sep i i' blk blk2 b1 hm ha h3 h4 h5 h6
  · intro i blk1 b1 h1 h2 h3 u hok
    by_cases hi : i = id
    · subst hi; exact h.own i blk b1 hm ha h3 u hok
    · rw [upd_other _ _ hi] at h1
      exact h.own i blk1 b1 h1 h2 h3 u hok

end Go.Ab
