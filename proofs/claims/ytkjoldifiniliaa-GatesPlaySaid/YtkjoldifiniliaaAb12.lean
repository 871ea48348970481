/- The evaluator of code, and that it is right; contracts. No condition. -/
import Derived.Test.YtkjoldifiniliaaAb11
set_option linter.unusedVariables false
set_option linter.unusedSimpArgs false
namespace Go.Ab
open Go.RowKit

structure St where
  tm : List V
  mem : List Blk

def St.t (S : St) (i : Nat) : V := S.tm.getD i .unk
def St.m (S : St) : Mem := fun id => S.mem[id]?

/-- The state stands for what is there. -/
structure SRel (B : Nat) (C : Ctx) (S : St) (a : Act) : Prop where
  sr : SR B C S.m
  tm : ∀ t, R C (S.t t) (.val (a.tmps.getD t undef))
  al : ∀ id, C.al id → id < S.mem.length
  size : a.tmps.size = S.tm.length
  defers : a.defers = []

def CPost (B N : Nat) (C0 : Ctx) (Q : Exit → St → Prop) (e : Exit) (a : Act) (w : World) : Prop := ∃ S C, C.w = w ∧ Q e S ∧ Kp B C0 C ∧ SRel B C S a ∧ S.tm.length = N

def HG (G : Nat → V) (C0 : Ctx) : Prop := ∀ g C, Keep C0 C → R C (G g) (.val (.pointer (some ⟨g, 0, none⟩)))

/-- Carried out from a state, code ends as 'Q' says. -/
def AWp (P : Program) (B N : Nat) (C0 : Ctx) (c : Code) (Q : Exit → St → Prop) (S : St) : Prop := ∀ C a, Kp B C0 C → SRel B C S a → S.tm.length = N → c.wp P (CPost B N C0 Q) a C.w

/-! ### Values without names -/
def noId : V → Bool
  | .ptr .. | .row .. | .sl .. => false
  | .cons h t => noId h && noId t
  | .arr n f => (List.range n).all fun i => noId (f i)
  | .fn _ c => noId c
  | .tup l => noId l
  | _ => true

theorem R.pure_of {C : Ctx} (v : V) : ∀ {m : M}, noId v = true → R C v m → R C.pur v m := by
  induction v with
  | cons x t ih1 ih2 =>
    intro m hn h
    simp only [noId, Bool.and_eq_true] at hn
    cases m with
    | cel s g off => obtain ⟨a, b, h1, h2, h3⟩ := h; exact ⟨a, b, h1, ih1 hn.1 h2, ih2 hn.2 h3⟩
    | val v => obtain ⟨cs, a, b, h1, h2, h3, h4⟩ := h; exact ⟨cs, a, b, h1, h2, ih1 hn.1 h3, ih2 hn.2 h4⟩
    | list l => obtain ⟨y, ys, h1, h2, h3⟩ := h; exact ⟨y, ys, h1, ih1 hn.1 h2, ih2 hn.2 h3⟩
  | arr n f ih =>
    intro m hn h
    simp only [noId, List.all_eq_true, List.mem_range] at hn
    cases m with
    | cel s g off => obtain ⟨e, h1, h2⟩ := h; exact ⟨e, h1, fun i hi => ih i (hn i hi) (h2 i hi)⟩
    | val v => obtain ⟨cs, e, h1, h2, h3⟩ := h; exact ⟨cs, e, h1, h2, fun i hi => ih i (hn i hi) (h3 i hi)⟩
    | list l => exact h
  | fn f cap ih => intro m hn h; obtain ⟨cs, h1, h2⟩ := h; exact ⟨cs, h1, ih hn h2⟩
  | tup l ih =>
    intro m hn h
    cases m with
    | val v => obtain ⟨cs, h1, h2⟩ := h; exact ⟨cs, h1, ih hn h2⟩
    | cel => exact h
    | list => exact h
  | ptr id p s => intro m hn; simp [noId] at hn
  | row id e n => intro m hn; simp [noId] at hn
  | sl id p e off len cap => intro m hn; simp [noId] at hn
  | int k n => intro m _ h; exact h
  | bool b => intro m _ h; exact h
  | str s => intro m _ h; exact h
  | nilp => intro m _ h; exact h
  | nils => intro m _ h; exact h
  | nilf => intro m _ h; exact h
  | nl => intro m _ h; cases m <;> exact h
  | ref u s c ih => intro m _ h; exact h
  | ro u clip e len f ih => intro m _ h; exact h
  | unk => intro m _ h; cases m <;> exact h

/-- A value, its names replaced by what they stand for now: what has to hold, the value, the blocks that were looked at, whether any was. -/
def res (m : List Blk) : V → Option (Prop × V × List Nat)
  | .row id e n => match m[id]? with
    | some blk => if blk.alive then match blk.v with
      | .arr _ f => some (∀ i, i < n → noId (f i) = true, .ro false false e n f, [id])
      | _ => none
      else none
    | none => none
  | .sl id p e off len _ => match m[id]? with
    | some blk => if blk.alive then match blk.v.path p with
      | .arr _ f => some (∀ i, i < len → noId (f (off + i)) = true, .ro false false e len (fun i => f (off + i)), [id])
      | _ => none
      else none
    | none => none
  | .ptr id p s => match m[id]? with
    | some blk => if blk.alive && noId (blk.v.path p) then some (True, .ref false s (blk.v.path p), [id]) else none
    | none => none
  | .cons h t => match res m h, res m t with
    | some (p, h', r), some (q, t', r') => some (p ∧ q, .cons h' t', r ++ r')
    | _, _ => none
  | .tup l => match res m l with
    | some (p, l', r) => some (p, .tup l', r)
    | none => none
  | v => if noId v then some (True, v, []) else none

/-- The same, where what is the function's own may be looked at as well. -/
def Ctx.opened (C : Ctx) (B : Nat) : Ctx := { C.pur with ok := fun u b => C.ok u b ∨ (B ≤ b ∧ b < C.w.heap.size) }

theorem Keep.opened (C : Ctx) (B : Nat) : Keep C.pur (C.opened B) := ⟨fun _ h => h.elim, fun _ h => h.elim, fun _ h => h.elim, fun _ _ h => .inl h, fun _ _ _ => rfl⟩

theorem R.res {B : Nat} {C : Ctx} {M : Mem} (hs : SR B C M) {m : List Blk} (v : V) : ∀ {p : Prop} {v' : V} {rd : List Nat} {md : Ab.M}, Ab.res m v = some (p, v', rd) → p → (∀ id ∈ rd, M id = m[id]?) → R C v md → R (C.opened B) v' md := by
  have pure : ∀ {v : V} {p : Prop} {v' : V} {rd : List Nat} {md : Ab.M}, (if noId v then some (True, v, ([] : List Nat)) else none) = some (p, v', rd) → R C v md → R (C.opened B) v' md := by
    intro v p v' rd md h hr
    split at h
    · rename_i hn
      simp only [Option.some.injEq, Prod.mk.injEq] at h
      obtain ⟨_, rfl, _⟩ := h
      exact R.keep (Keep.opened C B) _ _ (R.pure_of v hn hr)
    · cases h
  induction v with
  | row id e n =>
    intro p v' rd md h hp hrd hr
    simp only [Ab.res] at h
    split at h
    · rename_i blk hb
      split at h
      · rename_i ha
        split at h
        · rename_i n1 f hv
          simp only [Option.some.injEq, Prod.mk.injEq] at h
          obtain ⟨rfl, rfl, rfl⟩ := h
          obtain ⟨hal, ⟨a, c, h1⟩, h2, h3⟩ := hr
          have hM : M id = some blk := by rw [hrd id (by simp)]; exact hb
          have hbr := hs.mem id blk hM
          unfold BR at hbr; unfold Blk.alive at ha
          cases hkd : blk.k <;> simp only [hkd] at hbr ha
          · obtain ⟨g, cur, e', h4, _⟩ := hbr; rw [h1] at h4; cases h4
          · obtain ⟨n2, s2, cells, h4, h5, h6, h7⟩ := hbr
            rw [h4, h5] at h2
            simp only [Shape.arr.injEq] at h2
            obtain ⟨rfl, rfl⟩ := h2
            refine ⟨a, c, by rw [← h1]; exact h3, ?_, (by intro hc; cases hc), ?_⟩
            · rcases h6.2 with ⟨h8, h9⟩ | ⟨g, cap, cur, hv', hg, hh, hnc, _⟩
              · rw [h1] at h8; cases h8; omega
              · rw [h1] at hv'; cases hv'; exact hnc
            · rcases h6.2 with ⟨h8, h9⟩ | ⟨g, cap, cur, hv', hg, hh, hnc, _, hcs, htake⟩
              · exact .inl h9
              · right
                rw [h1] at hv'
                simp only [Value.slice.injEq] at hv'
                obtain ⟨rfl, _, rfl⟩ := hv'
                refine ⟨g, 0, rfl, .inr ⟨hg, (Array.getElem?_eq_some_iff.1 hh).1⟩, fun i hi => ?_⟩
                have hb' : blk? (C.sv id) = some g := by rw [h1]; rfl
                have hpa : Shape.path [.idx i] (C.shp id) = some (0 + i * s2.size, s2) := by rw [h4, h5]; simp [Shape.path, Shape.step, hi]
                obtain ⟨h10, _⟩ := BR.at (hs.mem id blk hM) (by unfold Blk.alive; rw [hkd]) hb' hpa
                rw [hv] at h10
                have h11 : R C (f i) (.cel s2 (cg C.w g) (0 + i * s2.size)) := by simpa [V.path, V.step] using h10
                exact R.keep (Keep.opened C B) _ _ (R.pure_of _ (hp i hi) h11)
          · simp at ha
        · cases h
      · cases h
    · cases h
  | sl id q e off len cap =>
    intro p v' rd md h hp hrd hr
    simp only [Ab.res] at h
    split at h
    · rename_i blk hb
      split at h
      · rename_i ha
        split at h
        · rename_i n1 f hv
          simp only [Option.some.injEq, Prod.mk.injEq] at h
          obtain ⟨rfl, rfl, rfl⟩ := h
          obtain ⟨hal, b, o1, n2, c, h1, h2, h3, h4, h5, h6⟩ := hr
          have hM : M id = some blk := by rw [hrd id (by simp)]; exact hb
          obtain ⟨h7, _⟩ := BR.at (hs.mem id blk hM) ha h1 h2
          rw [hv] at h7
          obtain ⟨e', q1, h8⟩ := h7
          simp only [Shape.arr.injEq] at q1
          obtain ⟨rfl, rfl⟩ := q1
          have hlt := hs.lt hM ha h1
          refine ⟨_, c, h3, h4, (by intro hc; cases hc), .inr ⟨b, o1 + off * e.size, rfl, .inr hlt, fun i hi => ?_⟩⟩
          have h9 := h8 (off + i) (by omega)
          have h10 : R C (f (off + i)) (.cel e (cg C.w b) (o1 + off * e.size + i * e.size)) := by rw [Nat.add_assoc, ← Nat.add_mul]; exact h9
          exact R.keep (Keep.opened C B) _ _ (R.pure_of _ (hp i hi) h10)
        · cases h
      · cases h
    · cases h
  | ptr id q s =>
    intro p v' rd md h hp hrd hr
    simp only [Ab.res] at h
    split at h
    · rename_i blk hb
      split at h
      · rename_i ha
        simp only [Bool.and_eq_true] at ha
        simp only [Option.some.injEq, Prod.mk.injEq] at h
        obtain ⟨rfl, rfl, rfl⟩ := h
        obtain ⟨hal, b, off, h1, h2, h3⟩ := hr
        have hM : M id = some blk := by rw [hrd id (by simp)]; exact hb
        obtain ⟨h7, _⟩ := BR.at (hs.mem id blk hM) ha.1 h1 h2
        have hlt := hs.lt hM ha.1 h1
        exact ⟨b, off, h3, .inr hlt, R.keep (Keep.opened C B) _ _ (R.pure_of _ ha.2 h7)⟩
      · cases h
    · cases h
  | cons x t ih1 ih2 =>
    intro p v' rd md h hp hrd hr
    simp only [Ab.res] at h
    split at h
    · rename_i p1 h1 r1 p2 t1 r2 e1 e2
      simp only [Option.some.injEq, Prod.mk.injEq] at h
      obtain ⟨rfl, rfl, rfl⟩ := h
      have hrd1 : ∀ id ∈ r1, M id = m[id]? := fun id hid => hrd id (by simp [hid])
      have hrd2 : ∀ id ∈ r2, M id = m[id]? := fun id hid => hrd id (by simp [hid])
      cases md with
      | cel s g off => obtain ⟨a, b, q1, q2, q3⟩ := hr; exact ⟨a, b, q1, ih1 e1 hp.1 hrd1 q2, ih2 e2 hp.2 hrd2 q3⟩
      | val v => obtain ⟨cs, a, b, q1, q2, q3, q4⟩ := hr; exact ⟨cs, a, b, q1, q2, ih1 e1 hp.1 hrd1 q3, ih2 e2 hp.2 hrd2 q4⟩
      | list l => obtain ⟨y, ys, q1, q2, q3⟩ := hr; exact ⟨y, ys, q1, ih1 e1 hp.1 hrd1 q2, ih2 e2 hp.2 hrd2 q3⟩
    · cases h
  | tup l ih =>
    intro p v' rd md h hp hrd hr
    simp only [Ab.res] at h
    split at h
    · rename_i p1 l1 r1 e1
      simp only [Option.some.injEq, Prod.mk.injEq] at h
      obtain ⟨rfl, rfl, rfl⟩ := h
      cases md with
      | val v => obtain ⟨cs, q1, q2⟩ := hr; exact ⟨cs, q1, ih e1 hp hrd q2⟩
      | cel => exact hr.elim
      | list => exact hr.elim
    · cases h
  | _ => intro p v' rd md h hp hrd hr; simp only [Ab.res] at h; exact pure h hr

theorem R.res0 {C : Ctx} {m : List Blk} (v : V) : ∀ {p : Prop} {v' : V} {rd : List Nat} {md : Ab.M}, Ab.res m v = some (p, v', rd) → rd = [] → R C v md → R C.pur v' md := by
  have pure : ∀ {v : V} {p : Prop} {v' : V} {rd : List Nat} {md : Ab.M}, (if noId v then some (True, v, ([] : List Nat)) else none) = some (p, v', rd) → R C v md → R C.pur v' md := by
    intro v p v' rd md h hr
    split at h
    · rename_i hn
      simp only [Option.some.injEq, Prod.mk.injEq] at h
      obtain ⟨_, rfl, _⟩ := h
      exact R.pure_of v hn hr
    · cases h
  induction v with
  | row id e n =>
    intro p v' rd md h hrd hr
    simp only [Ab.res] at h
    split at h
    · split at h
      · split at h
        · simp only [Option.some.injEq, Prod.mk.injEq] at h
          rw [← h.2.2] at hrd; cases hrd
        · cases h
      · cases h
    · cases h
  | sl id q e off len cap =>
    intro p v' rd md h hrd hr
    simp only [Ab.res] at h
    split at h
    · split at h
      · split at h
        · simp only [Option.some.injEq, Prod.mk.injEq] at h
          rw [← h.2.2] at hrd; cases hrd
        · cases h
      · cases h
    · cases h
  | ptr id q s =>
    intro p v' rd md h hrd hr
    simp only [Ab.res] at h
    split at h
    · split at h
      · simp only [Option.some.injEq, Prod.mk.injEq] at h
        rw [← h.2.2] at hrd; cases hrd
      · cases h
    · cases h
  | cons x t ih1 ih2 =>
    intro p v' rd md h hrd hr
    simp only [Ab.res] at h
    split at h
    · rename_i p1 h1 r1 p2 t1 r2 e1 e2
      simp only [Option.some.injEq, Prod.mk.injEq] at h
      obtain ⟨rfl, rfl, rfl⟩ := h
      obtain ⟨hr1, hr2⟩ := List.append_eq_nil_iff.1 hrd
      cases md with
      | cel s g off => obtain ⟨a, b, q1, q2, q3⟩ := hr; exact ⟨a, b, q1, ih1 e1 hr1 q2, ih2 e2 hr2 q3⟩
      | val v => obtain ⟨cs, a, b, q1, q2, q3, q4⟩ := hr; exact ⟨cs, a, b, q1, q2, ih1 e1 hr1 q3, ih2 e2 hr2 q4⟩
      | list l => obtain ⟨y, ys, q1, q2, q3⟩ := hr; exact ⟨y, ys, q1, ih1 e1 hr1 q2, ih2 e2 hr2 q3⟩
    · cases h
  | tup l ih =>
    intro p v' rd md h hrd hr
    simp only [Ab.res] at h
    split at h
    · rename_i p1 l1 r1 e1
      simp only [Option.some.injEq, Prod.mk.injEq] at h
      obtain ⟨rfl, rfl, rfl⟩ := h
      cases md with
      | val v => obtain ⟨cs, q1, q2⟩ := hr; exact ⟨cs, q1, ih e1 hrd q2⟩
      | cel => exact hr.elim
      | list => exact hr.elim
    · cases h
  | _ => intro p v' rd md h hrd hr; simp only [Ab.res] at h; exact pure h hr

/-! ### Contracts -/
structure CSpec where
  pre : List V → Prop
  res : List V → V
  fresh : Bool := false

/-- Nothing borrowed in it. -/
def own? : V → Bool
  | .ref u _ _ => !u
  | .ro u _ _ _ _ => !u
  | .cons h t => own? h && own? t
  | .arr n f => (List.range n).all fun i => own? (f i)
  | .fn _ c => own? c
  | .tup l => own? l
  | .ptr .. | .row .. | .sl .. => false
  | _ => true

/-- What a call of a function does, whoever calls it: it hands back the tree; nothing that was there has changed. -/
def CSound (P : Program) (f : FuncId) (c : CSpec) : Prop :=
  (∃ fn, P.funcs[f]? = some fn ∧ (fn.name == "runtime.NumGoroutine") = false ∧ fn.body.isNone = false) ∧
  ∀ (C : Ctx) (args : List V) (vals : List Value), (∀ u b, C.ok u b → b < C.w.heap.size) → R C.pur (mkL args) (.list vals) → c.pre args →
    Calls P f vals.toArray C.w fun e w' => Below C.w.heap.size C.w w' ∧ ∃ r, e = .returned r ∧
      R { C.pur with w := w', ok := fun u b => (c.fresh = false ∧ ∃ u', C.ok u' b) ∨ (C.w.heap.size ≤ b ∧ b < w'.heap.size) } (c.res args) (.val r)

/-- Nothing in it that lies in memory. -/
def noRef : V → Bool
  | .ref .. | .ro .. | .ptr .. | .row .. | .sl .. => false
  | .cons h t => noRef h && noRef t
  | .arr n f => (List.range n).all fun i => noRef (f i)
  | .fn _ c => noRef c
  | .tup l => noRef l
  | _ => true

theorem R.noref {C C' : Ctx} (v : V) : ∀ {m : M}, noRef v = true → R C v m → R C' v m := by
  induction v with
  | cons x t ih1 ih2 =>
    intro m hn h
    simp only [noRef, Bool.and_eq_true] at hn
    cases m with
    | cel s g off => obtain ⟨a, b, h1, h2, h3⟩ := h; exact ⟨a, b, h1, ih1 hn.1 h2, ih2 hn.2 h3⟩
    | val v => obtain ⟨cs, a, b, h1, h2, h3, h4⟩ := h; exact ⟨cs, a, b, h1, h2, ih1 hn.1 h3, ih2 hn.2 h4⟩
    | list l => obtain ⟨y, ys, h1, h2, h3⟩ := h; exact ⟨y, ys, h1, ih1 hn.1 h2, ih2 hn.2 h3⟩
  | arr n f ih =>
    intro m hn h
    simp only [noRef, List.all_eq_true, List.mem_range] at hn
    cases m with
    | cel s g off => obtain ⟨e, h1, h2⟩ := h; exact ⟨e, h1, fun i hi => ih i (hn i hi) (h2 i hi)⟩
    | val v => obtain ⟨cs, e, h1, h2, h3⟩ := h; exact ⟨cs, e, h1, h2, fun i hi => ih i (hn i hi) (h3 i hi)⟩
    | list l => exact h
  | fn f cap ih => intro m hn h; obtain ⟨cs, h1, h2⟩ := h; exact ⟨cs, h1, ih hn h2⟩
  | tup l ih =>
    intro m hn h
    cases m with
    | val v => obtain ⟨cs, h1, h2⟩ := h; exact ⟨cs, h1, ih hn h2⟩
    | cel => exact h
    | list => exact h
  | int k n => intro m _ h; exact h
  | bool b => intro m _ h; exact h
  | str s => intro m _ h; exact h
  | nilp => intro m _ h; exact h
  | nils => intro m _ h; exact h
  | nilf => intro m _ h; exact h
  | nl => intro m _ h; cases m <;> exact h
  | unk => intro m _ h; cases m <;> exact h
  | _ => intro m hn; simp [noRef] at hn

/-- All that it holds is held as borrowed. -/
def borrow : V → V
  | .ref _ s c => .ref true s (borrow c)
  | .ro _ clip e len f => .ro true clip e len fun i => borrow (f i)
  | .cons h t => .cons (borrow h) (borrow t)
  | .arr n f => .arr n fun i => borrow (f i)
  | .fn f c => .fn f (borrow c)
  | .tup l => .tup (borrow l)
  | v => v

theorem R.borrow {ok' : Bool → Nat → Prop} (v : V) : ∀ {C : Ctx} {m : M}, (∀ u b, C.ok u b → ok' true b) → R C v m → R { C with ok := ok' } (Ab.borrow v) m := by
  induction v with
  | cons x t ih1 ih2 =>
    intro C m ho h
    cases m with
    | cel s g off => obtain ⟨a, b, h1, h2, h3⟩ := h; exact ⟨a, b, h1, ih1 ho h2, ih2 ho h3⟩
    | val v => obtain ⟨cs, a, b, h1, h2, h3, h4⟩ := h; exact ⟨cs, a, b, h1, h2, ih1 ho h3, ih2 ho h4⟩
    | list l => obtain ⟨y, ys, h1, h2, h3⟩ := h; exact ⟨y, ys, h1, ih1 ho h2, ih2 ho h3⟩
  | arr n f ih =>
    intro C m ho h
    cases m with
    | cel s g off => obtain ⟨e, h1, h2⟩ := h; exact ⟨e, h1, fun i hi => ih i ho (h2 i hi)⟩
    | val v => obtain ⟨cs, e, h1, h2, h3⟩ := h; exact ⟨cs, e, h1, h2, fun i hi => ih i ho (h3 i hi)⟩
    | list l => exact h
  | fn f cap ih => intro C m ho h; obtain ⟨cs, h1, h2⟩ := h; exact ⟨cs, h1, ih ho h2⟩
  | tup l ih =>
    intro C m ho h
    cases m with
    | val v => obtain ⟨cs, h1, h2⟩ := h; exact ⟨cs, h1, ih ho h2⟩
    | cel => exact h
    | list => exact h
  | ref u s c ih => intro C m ho h; obtain ⟨b, o, h1, h2, h3⟩ := h; exact ⟨b, o, h1, ho u b h2, ih (C := C.pur) ho h3⟩
  | ro u clip e len f ih =>
    intro C m ho h
    obtain ⟨a, c, h1, h2, h3, h4⟩ := h
    refine ⟨a, c, h1, h2, h3, h4.imp id ?_⟩
    rintro ⟨b, o, h5, h6, h7⟩
    exact ⟨b, o, h5, ho u b h6, fun i hi => ih i (C := C.pur) ho (h7 i hi)⟩
  | int k n => intro C m _ h; exact h
  | bool b => intro C m _ h; exact h
  | str s => intro C m _ h; exact h
  | nilp => intro C m _ h; exact h
  | nils => intro C m _ h; exact h
  | nilf => intro C m _ h; exact h
  | nl => intro C m _ h; cases m <;> exact h
  | unk => intro C m _ h; cases m <;> exact h
  | ptr id p s => intro C m _ h; exact h
  | row id e n => intro C m _ h; exact h
  | sl id p e off len cap => intro C m _ h; exact h

def appL : List V → V → V
  | [], c => c
  | v :: l, c => .cons v (appL l c)
def unL : V → List V
  | .cons h t => h :: unL t
  | _ => []

theorem R.appL {C : Ctx} {c : V} {cs : List Value} (hc : R C c (.list cs)) : ∀ {l : List V} {vs : List Value}, R C (Ab.mkL l) (.list vs) → R C (Ab.appL l c) (.list (vs ++ cs))
  | [], vs, h => by obtain rfl : vs = [] := h; exact hc
  | v :: l, vs, h => by obtain ⟨x, xs, rfl, h1, h2⟩ := h; exact ⟨x, xs ++ cs, rfl, h1, R.appL hc h2⟩

theorem R.unL {C : Ctx} (v : V) : ∀ {vs : List Value}, R C v (.list vs) → R C (Ab.mkL (Ab.unL v)) (.list vs) := by
  induction v with
  | cons h t _ ih => intro vs hr; obtain ⟨x, xs, rfl, h1, h2⟩ := hr; exact ⟨x, xs, rfl, h1, ih h2⟩
  | nl => intro vs hr; exact hr
  | _ => intro vs hr; simp [RR, M.leaf] at hr

/-- A call of a function whose contract is known. -/
def aCall (c : CSpec) (m : List Blk) (args : V) : Option (Prop × Eff) :=
  match res m args with
  | some (p, l, rd) => if rd.isEmpty || c.fresh || noRef (c.res (unL l)) then
      some (p ∧ c.pre (unL l), ⟨if c.fresh || noRef (c.res (unL l)) then c.res (unL l) else borrow (c.res (unL l)), [], [], rd⟩) else none
  | none => none

theorem sem_call {P : Program} {B : Nat} {o : Oper} {ρ : Operand → V} {m : List Blk} {fo : Operand} {args : Array Operand} {ts : Array TypeId} {f : FuncId} {caps : V} {c : CSpec} {p : Prop} {e : Eff}
    (ho : o.op = .call { callee := .value fo, args := args, argTypes := ts }) (hf : ρ fo = .fn f caps) (hc : CSound P f c) (h : aCall c m (appL (args.toList.map ρ) caps) = some (p, e)) (hp : p) : OpSem P B o ρ (fun id => m[id]?) m.length e := by
  intro C M ρc hs hrd _ _ hrel
  unfold aCall at h
  split at h
  · rename_i p1 l rd hres
    split at h
    · rename_i hcond
      simp only [Option.some.injEq, Prod.mk.injEq] at h
      obtain ⟨rfl, rfl⟩ := h
      have h0 := hrel fo (by simp [ho, Op.operands, Call.operands])
      rw [hf] at h0
      obtain ⟨cs, h1, h2⟩ := h0
      have h1' : ρc fo = .func (.func f) #[] cs := h1
      have h3 := R.appL h2 (R.mkL (C := C) (ρ := ρ) (ρc := ρc) args.toList fun x hx => hrel x (by simp [ho, Op.operands, Call.operands]; exact .inr (by simpa using hx)))
      obtain ⟨⟨fn, hfn, hname, hbody⟩, hcall⟩ := hc
      have hrun : (execOp ρc o).run P C.w = .ok (.enter f (args.toList.map ρc ++ cs.toList).toArray) C.w := by
        have hn : fn.body.isNone = false := hbody
        simp only [execOp, ho, resolve, h1', Deferred.ofValue, Sem.run_bind, Sem.run_pure, Result.andThen_ok, invoke, callFunc, run_program, hfn, hname, hbody, Bool.false_eq_true, if_false]
        simp
      let ok' : World → Bool → Nat → Prop := fun w' u b => (C.ok u b ∨ (u = true ∧ C.ok false b)) ∨ (C.w.heap.size ≤ b ∧ b < w'.heap.size)
      unfold Does
      rw [hrun]
      by_cases hrd0 : rd = []
      · have h5 := R.unL l (R.res0 _ hres hrd0 h3)
        refine (hcall C.pur (Ab.unL l) _ hs.okLt h5 hp.2).mono fun e' w' ⟨hb, r, he, hr⟩ => ⟨r, he, ?_⟩
        have hb' : Below C.w.heap.size C.w w' := hb
        obtain ⟨hs2, hk2⟩ := hs.grown hb' (ok' w') (fun u b h => .inl (.inl h)) (fun u b h => h)
        refine ⟨{ C with w := w', ok := ok' w' }, rfl, ?_, hk2, by rw [put_pure]; exact hs2, fun id h => .inl h⟩
        split
        · rename_i h7
          simp only [Bool.or_eq_true] at h7
          rcases h7 with h7 | h7
          · refine R.keep (C := { C.pur.pur with w := w', ok := _ }) (C' := { C with w := w', ok := ok' w' }) ⟨fun _ h => h.elim, fun _ h => h.elim, fun _ h => h.elim, ?_, fun _ _ _ => rfl⟩ _ _ hr
            intro u b hb2
            rcases hb2 with ⟨h8, _⟩ | h8
            · rw [h7] at h8; cases h8
            · exact .inr h8
          · exact R.noref _ h7 hr
        · have h8 := R.borrow (ok' := ok' w') _ (C := { C.pur.pur with w := w', ok := _ }) ?_ hr
          · exact R.keep (C := { C.pur.pur with w := w', ok := ok' w' }) (C' := { C with w := w', ok := ok' w' }) ⟨fun _ h => h.elim, fun _ h => h.elim, fun _ h => h.elim, fun _ _ h => h, fun _ _ _ => rfl⟩ _ _ h8
          · intro u b hb2
            rcases hb2 with ⟨_, u', h9⟩ | h9
            · cases u'
              · exact .inl (.inr ⟨rfl, h9⟩)
              · exact .inl (.inl h9)
            · exact .inr h9
      · have h5 := R.unL l (R.res hs (m := m) _ hres hp.1 hrd h3)
        refine (hcall (C.opened B) (Ab.unL l) _ (by
          intro u b hb
          rcases hb with hb | hb
          · exact hs.okLt u b hb
          · exact hb.2) h5 hp.2).mono fun e' w' ⟨hb, r, he, hr⟩ => ⟨r, he, ?_⟩
        have hb' : Below C.w.heap.size C.w w' := hb
        obtain ⟨hs2, hk2⟩ := hs.grown hb' (ok' w') (fun u b h => .inl (.inl h)) (fun u b h => h)
        refine ⟨{ C with w := w', ok := ok' w' }, rfl, ?_, hk2, by rw [put_pure]; exact hs2, fun id h => .inl h⟩
        have hcond' : (c.fresh || noRef (c.res (Ab.unL l))) = true := by
          simp only [Bool.or_eq_true, List.isEmpty_iff] at hcond ⊢
          rcases hcond with (h9 | h9) | h9
          · exact absurd h9 hrd0
          · exact .inl h9
          · exact .inr h9
        rw [if_pos hcond']
        simp only [Bool.or_eq_true] at hcond'
        rcases hcond' with h7 | h7
        · refine R.keep (C := { (C.opened B).pur with w := w', ok := _ }) (C' := { C with w := w', ok := ok' w' }) ⟨fun _ h => h.elim, fun _ h => h.elim, fun _ h => h.elim, ?_, fun _ _ _ => rfl⟩ _ _ hr
          intro u b hb2
          rcases hb2 with ⟨h8, _⟩ | h8
          · rw [h7] at h8; cases h8
          · exact .inr h8
        · exact R.noref _ h7 hr
    · cases h
  · cases h

end Go.Ab
