/- Single operations: what each does to trees, and that the model does the same. No condition. -/
import Derived.Test.YtkjoldifiniliaaB5
set_option linter.unusedVariables false
set_option linter.unusedSimpArgs false
namespace Go.Ab
open Go.RowKit
variable [Gl]

def V.ofVal : Value → V
  | .int k n => .int k n
  | .bool b => .bool b
  | .string s => .str s
  | .pointer none => .nilp
  | .slice none 0 0 => .nils
  | .nilFunc => .nilf
  | _ => .unk

omit [Gl] in
theorem R.ofVal (C : Ctx) (v : Value) : R C (V.ofVal v) (.val v) := by
  unfold V.ofVal
  split <;> first
    | rfl
    | exact trivial

omit [Gl] in
/-- A scalar that is known, at its place. -/
theorem R.ofVal_at (C : Ctx) {v : Value} {g : Nat → Option Value} {o : Nat} (h : g o = some v) (h1 : v.oneCell' = true) : R C (V.ofVal v) (.cel .sc g o) := by
  unfold V.ofVal
  split <;> first
    | exact ⟨rfl, h⟩
    | exact ⟨rfl, _, h, h1⟩

/-- The zero of a type. -/
def ztree (P : Program) : Nat → TypeId → V
  | 0, _ => .unk
  | d + 1, t => match P.underlying t with
    | some (.struct fs) => fs.toList.foldr (fun f acc => .cons (ztree P d f.type) acc) .nl
    | some (.array n e) => .arr n fun _ => ztree P d e
    | _ => match P.info? t with
      | some i => match i.zero with
        | some z => V.ofVal z
        | none => .unk
      | none => .unk

/-- Do these cells hold this tree? -/
def V.held : V → Shape → (Nat → Option Value) → Nat → Bool
  | .int k n, .sc, g, o => match g o with | some (.int k' n') => k == k' && n == n' | _ => false
  | .bool b, .sc, g, o => match g o with | some (.bool b') => b == b' | _ => false
  | .str s, .sc, g, o => match g o with | some (.string s') => s.data.toList == s'.data.toList | _ => false
  | .nilp, .sc, g, o => match g o with | some (.pointer none) => true | _ => false
  | .nils, .sc, g, o => match g o with | some (.slice none 0 0) => true | _ => false
  | .nilf, .sc, g, o => match g o with | some .nilFunc => true | _ => false
  | .unk, .sc, g, o => match g o with | some v => v.oneCell' | _ => false
  | .nl, .nl, _, _ => true
  | .cons h t, .cons a b, g, o => h.held a g o && t.held b g (o + a.size)
  | .arr n f, .arr m e, g, o => n == m && (List.range n).all fun i => (f i).held e g (o + i * e.size)
  | _, _, _, _ => false

omit [Gl] in
theorem R.held {C : Ctx} (v : V) : ∀ {s : Shape} {g : Nat → Option Value} {o : Nat}, v.held s g o = true → R C v (.cel s g o) := by
  induction v with
  | nl => intro s g o h; cases s <;> simp [V.held] at h; rfl
  | cons x t ih1 ih2 =>
    intro s g o h
    cases s <;> simp [V.held] at h
    exact ⟨_, _, rfl, ih1 h.1, ih2 h.2⟩
  | arr n f ih =>
    intro s g o h
    cases s <;> simp [V.held] at h
    obtain ⟨rfl, h⟩ := h
    exact ⟨_, rfl, fun i hi => ih i (h i hi)⟩
  | int k n =>
    intro s g o h
    cases s <;> simp only [V.held] at h <;> (try (simp at h; done))
    split at h
    · rename_i k' n' hg; simp at h; obtain ⟨rfl, rfl⟩ := h; exact ⟨rfl, hg⟩
    · cases h
  | bool b =>
    intro s g o h
    cases s <;> simp only [V.held] at h <;> (try (simp at h; done))
    split at h
    · rename_i b' hg; simp at h; subst h; exact ⟨rfl, hg⟩
    · cases h
  | str x =>
    intro s g o h
    cases s <;> simp only [V.held] at h <;> (try (simp at h; done))
    split at h
    · rename_i y hg
      have : x = y := by
        obtain ⟨⟨a⟩⟩ := x; obtain ⟨⟨b⟩⟩ := y
        simp at h; simp [h]
      subst this; exact ⟨rfl, hg⟩
    · cases h
  | nilp =>
    intro s g o h
    cases s <;> simp only [V.held] at h <;> (try (simp at h; done))
    split at h
    · exact ⟨rfl, ‹_›⟩
    · cases h
  | nils =>
    intro s g o h
    cases s <;> simp only [V.held] at h <;> (try (simp at h; done))
    split at h
    · exact ⟨rfl, ‹_›⟩
    · cases h
  | nilf =>
    intro s g o h
    cases s <;> simp only [V.held] at h <;> (try (simp at h; done))
    split at h
    · exact ⟨rfl, ‹_›⟩
    · cases h
  | unk =>
    intro s g o h
    cases s <;> simp only [V.held] at h <;> (try (simp at h; done))
    split at h
    · exact ⟨rfl, _, ‹_›, h⟩
    · cases h
  | _ => intro s g o h; cases s <;> simp [V.held] at h

/-- The zero of a type, if the table bears it out. -/
def zero? (P : Program) (t : TypeId) : Option (Shape × V) :=
  match tshape P t, P.info? t with
  | some s, some i => match i.zero with
    | some z => if z.cells.size = s.size ∧ (ztree P 12 t).held s (fun j => z.cells[j]?) 0 = true then some (s, ztree P 12 t) else none
    | none => none
  | _, _ => none

omit [Gl] in
theorem zero?_spec {P : Program} {t : TypeId} {s : Shape} {v : V} (h : zero? P t = some (s, v)) :
    tshape P t = some s ∧ ∃ z, (∀ w, (zeroValue t).run P w = .ok z w) ∧ z.cells.size = s.size ∧ ∀ C, R C v (.cel s (fun j => z.cells[j]?) 0) := by
  unfold zero? at h
  split at h
  · rename_i s' i h1 h2
    split at h
    · rename_i z hz
      split at h
      · rename_i hc
        simp only [Option.some.injEq, Prod.mk.injEq] at h
        obtain ⟨rfl, rfl⟩ := h
        exact ⟨h1, z, fun w => by simp [zeroValue, typeInfo, h2, hz], hc.1, fun C => R.held _ hc.2⟩
      · cases h
    · cases h
  · cases h

/-! ### The operations -/

variable {P : Program} {B : Nat} {o : Oper} {ρ : Operand → V} {m : Mem} {n : Nat}

theorem sem_move {x : Operand} (ho : o.op = .move x ∨ o.op = .assign x) : OpSem P B o ρ m n (pureE (ρ x)) :=
  OpSem.pure fun C M ρc _ _ hx => ⟨ρc x, by rcases ho with ho | ho <;> simp [execOp, ho], hx x (by rcases ho with ho | ho <;> simp [ho, Op.operands])⟩

theorem sem_pick {c a b : Operand} {t : Bool} (ho : o.op = .pick c a b) (hc : ρ c = .bool t) : OpSem P B o ρ m n (pureE (V.ite t (ρ a) (ρ b))) :=
  OpSem.pure fun C M ρc _ _ hx => by
    have h0 := hx c (by simp [ho, Op.operands])
    rw [hc] at h0
    have h0' : ρc c = .bool t := h0
    refine ⟨if t then ρc a else ρc b, by simp [execOp, ho, h0', asBool], ?_⟩
    rw [V.ite_eq]
    cases t
    · exact hx b (by simp [ho, Op.operands])
    · exact hx a (by simp [ho, Op.operands])

/-- A new variable. -/
theorem does_new {C : Ctx} {M : Mem} {cs : Array Value} {t : TypeId} {s : Shape} {v : V} {op : Sem Next} (hs : SR B C M) (hn : ¬ C.al n)
    (hrun : op.run P C.w = .ok (.value (.pointer (some ⟨C.w.heap.size, 0, none⟩))) (C.w.alloc (.cells cs t))) (hz : cs.size = s.size) (hv : R C v (.cel s (fun i => cs[i]?) 0)) :
    Does P op C.w (Post B C (upd M n (some ⟨.box, s, v⟩)) (fun id => n ≤ id ∧ id < n + 1) (.ptr n [] s)) := by
  unfold Does
  rw [hrun]
  obtain ⟨h1, h2⟩ := hs.alloc hn cs t ⟨.box, s, v⟩ (.pointer (some ⟨C.w.heap.size, 0, none⟩)) rfl (by
    intro C' hk h3 h4 h5
    exact ⟨C.w.heap.size, cs, t, h3, hs.base, by rw [h5]; exact heap_alloc_new C.w _, h4, hz, R.keep hk _ _ hv⟩)
  refine ⟨_, rfl, ⟨Or.inr rfl, C.w.heap.size, 0, by simp [blk?], by simp [Shape.path], rfl⟩, h2, h1, fun id h => ?_⟩
  rcases h with h | h
  · exact .inl h
  · exact .inr ⟨by omega, by omega⟩

theorem sem_alloc {t : TypeId} {s : Shape} {z : V} (ho : o.op = .alloc t) (hz : zero? P t = some (s, z)) : OpSem P B o ρ m n ⟨.ptr n [] s, [], [⟨.box, s, z⟩], []⟩ := by
  intro C M ρc hs _ _ hn _
  obtain ⟨_, zv, h1, h2, h3⟩ := zero?_spec hz
  rw [put_new]
  refine does_new hs (by simpa using hn 0 (by simp)) (cs := zv.cells) (t := t) ?_ h2 (h3 C)
  simp [execOp, ho, Instr.alloc, h1, newVar, newRow]

theorem sem_box {t : TypeId} {x : Operand} {s : Shape} (ho : o.op = .box t x) (hf : (ρ x).fits s = true) (hk : (ρ x).known = true) : OpSem P B o ρ m n ⟨.ptr n [] s, [], [⟨.box, s, ρ x⟩], []⟩ := by
  intro C M ρc hs _ _ hn hx
  obtain ⟨h1, h2, _⟩ := R.cells_of (hx x (by simp [ho, Op.operands])) hf hk
  rw [put_new]
  refine does_new hs (by simpa using hn 0 (by simp)) (cs := (ρc x).cells) (t := t) ?_ h1 h2
  simp [execOp, ho, Instr.box, newVar, newRow]

omit [Gl] in
/-- The cells of a block of the function's own. -/
theorem BR.at {C : Ctx} {id : Nat} {blk : Blk} {b d : Nat} {p : List Step} {t : Shape} (h : BR B C id blk) (ha : blk.alive = true) (hb : blk? (C.sv id) = some b) (hp : Shape.path p (C.shp id) = some (d, t)) :
    R C (blk.v.path p) (.cel t (cg C.w b) d) ∧ C.shp id = blk.sh := by
  unfold BR at h; unfold Blk.alive at ha
  cases hkd : blk.k <;> simp only [hkd] at h ha
  · obtain ⟨g, cur, e, h1, h2, h3, h4, h5, h6⟩ := h
    rw [h1] at hb; simp only [blk?, Option.some.injEq] at hb; subst hb
    rw [h4] at hp
    have h7 := R.path p h6 hp
    rw [Nat.zero_add] at h7
    refine ⟨?_, h4⟩
    have : (fun i => cur[i]?) = cg C.w g := by funext i; exact (cell_of_row C.w g i cur e (0, 0) h3).symm
    rw [← this]; exact h7
  · obtain ⟨n, s, cells, h1, h2, h3, h4⟩ := h
    rw [h1] at hp
    have h7 := R.path p h4 hp
    rw [Nat.zero_add] at h7
    refine ⟨?_, h1⟩
    refine R.shift _ h7 fun k hk => ?_
    have hle := Shape.path_le p _ hp
    rcases h3.2 with ⟨h8, _⟩ | ⟨g, cap, cur, hv, hg, hh, hnc, _, hcs, htake⟩
    · rw [h8] at hb; simp [blk?] at hb
    · rw [hv] at hb; simp only [blk?, Option.some.injEq] at hb; subst hb
      show C.w.cell? ⟨g, d + k, none⟩ = cells[d + k]?
      rw [cell_of_row C.w g (d + k) cur _ (0, 0) hh, ← htake, List.getElem?_take]
      rw [h2] at hle
      simp only [Shape.size] at hle
      rw [if_pos (by omega)]
      simp
  · simp at ha

theorem sem_load {t : TypeId} {x : Operand} {id : Nat} {p : List Step} {blk : Blk} {s : Shape} {d : TypeDesc} (ho : o.op = .load t x) (hx : ρ x = .ptr id p s) (hm : m id = some blk) (ha : blk.alive = true)
    (ht : tshape P t = some s) (hu : P.underlying t = some d) : OpSem P B o ρ m n ⟨blk.v.path p, [], [], [id]⟩ :=
  OpSem.pure fun C M ρc hs hr hrel => by
    have h0 := hrel x (by simp [ho, Op.operands])
    rw [hx] at h0
    obtain ⟨hal, b, off, h1, h2, h3⟩ := h0
    have h3' : ρc x = .pointer (some ⟨b, off, none⟩) := h3
    have hM : M id = some blk := by rw [hr id (by simp), hm]
    obtain ⟨h4, h5⟩ := BR.at (hs.mem id blk hM) ha h1 h2
    obtain ⟨val, h6, h7⟩ := run_loadVar_tree ht hu h4
    exact ⟨val, by simp [execOp, ho, h3', Instr.loadAt, Instr.sureAddr, h6], h7⟩

theorem sem_load_ref {t : TypeId} {x : Operand} {u : Bool} {c : V} {s : Shape} {d : TypeDesc} (ho : o.op = .load t x) (hx : ρ x = .ref u s c) (ht : tshape P t = some s) (hu : P.underlying t = some d) : OpSem P B o ρ m n (pureE c) :=
  OpSem.pure fun C M ρc hs hr hrel => by
    have h0 := hrel x (by simp [ho, Op.operands])
    rw [hx] at h0
    obtain ⟨b, off, h1, h2, h3⟩ := h0
    have h1' : ρc x = .pointer (some ⟨b, off, none⟩) := h1
    obtain ⟨val, h6, h7⟩ := run_loadVar_tree (C := C.pur) ht hu h3
    exact ⟨val, by simp only [Ctx.pur] at h6; simp [execOp, ho, h1', Instr.loadAt, Instr.sureAddr, h6], R.keep (Keep.of_pur C) _ _ h7⟩

omit [Gl] in
theorem size_take_drop (cur : Array Value) (o : Nat) (vs : List Value) (h : o + vs.length ≤ cur.size) : (cur.toList.take o ++ vs ++ cur.toList.drop (o + vs.length)).length = cur.size := by
  simp; omega
omit [Gl] in
theorem get_splice (cur : Array Value) (o : Nat) (vs : List Value) (h : o + vs.length ≤ cur.size) (j : Nat) :
    (cur.toList.take o ++ vs ++ cur.toList.drop (o + vs.length))[j]? = if o ≤ j ∧ j < o + vs.length then vs[j - o]? else cur[j]? := by
  have hlen : (cur.toList.take o).length = o := by simp; omega
  rw [List.append_assoc, List.getElem?_append]
  by_cases h1 : j < o
  · rw [hlen, if_pos h1, if_neg (by omega), List.getElem?_take, if_pos h1]; simp
  · rw [hlen, if_neg h1, List.getElem?_append]
    by_cases h2 : j < o + vs.length
    · rw [if_pos (by omega), if_pos ⟨by omega, h2⟩]
    · rw [if_neg (by omega), if_neg (by omega), List.getElem?_drop]
      rw [show o + vs.length + (j - o - vs.length) = j by omega]; simp

/-- A store into a block of the function's own. -/
theorem does_store {C : Ctx} {M : Mem} {id : Nat} {blk : Blk} {p : List Step} {x : V} {val : Value} {b d : Nat} {t : Shape} {op : Sem Next} (hs : SR B C M) (hm : M id = some blk) (ha : blk.alive = true)
    (hb : blk? (C.sv id) = some b) (hp : Shape.path p (C.shp id) = some (d, t)) (hx : R C x (.val val)) (hf : x.fits t = true) (hk : x.known = true)
    (hrun : ∀ w', (storeCells ⟨b, d, none⟩ val.cells.toList).run P C.w = .ok () w' → op.run P C.w = .ok .skip w') :
    Does P op C.w (Post B C (upd M id (some ⟨blk.k, blk.sh, V.set p x blk.v⟩)) (fun i => n ≤ i ∧ i < n + 0) (.tup .nl)) := by
  obtain ⟨hz, hcx, h1⟩ := R.cells_of hx hf hk
  have hbr := hs.mem id blk hm
  have hle := Shape.path_le p _ hp
  have hvl : val.cells.toList.length = t.size := by simpa using hz
  -- the row that is written
  have key : ∃ cur e, C.w.heap[b]? = some (.cells cur e (0, 0)) ∧ d + t.size ≤ cur.size ∧
      ∀ C' : Ctx, Keep C C' → C'.sv id = C.sv id → C'.shp id = C.shp id → C'.w = C.w.setRow b (cur.toList.take d ++ val.cells.toList ++ cur.toList.drop (d + val.cells.toList.length)).toArray →
        BR B C' id ⟨blk.k, blk.sh, V.set p x blk.v⟩ := by
    unfold BR at hbr; unfold Blk.alive at ha
    cases hkd : blk.k <;> simp only [hkd] at hbr ha
    · obtain ⟨g, cur, e, h2, h3, h4, h5, h6, h7⟩ := hbr
      rw [h2] at hb; simp only [blk?, Option.some.injEq] at hb; subst hb
      rw [h5] at hp hle
      refine ⟨cur, e, h4, by omega, fun C' hk' e1 e2 e3 => ?_⟩
      show BR B C' id ⟨.box, blk.sh, _⟩
      refine ⟨g, _, e, by rw [e1]; exact h2, h3, by rw [e3]; exact setRow_heap C.w g cur _ e _ h4, by rw [e2]; exact h5, ?_, ?_⟩
      · rw [List.size_toArray, size_take_drop _ _ _ (by rw [hvl]; omega)]; exact h6
      · refine R.set p (R.keep hk' _ _ h7) hp ?_ ?_
        · intro j hj
          simp only [List.getElem?_toArray, Nat.zero_add] at hj ⊢
          rw [get_splice _ _ _ (by rw [hvl]; omega), hvl, if_neg hj]
        · refine R.shift x (R.keep hk' _ _ hcx) fun k hk2 => ?_
          simp only [List.getElem?_toArray]
          rw [get_splice _ _ _ (by rw [hvl]; omega), hvl, if_pos (by omega)]
          rw [show 0 + d + k - d = 0 + k by omega]; simp
    · obtain ⟨n1, s1, cells, h2, h3, h4, h5⟩ := hbr
      rw [h2] at hp hle
      obtain ⟨h40, h4⟩ := h4
      rcases h4 with ⟨h8, _⟩ | ⟨g, cap, cur, hv, hg, hh, hnc, hcm, hcs, htake⟩
      · rw [h8] at hb; simp [blk?] at hb
      · rw [hv] at hb; simp only [blk?, Option.some.injEq] at hb; subst hb
        rename_i e
        have hsz : blk.sh.size = n1 * s1.size := by rw [h3]; rfl
        have hcz : n1 * s1.size ≤ cur.size := by rw [hcs]; exact Nat.mul_le_mul_right _ hnc
        refine ⟨cur, e, hh, by omega, fun C' hk' e1 e2 e3 => ?_⟩
        show BR B C' id ⟨.row e, blk.sh, _⟩
        refine ⟨n1, s1, (cur.toList.take d ++ val.cells.toList ++ cur.toList.drop (d + val.cells.toList.length)).take (n1 * s1.size), by rw [e2]; exact h2, h3, ⟨?_, .inr ⟨g, cap, _, by rw [e1]; exact hv, hg, by rw [e3]; exact setRow_heap C.w g cur _ e _ hh, hnc, hcm, ?_, ?_⟩⟩, ?_⟩
        · rw [List.length_take, size_take_drop _ _ _ (by rw [hvl]; omega)]; omega
        · rw [List.size_toArray, size_take_drop _ _ _ (by rw [hvl]; omega)]; exact hcs
        · rfl
        · have hcell : ∀ j, j < n1 * s1.size → cells[j]? = cur[j]? := by
            intro j hj; rw [← htake, List.getElem?_take, if_pos hj]; simp
          refine R.set p (R.keep hk' _ _ h5) hp ?_ ?_
          · intro j hj
            simp only [Nat.zero_add] at hj ⊢
            by_cases hj2 : j < n1 * s1.size
            · rw [List.getElem?_take, if_pos hj2, get_splice _ _ _ (by rw [hvl]; omega), hvl, if_neg hj, hcell j hj2]
            · rw [List.getElem?_take, if_neg hj2, ← htake, List.getElem?_take, if_neg hj2]
          · refine R.shift x (R.keep hk' _ _ hcx) fun k hk2 => ?_
            rw [List.getElem?_take, if_pos (by omega), get_splice _ _ _ (by rw [hvl]; omega), hvl, if_pos (by omega)]
            rw [show 0 + d + k - d = 0 + k by omega]; simp
    · simp at ha
  obtain ⟨cur, e, hh, hfit, hbr'⟩ := key
  have hrun' := run_storeCells_at P b d e val.cells.toList 0 cur C.w hh (by rw [hvl]; omega) h1
  simp only [Nat.add_zero] at hrun'
  obtain ⟨h2, h3⟩ := hs.write hm ha hb _ hbr'
  unfold Does
  rw [hrun _ hrun']
  exact ⟨_, rfl, ⟨#[], rfl, rfl⟩, h3, h2, fun i hi => .inl hi⟩

theorem sem_store {t : TypeId} {a x : Operand} {id : Nat} {p : List Step} {blk : Blk} {s : Shape} (ho : o.op = .store t a x) (hx : ρ a = .ptr id p s) (hm : m id = some blk) (ha : blk.alive = true)
    (ht : tshape P t = some s) (hf : (ρ x).fits s = true) (hk : (ρ x).known = true) : OpSem P B o ρ m n ⟨.tup .nl, [(id, ⟨blk.k, blk.sh, V.set p (ρ x) blk.v⟩)], [], []⟩ := by
  intro C M ρc hs _ hup _ hrel
  have h0 := hrel a (by simp [ho, Op.operands])
  have hv := hrel x (by simp [ho, Op.operands])
  rw [hx] at h0
  obtain ⟨hal, b, off, h1, h2, h3⟩ := h0
  have h3' : ρc a = .pointer (some ⟨b, off, none⟩) := h3
  have hM : M id = some blk := (hup _ (List.mem_singleton.2 rfl)).trans hm
  rw [put_up]
  refine does_store hs hM ha h1 h2 hv hf hk fun w' hw' => ?_
  obtain ⟨i, hi, hsz, _⟩ := tshape_size ht
  obtain ⟨hz, _, _⟩ := R.cells_of hv hf hk
  simp [execOp, ho, h3', Instr.storeAt, Instr.sureAddr, storeVar, run_sizeOf' hi, hsz, hz, hw']

end Go.Ab
