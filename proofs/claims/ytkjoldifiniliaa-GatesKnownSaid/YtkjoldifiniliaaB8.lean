/- Single operations: what is put together of parts; equality; slices. No condition. -/
import Derived.Test.YtkjoldifiniliaaB7
import Derived.Great.BuildSlice
set_option linter.unusedVariables false
set_option linter.unusedSimpArgs false
namespace Go.Ab
open Go.RowKit
variable [Gl]

variable {P : Program} {B : Nat} {o : Oper} {ρ : Operand → V} {m : Mem} {n : Nat}

def bstep (st : Bool) (i : Nat) : Step := if st then .fld i else .idx i
def bset (st : Bool) : V → List (Nat × V) → V
  | v, [] => v
  | v, (i, x) :: r => bset st (V.set [bstep st i] x v) r
def bok (s : Shape) (st : Bool) (pl : Nat → Option (Nat × Nat)) : List (Nat × V) → Bool
  | [] => true
  | (i, x) :: r => (match s.step (bstep st i) with
      | some (d, t) => pl i == some (d, t.size) && x.fits t && x.known
      | none => false) && bok s st pl r

omit [Gl] in
theorem fill_ok {C : Ctx} {s : Shape} {st : Bool} {pl : Nat → Option (Nat × Nat)} {ρc : Operand → Value} : ∀ (ps : List (Nat × Operand)) (v : V) (cells : Array Value),
    R C v (.cel s (fun i => cells[i]?) 0) → cells.size = s.size → bok s st pl (ps.map fun x => (x.1, ρ x.2)) = true → (∀ x ∈ ps, R C (ρ x.2) (.val (ρc x.2))) →
    ∃ cells', Instr.fill pl cells (ps.map fun x => (x.1, ρc x.2)) = some cells' ∧ cells'.size = s.size ∧ R C (bset st v (ps.map fun x => (x.1, ρ x.2))) (.cel s (fun i => cells'[i]?) 0)
  | [], v, cells, h, hz, _, _ => ⟨cells, rfl, hz, h⟩
  | (i, x) :: ps, v, cells, h, hz, hb, hr => by
    simp only [List.map_cons, bok, Bool.and_eq_true] at hb
    obtain ⟨hb1, hb2⟩ := hb
    split at hb1
    · rename_i d t hst
      simp only [Bool.and_eq_true, beq_iff_eq] at hb1
      obtain ⟨⟨h1, h2⟩, h3⟩ := hb1
      obtain ⟨h4, h5, _⟩ := R.cells_of (hr (i, x) (by simp)) h2 h3
      have hle := Shape.step_le hst
      obtain ⟨f1, f2⟩ := Great.foldl_set d (ρc x).cells.toList 0 cells
      have hlist : ∀ (cs : Array Value), (ρc x).cells.zipIdx.foldl (fun cs (c, j) => cs.setIfInBounds (d + j) c) cs = ((ρc x).cells.toList.zipIdx 0).foldl (fun cs (y : Value × Nat) => cs.setIfInBounds (d + y.2) y.1) cs := by
        intro cs
        rw [← Array.foldl_toList, Array.toList_zipIdx]
      have hR : R C (V.set [bstep st i] (ρ x) v) (.cel s (fun k => (((ρc x).cells.toList.zipIdx 0).foldl (fun cs (y : Value × Nat) => cs.setIfInBounds (d + y.2) y.1) cells)[k]?) 0) := by
        refine R.set [bstep st i] (d := d) (t := t) h (by simp [Shape.path, hst]) ?_ ?_
        · intro j hj
          simp only [Nat.zero_add] at hj
          show (((ρc x).cells.toList.zipIdx 0).foldl (fun cs (y : Value × Nat) => cs.setIfInBounds (d + y.2) y.1) cells)[j]? = cells[j]?
          rw [f2 j, if_neg]
          simp only [Array.length_toList, h4]; omega
        · refine R.shift _ h5 fun k hk => ?_
          show (((ρc x).cells.toList.zipIdx 0).foldl (fun cs (y : Value × Nat) => cs.setIfInBounds (d + y.2) y.1) cells)[0 + d + k]? = (ρc x).cells[0 + k]?
          rw [f2, if_pos (by simp only [Array.length_toList, h4]; omega)]
          rw [show 0 + d + k - (d + 0) = 0 + k by omega]; simp
      obtain ⟨cells', e1, e2, e3⟩ := fill_ok ps _ _ hR (by rw [f1]; exact hz) hb2 (fun y hy => hr y (by simp [hy]))
      refine ⟨cells', ?_, e2, e3⟩
      simp only [List.map_cons, Instr.fill, h1]
      rw [if_neg (by simp only [ne_eq, h4, not_true_eq_false, decide_false, Bool.false_or, decide_eq_true_eq]; omega), hlist]
      exact e1
    · cases hb1

/-- Where the parts of a struct, or of an array, go. -/
def places (P : Program) (t : TypeId) : Option (Bool × (Nat → Option (Nat × Nat))) :=
  match P.underlying t with
  | some (.array _ e) => (P.info? e).map fun ie => (false, fun i => some (i * ie.size, ie.size))
  | some (.struct fields) => (fields.toList.mapM (fun f => (P.info? f.type).map fun i => (f.offset, i.size))).map fun l => (true, fun i => l.toArray[i]?)
  | _ => none

theorem sem_build {t : TypeId} {parts : Array (Nat × Operand)} {s : Shape} {z : V} {st : Bool} {pl : Nat → Option (Nat × Nat)} (ho : o.op = .build t parts) (hz : zero? P t = some (s, z)) (hp : places P t = some (st, pl))
    (hb : bok s st pl (parts.toList.map fun x => (x.1, ρ x.2)) = true) : OpSem P B o ρ m n (pureE (bset st z (parts.toList.map fun x => (x.1, ρ x.2)))) :=
  OpSem.pure fun C M ρc _ _ hrel => by
    have hz' := hz
    unfold zero? at hz
    split at hz
    · rename_i s' i h1 h2
      split at hz
      · rename_i zv hzv
        split at hz
        · rename_i hc
          simp only [Option.some.injEq, Prod.mk.injEq] at hz
          obtain ⟨rfl, rfl⟩ := hz
          obtain ⟨cells', e1, e2, e3⟩ := fill_ok (ρ := ρ) (ρc := ρc) (C := C) parts.toList _ zv.cells (R.held _ hc.2) hc.1 hb (fun x hx => hrel x.2 (by simp [ho, Op.operands]; exact ⟨x.1, by simpa using hx⟩))
          have hbuilt : P.built t (parts.map fun (i, x) => (i, ρc x)).toList = some cells' := by
            unfold Program.built
            unfold places at hp
            have : (parts.map fun (i, x) => (i, ρc x)).toList = parts.toList.map fun x => (x.1, ρc x.2) := by simp
            rw [this]
            cases hu : P.underlying t with
            | none => rw [hu] at hp; simp at hp
            | some d =>
              rw [hu] at hp
              cases d <;> simp at hp
              · obtain ⟨ie, hie, rfl, rfl⟩ := hp
                simp only [h2, hzv, hie]; exact e1
              · obtain ⟨l, hl, rfl, rfl⟩ := hp
                simp only [h2, hzv, hl]; simpa using e1
          have hns : s' ≠ .sc := by
            intro hsc
            unfold places at hp
            obtain ⟨_, _, _, hag⟩ := tshape_size h1
            rw [hsc] at hag
            unfold agg? at hag
            cases hu : P.underlying t with
            | none => rw [hu] at hp; simp at hp
            | some d => rw [hu] at hp hag; cases d <;> simp [Shape.isSc] at hp hag
          exact ⟨.agg cells', by simp [execOp, ho, run_build C.w t _ _ hbuilt], R.agg_val e3 hns e2⟩
        · cases hz
      · cases hz
    · cases hz

/-- A new slice of the function's own. -/
theorem does_newrow {C : Ctx} {M : Mem} {cs : Array Value} {t : TypeId} {e : Shape} {len cap : Nat} {f : Nat → V} {op : Sem Next} (hs : SR B C M) (hn : ¬ C.al n)
    (hrun : op.run P C.w = .ok (.value (.slice (some ⟨C.w.heap.size, 0, none⟩) len cap)) (C.w.alloc (.cells cs t))) (hz : cs.size = cap * e.size) (hlc : len ≤ cap) (hm : cap ≤ maxLen) (hv : R C (.arr len f) (.cel (.arr len e) (fun i => cs[i]?) 0)) :
    Does P op C.w (Post B C (upd M n (some ⟨.row t, .arr len e, .arr len f⟩)) (fun id => n ≤ id ∧ id < n + 1) (.row n e len)) := by
  unfold Does
  rw [hrun]
  obtain ⟨h1, h2⟩ := hs.alloc hn cs t ⟨.row t, .arr len e, .arr len f⟩ (.slice (some ⟨C.w.heap.size, 0, none⟩) len cap) rfl (by
    intro C' hk h3 h4 h5
    refine ⟨len, e, cs.toList.take (len * e.size), h4, rfl, ⟨?_, .inr ⟨C.w.heap.size, cap, cs, h3, hs.base, by rw [h5]; exact heap_alloc_new C.w _, hlc, hm, hz, rfl⟩⟩, ?_⟩
    · rw [List.length_take, Array.length_toList, hz]
      exact Nat.min_eq_left (Nat.mul_le_mul_right _ hlc)
    · refine R.shift _ (R.keep hk _ _ hv) fun k hk2 => ?_
      simp only [Shape.size] at hk2
      simp only [Nat.zero_add, List.getElem?_take, if_pos hk2]; simp)
  refine ⟨_, rfl, ⟨Or.inr rfl, ⟨some ⟨C.w.heap.size, 0, none⟩, cap, by simp⟩, by simp, by simp [Ab.M.leaf]⟩, h2, h1, fun id h => ?_⟩
  rcases h with h | h
  · exact .inl h
  · exact .inr ⟨by omega, by omega⟩

omit [Gl] in
theorem zero_cells {C : Ctx} {s : Shape} {z : V} {zc : Array Value} (h : R C z (.cel s (fun i => zc[i]?) 0)) (hz : zc.size = s.size) (len : Nat) :
    R C (.arr len fun _ => z) (.cel (.arr len s) (fun i => ((Array.range (len * s.size)).map (fun x => zc[x % zc.size]!))[i]?) 0) := by
  refine ⟨s, rfl, fun i hi => R.shift z h fun k hk => ?_⟩
  have hlt : i * s.size + k < len * s.size := by
    have h1 : (i + 1) * s.size ≤ len * s.size := Nat.mul_le_mul_right _ hi
    rw [Nat.add_mul] at h1; omega
  simp only [Nat.zero_add, Array.getElem?_map, Array.getElem?_range, hlt, if_true, Option.map_some]
  rw [hz, Nat.add_comm (i * s.size) k, Nat.add_mul_mod_self_right, Nat.mod_eq_of_lt hk]
  simp [hz, hk]

theorem sem_buildSlice {t et : TypeId} {len : Nat} {parts : Array (Nat × Operand)} {s : Shape} {z : V} (ho : o.op = .buildSlice t len parts) (hu : P.underlying t = some (.slice et)) (hz : zero? P et = some (s, z))
    (hsm : len * s.size ≤ 2 ^ 24) (hpos : len * s.size ≠ 0) (hb : bok (.arr len s) false (fun i => some (i * s.size, s.size)) (parts.toList.map fun x => (x.1, ρ x.2)) = true) :
    OpSem P B o ρ m n ⟨.row n s len, [], [⟨.row et, .arr len s, bset false (.arr len fun _ => z) (parts.toList.map fun x => (x.1, ρ x.2))⟩], []⟩ := by
  intro C M ρc hs _ _ hn hrel
  unfold zero? at hz
  split at hz
  · rename_i s' i h1 h2
    split at hz
    · rename_i zv hzv
      split at hz
      · rename_i hc
        simp only [Option.some.injEq, Prod.mk.injEq] at hz
        obtain ⟨rfl, rfl⟩ := hz
        obtain ⟨i', hi', hsz, _⟩ := tshape_size h1
        rw [h2] at hi'; simp only [Option.some.injEq] at hi'; subst hi'
        obtain ⟨cells', e1, e2, e3⟩ := fill_ok (ρ := ρ) (ρc := ρc) (C := C) parts.toList _ _ (zero_cells (R.held _ hc.2) hc.1 len) (by simp [Shape.size]) hb (fun x hx => hrel x.2 (by simp [ho, Op.operands]; exact ⟨x.1, by simpa using hx⟩))
        have hl : len ≤ maxLen := by
          have h0 : 0 < s'.size := Nat.pos_of_ne_zero (by intro h0; rw [h0] at hpos; simp at hpos)
          have h3 : len * 1 ≤ len * s'.size := Nat.mul_le_mul_left _ h0
          unfold maxLen; omega
        have hf : ∃ f, bset false (.arr len fun _ => ztree P 12 et) (parts.toList.map fun x => (x.1, ρ x.2)) = .arr len f := R.arr_of e3
        obtain ⟨f, hf⟩ := hf
        rw [hf] at e3 ⊢
        rw [put_new]
        refine does_newrow hs (by simpa using hn 0 (by simp)) (cs := cells') (t := et) ?_ (by simpa [Shape.size] using e2) (Nat.le_refl _) hl e3
        have hrun := run_buildSlice (P := P) C.w t et len (parts.map fun (i, x) => (i, ρc x)) cells' i zv hu h2 hzv (by rw [hsz]; omega) (by rw [hsz]; exact hpos) (by
          have : (parts.map fun (i, x) => (i, ρc x)).toList = parts.toList.map fun x => (x.1, ρc x.2) := by simp
          rw [this, hsz]; exact e1)
        simp [execOp, ho, hrun]
      · cases hz
    · cases hz
  · cases hz

end Go.Ab
