/- More single operations: slices made, cut, put together, copied. No condition. -/
import Derived.Test.YtkjoldifiniliaaB12
import Derived.ArgAppend
import Derived.Great.BuildSlice
set_option linter.unusedVariables false
set_option linter.unusedSimpArgs false
namespace Go.Ab
open Go.RowKit
variable [Gl]
section
variable {P : Program} {B : Nat} {o : Oper} {ρ : Operand → V} {m : Mem} {n : Nat}

/-- A new slice of the function's own, over all of a new row. -/
theorem does_newsl {C : Ctx} {M : Mem} {n : Nat} {cs : Array Value} {t : TypeId} {e : Shape} {len cap : Nat} {f : Nat → V} {op : Sem Next} (hs : SR B C M) (hn : ¬ C.al n)
    (hrun : op.run P C.w = .ok (.value (.slice (some ⟨C.w.heap.size, 0, none⟩) len cap)) (C.w.alloc (.cells cs t))) (hz : cs.size = cap * e.size) (hlc : len ≤ cap) (hv : R C (.arr cap f) (.cel (.arr cap e) (fun i => cs[i]?) 0)) :
    Does P op C.w (Post B C (upd M n (some ⟨.box, .arr cap e, .arr cap f⟩)) (fun id => n ≤ id ∧ id < n + 1) (.sl n [] e 0 len (some cap))) := by
  unfold Does
  rw [hrun]
  obtain ⟨h1, h2⟩ := hs.alloc hn cs t ⟨.box, .arr cap e, .arr cap f⟩ (.pointer (some ⟨C.w.heap.size, 0, none⟩)) rfl (by
    intro C' hk h3 h4 h5
    exact ⟨C.w.heap.size, cs, t, h3, hs.base, by rw [h5]; exact heap_alloc_new C.w _, h4, hz, R.keep hk _ _ hv⟩)
  refine ⟨_, rfl, ⟨Or.inr rfl, _, _, 0, cap, rfl, hlc, (fun k hk => by cases hk; rfl), by simp [Shape.path], by omega, .inr ⟨C.w.heap.size, by simp [blk?], by simp⟩⟩, h2, h1, fun id h => ?_⟩
  · rcases h with h | h
    · exact .inl h
    · exact .inr ⟨by omega, by omega⟩
omit [Gl] in
theorem zero_of {P : Program} {t : TypeId} {s : Shape} {z : V} (hz : zero? P t = some (s, z)) : ∃ (i : TypeInfo) (zv : Value), P.info? t = some i ∧ i.zero = some zv ∧ i.size = s.size ∧ zv.cells.size = s.size ∧ ∀ C, R C z (.cel s (fun j => zv.cells[j]?) 0) := by
  have hz0 := hz
  obtain ⟨h1, zv, h2, h3, h4⟩ := zero?_spec hz
  obtain ⟨i, hi, hsz, _⟩ := tshape_size h1
  unfold zero? at hz0
  rw [h1, hi] at hz0
  simp only at hz0
  split at hz0
  · rename_i zv' hz'
    have := h2 default
    simp [zeroValue, typeInfo, hi, hz'] at this
    subst this
    exact ⟨i, _, hi, hz', hsz, h3, h4⟩
  · cases hz0
omit [Gl] in
theorem make_run {C : Ctx} {t et : TypeId} {l c : Operand} {kl kc : IntKind} {len cap : Nat} {ρc : Operand → Value} (ho : o.op = .makeSlice t l c) (hl : ρc l = .int kl len) (hc : ρc c = .int kc cap) (hu : P.underlying t = some (.slice et)) {i : TypeInfo} {zv : Value}
    (hi : P.info? et = some i) (hzv : i.zero = some zv) (hb : i.bytes ≤ 1048576) (hlc : len ≤ cap) (hcap : cap ≤ 16777216) :
    (execOp ρc o).run P C.w = .ok (.value (.slice (some ⟨C.w.heap.size, 0, none⟩) len cap)) (C.w.alloc (.cells (madeCells zv.cells (cap * i.size)) et)) := by
  have hbytes : (i.bytes : Int) * cap ≤ 281474976710656 := by
    have : i.bytes * cap ≤ 1048576 * 16777216 := Nat.mul_le_mul hb hcap
    have h3 : ((i.bytes * cap : Nat) : Int) ≤ 281474976710656 := by omega
    rwa [Int.natCast_mul] at h3
  have hrun := run_make (P := P) C.w t et i zv hu hi hzv kl kc len cap (by omega) (by omega) hbytes (by omega)
  simp only [Int.toNat_natCast] at hrun
  simp [execOp, ho, hl, hc, hrun]
omit [Gl] in
theorem made_eq (zs : Array Value) (n : Nat) : madeCells zs n = (Array.range n).map (fun x => zs[x % zs.size]!) := rfl
/-- A slice whose capacity is known. -/
theorem sem_makeSl {t et : TypeId} {l c : Operand} {kl kc : IntKind} {len cap : Nat} {s : Shape} {z : V} {i : TypeInfo} (ho : o.op = .makeSlice t l c) (hl : ρ l = .int kl len) (hc : ρ c = .int kc cap) (hu : P.underlying t = some (.slice et)) (hz : zero? P et = some (s, z))
    (hi : P.info? et = some i) (hb : i.bytes ≤ 1048576) (hlc : len ≤ cap) (hcap : cap ≤ 16777216) :
    OpSem P B o ρ m n ⟨.sl n [] s 0 len (some cap), [], [⟨.box, .arr cap s, .arr cap fun _ => z⟩], []⟩ := by
  intro C M ρc hs _ _ hn hrel
  obtain ⟨i', zv, hi', hzv, hsz, hcz, hR⟩ := zero_of hz
  rw [hi] at hi'; cases hi'
  have r1 := hrel l (by simp [ho, Op.operands])
  have r2 := hrel c (by simp [ho, Op.operands])
  rw [hl] at r1; rw [hc] at r2
  rw [put_new]
  refine does_newsl hs (by simpa using hn 0 (by simp)) (cs := madeCells zv.cells (cap * i.size)) (t := et) (make_run ho r1 r2 hu hi hzv hb hlc hcap) (by rw [made_eq, hsz]; simp) hlc ?_
  rw [made_eq, hsz]
  exact zero_cells (hR C) hcz cap
/-- A slice whose capacity is no matter. -/
theorem sem_makeRow {t et : TypeId} {l c : Operand} {kl kc : IntKind} {len cap : Nat} {s : Shape} {z : V} {i : TypeInfo} (ho : o.op = .makeSlice t l c) (hl : ρ l = .int kl len) (hc : ρ c = .int kc cap) (hu : P.underlying t = some (.slice et)) (hz : zero? P et = some (s, z))
    (hi : P.info? et = some i) (hb : i.bytes ≤ 1048576) (hlc : len ≤ cap) (hcap : cap ≤ 16777216) :
    OpSem P B o ρ m n ⟨.row n s len, [], [⟨.row et, .arr len s, .arr len fun _ => z⟩], []⟩ := by
  intro C M ρc hs _ _ hn hrel
  obtain ⟨i', zv, hi', hzv, hsz, hcz, hR⟩ := zero_of hz
  rw [hi] at hi'; cases hi'
  have r1 := hrel l (by simp [ho, Op.operands])
  have r2 := hrel c (by simp [ho, Op.operands])
  rw [hl] at r1; rw [hc] at r2
  rw [put_new]
  refine does_newrow hs (by simpa using hn 0 (by simp)) (cs := madeCells zv.cells (cap * i.size)) (t := et) (make_run ho r1 r2 hu hi hzv hb hlc hcap) (by rw [made_eq, hsz]; simp) hlc (by unfold maxLen; omega) ?_
  rw [made_eq, hsz]
  have h0 := zero_cells (hR C) hcz cap
  obtain ⟨e', q1, q2⟩ := h0
  cases q1
  exact ⟨s, rfl, fun i hi => q2 i (by omega)⟩
/-- No elements. -/
theorem sem_buildNone {t et : TypeId} {s : Shape} {z : V} (ho : o.op = .buildSlice t 0 #[]) (hu : P.underlying t = some (.slice et)) (hz : zero? P et = some (s, z)) :
    OpSem P B o ρ m n ⟨.row n s 0, [], [⟨.row et, .arr 0 s, .arr 0 fun _ => z⟩], []⟩ := by
  intro C M ρc hs _ _ hn hrel
  obtain ⟨i, zv, hi, hzv, hsz, hcz, hR⟩ := zero_of hz
  rw [put_new]
  refine does_newrow hs (by simpa using hn 0 (by simp)) (cs := #[]) (t := et) (cap := 0) ?_ (by simp) (Nat.le_refl _) (by unfold maxLen; omega) ⟨s, rfl, fun i hi => by omega⟩
  simp [execOp, ho, Instr.buildSlice, run_underlying hu, run_sizeOf' hi, Instr.fill, newRow]
  have : (Array.range 0) = #[] := by simp [Array.range]
  rw [this]; simp

/-! ### What a slice holds -/
/-- What a slice holds that is read: its elements' shape, how many, each; the block that is looked at. -/
def srcV (m : Mem) (x : V) : Option (Shape × Nat × (Nat → V) × List Nat) := match x with
  | .ro _ _ e len f => some (e, len, f, [])
  | .row id e len => match m id with
    | some blk => if blk.alive then match blk.v with
      | .arr _ f => some (e, len, f, [id])
      | _ => none
      else none
    | none => none
  | .sl id p e off len _ => match m id with
    | some blk => if blk.alive then match blk.v.path p with
      | .arr _ f => some (e, len, fun i => f (off + i), [id])
      | _ => none
      else none
    | none => none
  | _ => none
/-- The cells of it. -/
def Holds (C : Ctx) (a : Option Addr) (e : Shape) (len : Nat) (f : Nat → V) : Prop := len = 0 ∨ ∃ b o, a = some ⟨b, o, none⟩ ∧ b < C.w.heap.size ∧ ∀ i, i < len → R C (f i) (.cel e (cg C.w b) (o + i * e.size))
theorem srcV_s {C : Ctx} {M : Mem} (hs : SR B C M) {x : V} {val : Value} {e : Shape} {len : Nat} {f : Nat → V} {rd : List Nat} (h : srcV m x = some (e, len, f, rd)) (hrd : ∀ id ∈ rd, M id = m id) (hr : R C x (.val val)) :
    ∃ a c, val = .slice a len c ∧ len ≤ c ∧ Holds C a e len f := by
  unfold srcV at h
  split at h
  · simp only [Option.some.injEq, Prod.mk.injEq] at h
    obtain ⟨rfl, rfl, rfl, rfl⟩ := h
    obtain ⟨a, c, h1, h2, h3, h4⟩ := hr
    refine ⟨a, c, h1, h2, h4.imp (fun h => h) ?_⟩
    rintro ⟨b, o, h5, h6, h7⟩
    exact ⟨b, o, h5, hs.okLt _ _ h6, fun i hi => R.keep (Keep.of_pur C) _ _ (h7 i hi)⟩
  · split at h
    · rename_i id e0 len0 _ blk hb
      split at h
      · rename_i ha
        split at h
        · rename_i n1 f1 hv
          simp only [Option.some.injEq, Prod.mk.injEq] at h
          obtain ⟨rfl, rfl, rfl, rfl⟩ := h
          obtain ⟨hal, ⟨a, c, h1⟩, h2, h3⟩ := hr
          have hM : M id = some blk := by rw [hrd id (by simp)]; exact hb
          have h3' : val = C.sv id := h3
          have hbr := hs.mem id blk hM
          unfold BR at hbr; unfold Blk.alive at ha
          cases hkd : blk.k <;> simp only [hkd] at hbr ha
          · obtain ⟨g, cur, e', h4, _⟩ := hbr; rw [h1] at h4; cases h4
          · obtain ⟨n2, s2, cells, h4, h5, h6, h7⟩ := hbr
            rw [h4, h5] at h2
            simp only [Shape.arr.injEq] at h2
            obtain ⟨rfl, rfl⟩ := h2
            rw [h1] at h3'
            refine ⟨a, c, h3', ?_, ?_⟩
            · rcases h6.2 with ⟨h8, h9⟩ | ⟨g, cap, cur, hv', hg, hh, hnc, _⟩
              · rw [h1] at h8; cases h8; omega
              · rw [h1] at hv'; cases hv'; exact hnc
            · rcases h6.2 with ⟨h8, h9⟩ | ⟨q, cap, cur, hv', hq, hh, hnc, _, hcs, htake⟩
              · exact .inl h9
              · right
                rw [h1] at hv'
                simp only [Value.slice.injEq] at hv'
                obtain ⟨rfl, _, rfl⟩ := hv'
                refine ⟨q, 0, rfl, (Array.getElem?_eq_some_iff.1 hh).1, fun i hi => ?_⟩
                have hb' : blk? (C.sv id) = some q := by rw [h1]; rfl
                have hpa : Shape.path [.idx i] (C.shp id) = some (0 + i * s2.size, s2) := by rw [h4, h5]; simp [Shape.path, Shape.step, hi]
                obtain ⟨h10, _⟩ := BR.at (hs.mem id blk hM) (by unfold Blk.alive; rw [hkd]) hb' hpa
                rw [hv] at h10
                simpa [V.path, V.step] using h10
          · simp at ha
        · cases h
      · cases h
    · cases h
  · split at h
    · rename_i id p e0 off len0 cap _ blk hb
      split at h
      · rename_i ha
        split at h
        · rename_i n1 f1 hv
          simp only [Option.some.injEq, Prod.mk.injEq] at h
          obtain ⟨rfl, rfl, rfl, rfl⟩ := h
          obtain ⟨hal, ad, c, o1, n2, h3, h4, h5, h2, h8, h6⟩ := hr
          have hM : M id = some blk := by rw [hrd id (by simp)]; exact hb
          rcases h6 with h6 | ⟨b, h1, h6⟩
          · exact ⟨ad, c, h3, h4, .inl h6⟩
          subst h6
          obtain ⟨h7, _⟩ := BR.at (hs.mem id blk hM) ha h1 h2
          rw [hv] at h7
          obtain ⟨e', q1, h9⟩ := h7
          simp only [Shape.arr.injEq] at q1
          obtain ⟨rfl, rfl⟩ := q1
          refine ⟨_, c, h3, h4, .inr ⟨b, o1 + off * e0.size, rfl, (hs.lt hM ha h1).2, fun i hi => ?_⟩⟩
          have h10 := h9 (off + i) (by omega)
          rw [Nat.add_mul, ← Nat.add_assoc] at h10
          exact h10
        · cases h
      · cases h
    · cases h
  · cases h
omit [Gl] in
theorem srcV_rd {x : V} {e : Shape} {len : Nat} {f : Nat → V} {rd : List Nat} (h : srcV m x = some (e, len, f, rd)) : ∀ id ∈ rd, ∃ b, m id = some b := by
  unfold srcV at h
  split at h
  · simp only [Option.some.injEq, Prod.mk.injEq] at h; obtain ⟨_, _, _, rfl⟩ := h; intro id hid; cases hid
  · split at h
    · rename_i hb
      split at h
      · split at h
        · simp only [Option.some.injEq, Prod.mk.injEq] at h; obtain ⟨_, _, _, rfl⟩ := h
          intro id hid; simp only [List.mem_singleton] at hid; subst hid; exact ⟨_, hb⟩
        · cases h
      · cases h
    · cases h
  · split at h
    · rename_i hb
      split at h
      · split at h
        · simp only [Option.some.injEq, Prod.mk.injEq] at h; obtain ⟨_, _, _, rfl⟩ := h
          intro id hid; simp only [List.mem_singleton] at hid; subst hid; exact ⟨_, hb⟩
        · cases h
      · cases h
    · cases h
  · cases h
/-- The same, or nothing. -/
def srcW (m : Mem) (s : Shape) (x : V) : Option (Shape × Nat × (Nat → V) × List Nat) := match x with
  | .nils => some (s, 0, fun _ => .unk, [])
  | x => srcV m x
theorem srcW_s {C : Ctx} {M : Mem} (hs : SR B C M) {x : V} {val : Value} {s e : Shape} {len : Nat} {f : Nat → V} {rd : List Nat} (h : srcW m s x = some (e, len, f, rd)) (hrd : ∀ id ∈ rd, M id = m id) (hr : R C x (.val val)) :
    ∃ a c, val = .slice a len c ∧ len ≤ c ∧ Holds C a e len f := by
  unfold srcW at h
  split at h
  · simp only [Option.some.injEq, Prod.mk.injEq] at h
    obtain ⟨rfl, rfl, rfl, rfl⟩ := h
    exact ⟨none, 0, hr, Nat.le_refl _, .inl rfl⟩
  · exact srcV_s hs h hrd hr
omit [Gl] in
theorem srcW_rd {x : V} {s e : Shape} {len : Nat} {f : Nat → V} {rd : List Nat} (h : srcW m s x = some (e, len, f, rd)) : ∀ id ∈ rd, ∃ b, m id = some b := by
  unfold srcW at h
  split at h
  · simp only [Option.some.injEq, Prod.mk.injEq] at h; obtain ⟨_, _, _, rfl⟩ := h; intro id hid; cases hid
  · exact srcV_rd h
omit [Gl] in
/-- The cells of so many trees, one behind the other. -/
theorem cells_list {C : Ctx} {e : Shape} {f : Nat → V} {g : Nat → Option Value} {o : Nat} : ∀ (len : Nat), (∀ i, i < len → R C (f i) (.cel e g (o + i * e.size))) →
    ∃ cs : List Value, cs.length = len * e.size ∧ (∀ j, j < len * e.size → cs[j]? = g (o + j)) ∧ ∀ u ∈ cs, u.oneCell' = true := by
  intro len h
  have hc : ∀ j, j < len * e.size → ∃ x, g (o + j) = some x ∧ x.oneCell' = true := by
    intro j hj
    have he : 0 < e.size := by
      rcases Nat.eq_zero_or_pos e.size with h0 | h0
      · rw [h0] at hj; simp at hj
      · exact h0
    have hi : j / e.size < len := (Nat.div_lt_iff_lt_mul he).2 hj
    obtain ⟨x, h1, h2⟩ := R.cells _ (h _ hi) (j % e.size) (Nat.mod_lt _ he)
    have := Nat.div_add_mod j e.size
    rw [Nat.mul_comm] at this
    exact ⟨x, by rw [← h1]; congr 1; omega, h2⟩
  let fn : Nat → Value := fun j => if hj : j < len * e.size then Classical.choose (hc j hj) else undef
  refine ⟨(List.range (len * e.size)).map fn, by simp, fun j hj => ?_, ?_⟩
  · have := (Classical.choose_spec (hc j hj)).1
    rw [this]
    simp [hj, fn]
  · intro u hu
    obtain ⟨j, hj, rfl⟩ := List.mem_map.1 hu
    simp only [List.mem_range] at hj
    have := (Classical.choose_spec (hc j hj)).2
    simpa [fn, hj] using this
end
end Go.Ab
