/- More single operations: append, copy. No condition. -/
import Derived.Test.YtkjoldifiniliaaB13
set_option linter.unusedVariables false
set_option linter.unusedSimpArgs false
namespace Go.Ab
open Go.RowKit
variable [Gl]
section
variable {P : Program} {B : Nat} {o : Oper} {ρ : Operand → V} {m : Mem} {n : Nat}

omit [Gl] in
/-- Nothing is appended. -/
theorem append_zero {w : World} {B : Nat} {t ty et : TypeId} {i : TypeInfo} {size : Nat} (ht : P.underlying t = some (.slice et)) (hi : P.info? et = some i) {v : Value} {k : Nat} {xs : List Value} (hown : w.ownsRow B et size v k xs) (a : Option Addr) (c : Nat) :
    (Builtin.append_ #[t, t] ty #[v, .slice a 0 c]).run P w = .ok v w := by
  have hl : ∀ (x : Addr), (loadCells x 0).run P w = .ok #[] w := fun x => by simpa using run_loadCells_list (P := P) w x [] (by simp)
  rcases hown.2 with ⟨rfl, rfl⟩ | ⟨g, cap, cur, rfl, _, _, hnc, _⟩
  · cases a <;> simp [Builtin.append_, run_underlying ht, sizeOf, typeInfo, hi, Builtin.lenOf, Builtin.firstCells, hl]
  · cases a <;> simp [Builtin.append_, run_underlying ht, sizeOf, typeInfo, hi, Builtin.lenOf, Builtin.firstCells, hnc, storeCells, hl]
omit [Gl] in
/-- Onto a row of the call's own: in place, or a new one. -/
theorem append_own {w : World} {B : Nat} {t ty et : TypeId} {i : TypeInfo} {z : Value} {size : Nat} (ht : P.underlying t = some (.slice et)) (hi : P.info? et = some i) (hz : i.zero = some z) (hs : i.size = size) (hzs : z.cells.size = size) (hpos : 0 < size) (hby : i.bytes ≤ 1048576)
    {v : Value} {k : Nat} {xs : List Value} (hown : w.ownsRow B et size v k xs) (a : Addr) (q c : Nat) (news : List Value) (hq : 0 < q) (hl : news.length = q * size) (hnews : ∀ j u, news[j]? = some u → w.cell? (a.add j) = some u) (h1 : ∀ u ∈ news, u.oneCell' = true)
    (hb : k + q ≤ 134217728) (hB : B ≤ w.heap.size) :
    ∃ v' w', (Builtin.append_ #[t, t] ty #[v, .slice (some a) q c]).run P w = .ok v' w' ∧ w'.ownsRow B et size v' (k + q) (xs ++ news) ∧ w.grownBy w' (blk? v) ∧ (blk? v' = blk? v ∨ ∃ b, blk? v' = some b ∧ w.heap.size ≤ b) := by
  have h63 : k + q ≤ maxLen := by unfold maxLen; omega
  have hbytes : (k + q) * i.bytes ≤ 140737488355328 := by
    have : (k + q) * i.bytes ≤ 134217728 * 1048576 := Nat.mul_le_mul hb hby
    omega
  subst hs
  have hlow : ∀ {v' : Value} {w' : World} {ys : List Value}, w'.ownsRow w.heap.size et i.size v' (k + q) ys → w'.ownsRow B et i.size v' (k + q) ys ∧ ∃ b, blk? v' = some b ∧ w.heap.size ≤ b := by
    intro v' w' ys h
    rcases h.2 with ⟨_, h2⟩ | ⟨g, cap, cur, hv, hg, r⟩
    · omega
    · exact ⟨⟨h.1, .inr ⟨g, cap, cur, hv, by omega, r⟩⟩, g, by rw [hv]; rfl, hg⟩
  rcases hown.2 with ⟨rfl, rfl⟩ | ⟨g, cap, cur, rfl, hbg, hg, hnc, hcm, hcs, htake⟩
  · have hx0 : xs = [] := by have := hown.1; simp at this; exact this
    subst hx0
    have hmb : q * i.bytes ≤ 281474976710656 := by rw [Nat.zero_add] at hbytes; omega
    have hr := run_append_nil (P := P) w t ty et i z ht hi hz a q c news hl hnews hq (by unfold maxLen at h63; omega) hmb
    refine ⟨_, _, hr, ?_⟩
    have hown' : (w.drew.alloc (.cells (news.toArray ++ Builtin.zeroCells z.cells (grownCap w q 0 et - q)) et)).ownsRow w.heap.size et i.size (.slice (some ⟨w.heap.size, 0, none⟩) q (grownCap w q 0 et)) (0 + q) ([] ++ news) := by
      have hge := grownCap_ge w q 0 et
      refine ⟨by simpa using hl, .inr ⟨w.heap.size, _, _, by simp, Nat.le_refl _, heap_alloc_new w.drew _, by omega, grownCap_le_maxLen w q 0 et (by omega), ?_, ?_⟩⟩
      · simp only [Array.size_append, List.size_toArray, size_zeroCells, hzs, hl, ← Nat.add_mul]
        congr 1; omega
      · simp only [Array.toList_append, List.nil_append, Nat.zero_add, ← hl]
        exact List.take_left
    obtain ⟨q1, q2⟩ := hlow hown'
    exact ⟨q1, ⟨rfl, rfl, rfl, by simp, fun k hk _ => Below.heap_alloc w.drew _ k hk⟩, .inr q2⟩
  · by_cases hroom : k + q ≤ cap
    · obtain ⟨w', h2, h3, h4⟩ := run_append_fits (P := P) w B t ty et i i.size ht hi rfl g k cap xs hown a q c news hl hnews h1 hroom
      exact ⟨_, w', h2, h3, h4, .inl rfl⟩
    · have holds : ∀ j u, xs[j]? = some u → w.cell? ((⟨g, 0, none⟩ : Addr).add j) = some u := by
        intro j u hu
        have hj : j < xs.length := (List.getElem?_eq_some_iff.1 hu).1
        rw [hown.1] at hj
        rw [add_lit, Nat.zero_add, World.ownsRow.cellAt hown j hj]; exact hu
      obtain ⟨v', w', h2, h3, h4⟩ := run_append_arg_grows (P := P) w t ty et i z i.size i.bytes ht hi hz rfl rfl hzs hpos ⟨g, 0, none⟩ k cap xs hown.1 holds a q c news hl hnews (by omega) h63 hbytes
      obtain ⟨q1, q2⟩ := hlow h3
      exact ⟨v', w', h2, q1, ⟨h4.os, h4.tape, h4.output, h4.size, fun j hj _ => h4.block j hj (by simp)⟩, .inr q2⟩

/-- A row of its own has become a longer one, under a new name. -/
theorem does_rerow {C : Ctx} {M : Mem} {old : Option (Nat × Blk)} {v' : Value} {w' : World} {et : TypeId} {e : Shape} {len : Nat} {cells : List Value} {f : Nat → V} {op : Sem Next} (hs : SR B C M) (hn : ¬ C.al n)
    (hold : ∀ x, old = some x → M x.1 = some x.2 ∧ x.2.alive = true) (hne : ∀ x, old = some x → x.1 ≠ n)
    (hrun : op.run P C.w = .ok (.value v') w') (hown : w'.ownsRow B et e.size v' len cells) (hg : C.w.grownBy w' (old.bind fun x => blk? (C.sv x.1)))
    (hnew : blk? v' = (old.bind fun x => blk? (C.sv x.1)) ∨ ∃ b, blk? v' = some b ∧ C.w.heap.size ≤ b)
    (hv : ∀ C', Keep C C' → R C' (.arr len f) (.cel (.arr len e) (fun i => cells[i]?) 0)) :
    Does P op C.w (Post B C (put M n ⟨.row n e len, (old.map fun x => (x.1, ⟨.dead, x.2.sh, .unk⟩)).toList, [⟨.row et, .arr len e, .arr len f⟩], []⟩) (fun id => n ≤ id ∧ id < n + 1) (.row n e len)) := by
  unfold Does
  rw [hrun]
  let C' : Ctx := { C with al := fun i => C.al i ∨ i = n, sv := upd C.sv n v', shp := upd C.shp n (.arr len e), w := w' }
  have hnal : ∀ id, C.al id → id ≠ n := fun id hid h => hn (h ▸ hid)
  -- the block that is written is not one that is read
  have hok : ∀ u b, C.ok u b → some b ≠ (old.bind fun x => blk? (C.sv x.1)) := by
    intro u b hb he
    cases hx : old with
    | none => rw [hx] at he; cases he
    | some x =>
      rw [hx] at he
      obtain ⟨q1, q2⟩ := hold x hx
      exact hs.own x.1 x.2 b q1 q2 he.symm u hb
  have hlow : ∀ b, some b = (old.bind fun x => blk? (C.sv x.1)) → B ≤ b := by
    intro b he
    cases hx : old with
    | none => rw [hx] at he; cases he
    | some x =>
      rw [hx] at he
      obtain ⟨q1, q2⟩ := hold x hx
      exact (hs.lt q1 q2 he.symm).1
  have hk : Keep C C' := ⟨fun _ h => .inl h, fun id hid => upd_other _ _ (hnal id hid), fun id hid => upd_other _ _ (hnal id hid), fun _ _ h => h, fun u b hb => hg.block b (hs.okLt u b hb) (hok u b hb)⟩
  have hkp : Kp B C C' := ⟨hk, ⟨hg.os, hg.tape, hg.output, hg.size, fun k hk => hg.block k (Nat.lt_of_lt_of_le hk hs.base) (fun e => by have := hlow k e; omega)⟩, fun _ _ h => .inl (.inl h)⟩
  -- what becomes of the memory
  have hput : ∀ id, put M n ⟨.row n e len, (old.map fun x => (x.1, (⟨.dead, x.2.sh, .unk⟩ : Blk))).toList, [⟨.row et, .arr len e, .arr len f⟩], []⟩ id = if id = n then some ⟨.row et, .arr len e, .arr len f⟩ else (match old with | some x => if id = x.1 then some ⟨.dead, x.2.sh, .unk⟩ else M id | none => M id) := by
    intro id
    by_cases h : id = n
    · subst h; simp [put, touch]
    · have h1 : ¬ (n ≤ id ∧ id < n + 1) := by omega
      rw [if_neg h]
      simp only [put, touch, List.length_cons, List.length_nil, Nat.zero_add, h1, if_false]
      cases old with
      | none => simp
      | some x =>
        by_cases h2 : id = x.1
        · subst h2; simp [List.lookup]
        · have : (id == x.1) = false := by simpa using h2
          simp [List.lookup, this, h2]
  have hblk : ∀ id blk, id ≠ n → put M n ⟨.row n e len, (old.map fun x => (x.1, (⟨.dead, x.2.sh, .unk⟩ : Blk))).toList, [⟨.row et, .arr len e, .arr len f⟩], []⟩ id = some blk → blk.alive = true → M id = some blk ∧ ∀ x, old = some x → id ≠ x.1 := by
    intro id blk h1 h2 h3
    rw [hput, if_neg h1] at h2
    cases hx : old with
    | none => rw [hx] at h2; exact ⟨h2, fun x h => by cases h⟩
    | some x =>
      rw [hx] at h2
      simp only at h2
      split at h2
      · cases h2; cases h3
      · rename_i hne2; exact ⟨h2, fun y hy => by cases hy; exact hne2⟩
  refine ⟨C', rfl, ?_, hkp, ?_, fun id h => ?_⟩
  · refine ⟨.inr rfl, ?_, by simp [C'], by simp [C', Ab.M.leaf]⟩
    rcases hown.2 with ⟨h1, h2⟩ | ⟨g, cap, cur, h1, _⟩
    · exact ⟨none, 0, by simp [C', h1, h2]⟩
    · exact ⟨_, _, by simp [C', h1]; exact ⟨rfl, rfl⟩⟩
  · refine hs.next hkp (fun id => id = n ∨ ∃ x, old = some x ∧ id = x.1) ?_ ?_ ?_ ?_ ?_ ?_
    · intro id hid
      rw [hput, if_neg (fun h => hid (.inl h))]
      cases hx : old with
      | none => rfl
      | some x => simp only; rw [if_neg (fun h => hid (.inr ⟨x, hx, h⟩))]
    · intro id blk b hid hm ha hb
      refine hg.block b (hs.lt hm ha hb).2 fun he => ?_
      cases hx : old with
      | none => rw [hx] at he; cases he
      | some x =>
        rw [hx] at he
        obtain ⟨q1, q2⟩ := hold x hx
        exact hid (.inr ⟨x, hx, hs.sep id x.1 blk x.2 b hm ha q1 q2 hb he.symm⟩)
    · intro id blk hid hm
      rw [hput] at hm
      by_cases h1 : id = n
      · subst h1
        rw [if_pos rfl] at hm
        cases hm
        refine ⟨.inr rfl, ?_⟩
        show BR B C' id ⟨.row et, .arr len e, .arr len f⟩
        exact ⟨len, e, cells, by simp [C'], rfl, by simpa [C'] using hown, hv C' hk⟩
      · rw [if_neg h1] at hm
        rcases hid with hid | ⟨x, hx, hid⟩
        · exact absurd hid h1
        · rw [hx] at hm
          simp only [hid, if_true] at hm
          cases hm
          exact ⟨.inl (by rw [hid]; exact hs.al x.1 x.2 (hold x hx).1), trivial⟩
    · intro u b hb
      exact Nat.lt_of_lt_of_le (hs.okLt u b hb) hg.size
    · intro id id' blk1 blk2 b h1 h2 h3 h4 hid h5 h6
      by_cases e1 : id = n
      · subst e1
        by_cases e2 : id' = id
        · exact e2.symm
        · exfalso
          obtain ⟨q1, q2⟩ := hblk id' blk2 e2 h3 h4
          simp only [C', upd_same] at h5
          simp only [C', upd_other _ _ e2] at h6
          rcases hnew with hnew | ⟨b', hnew, hge⟩
          · rw [hnew] at h5
            cases hx : old with
            | none => rw [hx] at h5; cases h5
            | some x =>
              rw [hx] at h5
              obtain ⟨p1, p2⟩ := hold x hx
              exact q2 x hx (hs.sep id' x.1 blk2 x.2 b q1 h4 p1 p2 h6 h5)
          · rw [hnew] at h5
            cases h5
            have := (hs.lt q1 h4 h6).2
            omega
      · exfalso
        rcases hid with hid | ⟨x, hx, hid⟩
        · exact e1 hid
        · exact (hblk id blk1 e1 h1 h2).2 x hx hid
    · intro id blk1 b h1 h2 h3 u hokb
      by_cases e1 : id = n
      · subst e1
        simp only [C', upd_same] at h3
        rcases hnew with hnew | ⟨b', hnew, hge⟩
        · rw [hnew] at h3; exact hok u b hokb h3.symm
        · rw [hnew] at h3; cases h3
          have := hs.okLt u b hokb
          omega
      · obtain ⟨q1, q2⟩ := hblk id blk1 e1 h1 h2
        simp only [C', upd_other _ _ e1] at h3
        exact hs.own id blk1 b q1 h2 h3 u hokb
  · rcases h with h | h
    · exact .inl h
    · exact .inr ⟨by omega, by omega⟩

/-- What is appended. -/
def appF (len0 : Nat) (f0 f : Nat → V) : Nat → V := fun i => V.ite (decide (i < len0)) (f0 i) (f (i - len0))
omit [Gl] in
theorem appF_R {C : Ctx} {e : Shape} {len0 k : Nat} {f0 f : Nat → V} {xs news : List Value} (h0 : R C (.arr len0 f0) (.cel (.arr len0 e) (fun i => xs[i]?) 0)) (hx : xs.length = len0 * e.size) (hn : news.length = k * e.size)
    (h1 : ∀ i, i < k → R C (f i) (.cel e (fun i => news[i]?) (i * e.size))) : R C (.arr (len0 + k) (appF len0 f0 f)) (.cel (.arr (len0 + k) e) (fun i => (xs ++ news)[i]?) 0) := by
  obtain ⟨e', q1, q2⟩ := h0
  cases q1
  refine ⟨e, rfl, fun i hi => ?_⟩
  show R C (V.ite (decide (i < len0)) (f0 i) (f (i - len0))) _
  rw [V.ite_eq]
  by_cases hlt : i < len0
  · rw [decide_eq_true hlt, cond_true]
    refine R.shift _ (q2 i hlt) fun j hj => ?_
    have hle : (i + 1) * e.size ≤ len0 * e.size := Nat.mul_le_mul_right _ hlt
    rw [Nat.add_mul] at hle
    simp only [Nat.zero_add]
    rw [List.getElem?_append_left (by rw [hx]; omega)]
  · rw [decide_eq_false hlt, cond_false]
    refine R.shift _ (h1 (i - len0) (by omega)) fun j hj => ?_
    have h3 : i * e.size = len0 * e.size + (i - len0) * e.size := by rw [← Nat.add_mul]; congr 1; omega
    simp only [Nat.zero_add]
    rw [List.getElem?_append_right (by rw [hx, h3]; omega), hx, h3]
    congr 1; omega

omit [Gl] in
/-- Elements that are read, as cells. -/
theorem holds_news {C : Ctx} {a : Option Addr} {e : Shape} {k : Nat} {f : Nat → V} (hq : 0 < k) (h : Holds C a e k f) : ∃ (b o : Nat) (news : List Value), a = some ⟨b, o, none⟩ ∧ news.length = k * e.size ∧ (∀ j u, news[j]? = some u → C.w.cell? ((⟨b, o, none⟩ : Addr).add j) = some u) ∧ (∀ u ∈ news, u.oneCell' = true) ∧
    ∀ i, i < k → R C (f i) (.cel e (fun i => news[i]?) (i * e.size)) := by
  rcases h with h | ⟨b, o, ha, _, h⟩
  · omega
  · obtain ⟨news, h1, h2, h3⟩ := cells_list (g := cg C.w b) (o := o) k h
    refine ⟨b, o, news, ha, h1, fun j u hu => ?_, h3, fun i hi => ?_⟩
    · have hj : j < news.length := (List.getElem?_eq_some_iff.1 hu).1
      rw [h1] at hj
      rw [add_lit, ← hu, h2 j hj]; rfl
    · refine R.shift _ (h i hi) fun j hj => ?_
      have hle : (i + 1) * e.size ≤ k * e.size := Nat.mul_le_mul_right _ hi
      rw [Nat.add_mul] at hle
      rw [h2 _ (by omega), Nat.add_assoc]

omit [Gl] in
/-- Two operands of a builtin. -/
theorem two_rel {b : Builtin} {x y : Operand} {ts : Array TypeId} {C : Ctx} {ρc : Operand → Value} (ho : o.op = .call ⟨.builtin b, #[x, y], ts⟩) (hrel : ∀ x ∈ o.op.operands.toList, R C (ρ x) (.val (ρc x))) : R C (ρ x) (.val (ρc x)) ∧ R C (ρ y) (.val (ρc y)) :=
  ⟨hrel x (by simp [ho, Op.operands, Call.operands]), hrel y (by simp [ho, Op.operands, Call.operands])⟩
omit [Gl] in
theorem append_run {C : Ctx} {x y : Operand} {t : TypeId} {ρc : Operand → Value} {v : Value} {w' : World} (ho : o.op = .call ⟨.builtin .append, #[x, y], #[t, t]⟩) (h : (Builtin.append_ #[t, t] o.type #[ρc x, ρc y]).run P C.w = .ok v w') : (execOp ρc o).run P C.w = .ok (.value v) w' := by
  simp [execOp, ho, resolve, invoke, builtin, h]

/-- append, onto a row of its own, or onto nil. 'old': the row's name and block. -/
theorem sem_append {t et : TypeId} {x y : Operand} {i : TypeInfo} {s : Shape} {z : V} {len0 k : Nat} {f0 f : Nat → V} {rd : List Nat} {old : Option (Nat × Blk)} (ho : o.op = .call ⟨.builtin .append, #[x, y], #[t, t]⟩) (hu : P.underlying t = some (.slice et)) (hz : zero? P et = some (s, z))
    (hi : P.info? et = some i) (hby : i.bytes ≤ 1048576) (hpos : 0 < s.size)
    (hx : (old = none ∧ ρ x = .nils ∧ len0 = 0) ∨ ∃ id blk n1, old = some (id, blk) ∧ ρ x = .row id s len0 ∧ m id = some blk ∧ blk.k = .row et ∧ blk.v = .arr n1 f0)
    (hy : srcW m s (ρ y) = some (s, k, f, rd)) (hb : len0 + k ≤ 134217728) (hne : ∀ x, old = some x → x.1 < n) :
    OpSem P B o ρ m n ⟨.row n s (len0 + k), (old.map fun x => (x.1, ⟨.dead, x.2.sh, .unk⟩)).toList, [⟨.row et, .arr (len0 + k) s, .arr (len0 + k) (appF len0 f0 f)⟩], rd⟩ := by
  intro C M ρc hs hrd hup hn hrel
  obtain ⟨i', zv, hi', hzv, hsz, hcz, _⟩ := zero_of hz
  rw [hi] at hi'; cases hi'
  obtain ⟨rx, ry⟩ := two_rel (ρ := ρ) ho hrel
  obtain ⟨a, c, hyv, hc, hH⟩ := srcW_s hs hy hrd ry
  have hn' : ¬ C.al n := by simpa using hn 0 (by simp)
  -- the row that is appended to
  have base : ∃ xs, C.w.ownsRow B et s.size (ρc x) len0 xs ∧ R C (.arr len0 f0) (.cel (.arr len0 s) (fun i => xs[i]?) 0) ∧ blk? (ρc x) = (old.bind fun x => blk? (C.sv x.1)) ∧ ∀ x, old = some x → M x.1 = some x.2 ∧ x.2.alive = true := by
    rcases hx with ⟨rfl, hx, rfl⟩ | ⟨id, blk, n1, rfl, hx, hm, hk, hv⟩
    · rw [hx] at rx
      have rx' : ρc x = .slice none 0 0 := rx
      rw [rx']
      exact ⟨[], ⟨by simp, .inl ⟨rfl, rfl⟩⟩, ⟨s, rfl, fun i hi => by omega⟩, rfl, fun x h => by cases h⟩
    · rw [hx] at rx
      obtain ⟨hal, ⟨a1, c1, h1⟩, h2, h3⟩ := rx
      have h3' : ρc x = C.sv id := h3
      have hM : M id = some blk := by
        have := hup (id, ⟨.dead, blk.sh, .unk⟩) (by simp)
        simp only at this
        rw [this]; exact hm
      have hbr := hs.mem id blk hM
      unfold BR at hbr
      rw [hk] at hbr
      obtain ⟨n2, s2, cells, q1, q2, q3, q4⟩ := hbr
      rw [q1, q2] at h2
      cases h2
      rw [h3']
      refine ⟨cells, q3, ?_, rfl, fun x hx => by cases hx; exact ⟨hM, by unfold Blk.alive; rw [hk]⟩⟩
      rw [hv, q2] at q4
      obtain ⟨e', p1, p2⟩ := q4
      cases p1
      exact ⟨_, rfl, p2⟩
  obtain ⟨xs, hown, hR0, hbk, hold⟩ := base
  have hlen := hown.1
  have hE : ∀ (v' : Value) (w' : World) (news : List Value), (Builtin.append_ #[t, t] o.type #[ρc x, ρc y]).run P C.w = .ok v' w' → w'.ownsRow B et s.size v' (len0 + k) (xs ++ news) → C.w.grownBy w' (blk? (ρc x)) → (blk? v' = blk? (ρc x) ∨ ∃ b, blk? v' = some b ∧ C.w.heap.size ≤ b) →
      news.length = k * s.size → (∀ i, i < k → R C (f i) (.cel s (fun i => news[i]?) (i * s.size))) → Does P (execOp ρc o) C.w (Post B C (put M n ⟨.row n s (len0 + k), (old.map fun x => (x.1, ⟨.dead, x.2.sh, .unk⟩)).toList, [⟨.row et, .arr (len0 + k) s, .arr (len0 + k) (appF len0 f0 f)⟩], rd⟩) (fun id => n ≤ id ∧ id < n + 1) (.row n s (len0 + k))) := by
    intro v' w' news hr h2 h3 h4 h5 h6
    rw [hbk] at h3 h4
    exact does_rerow hs hn' hold (fun x hx => by have := hne x hx; omega) (append_run ho hr) h2 h3 h4 fun C' hk => R.keep hk _ _ (appF_R hR0 hlen h5 h6)
  rcases Nat.eq_zero_or_pos k with h0 | hq
  · subst h0
    refine hE (ρc x) C.w [] ?_ (by simpa using hown) ⟨rfl, rfl, rfl, Nat.le_refl _, fun _ _ _ => rfl⟩ (.inl rfl) (by simp) (fun i hi => by omega)
    rw [hyv]
    exact append_zero hu hi hown a c
  · obtain ⟨b, ob, news, ha, h1, h2, h3, h4⟩ := holds_news hq hH
    subst ha
    obtain ⟨v', w', q1, q2, q3, q4⟩ := append_own (P := P) (ty := o.type) hu hi hzv hsz hcz hpos hby hown ⟨b, ob, none⟩ k c news hq h1 h2 h3 hb hs.base
    rw [← hyv] at q1
    exact hE v' w' news q1 q2 q3 q4 h1 h4
end
end Go.Ab
