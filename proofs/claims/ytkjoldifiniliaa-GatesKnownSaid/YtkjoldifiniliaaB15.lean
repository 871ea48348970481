/- More single operations: append onto what is read, copy. No condition. -/
import Derived.Test.YtkjoldifiniliaaB14
set_option linter.unusedVariables false
set_option linter.unusedSimpArgs false
namespace Go.Ab
open Go.RowKit
variable [Gl]
section
variable {P : Program} {B : Nat} {o : Oper} {ρ : Operand → V} {m : Mem} {n : Nat}

/-- append, onto a slice without spare capacity that is not its own: always a new row. -/
theorem sem_append_ro {t et : TypeId} {x y : Operand} {i : TypeInfo} {s : Shape} {z : V} {u : Bool} {len0 k : Nat} {f0 f : Nat → V} {rd : List Nat} (ho : o.op = .call ⟨.builtin .append, #[x, y], #[t, t]⟩) (hu : P.underlying t = some (.slice et)) (hz : zero? P et = some (s, z))
    (hi : P.info? et = some i) (hby : i.bytes ≤ 1048576) (hpos : 0 < s.size) (hx : ρ x = .ro u true s len0 f0) (hy : srcW m s (ρ y) = some (s, k, f, rd)) (hb : len0 + k ≤ 134217728) (hk : 0 < k) :
    OpSem P B o ρ m n ⟨.row n s (len0 + k), [], [⟨.row et, .arr (len0 + k) s, .arr (len0 + k) (appF len0 f0 f)⟩], rd⟩ := by
  intro C M ρc hs hrd hup hn hrel
  obtain ⟨i', zv, hi', hzv, hsz, hcz, _⟩ := zero_of hz
  rw [hi] at hi'; cases hi'
  obtain ⟨rx, ry⟩ := two_rel (ρ := ρ) ho hrel
  obtain ⟨a, c, hyv, hc, hH⟩ := srcW_s hs hy hrd ry
  have hn' : ¬ C.al n := by simpa using hn 0 (by simp)
  obtain ⟨b, ob, news, ha, h1, h2, h3, h4⟩ := holds_news hk hH
  subst ha
  rw [hx] at rx
  obtain ⟨a0, c0, p1, p2, p3, p4⟩ := rx
  have p1' : ρc x = .slice a0 len0 c0 := p1
  have hc0 : c0 = len0 := p3 rfl
  subst hc0
  have h63 : c0 + k ≤ maxLen := by unfold maxLen; omega
  have hbytes : (c0 + k) * i.bytes ≤ 140737488355328 := by
    have : (c0 + k) * i.bytes ≤ 134217728 * 1048576 := Nat.mul_le_mul hb hby
    omega
  have hfin : ∀ (xs : List Value), (R C (.arr c0 f0) (.cel (.arr c0 s) (fun i => xs[i]?) 0)) → xs.length = c0 * s.size → (∃ v' w', (Builtin.append_ #[t, t] o.type #[ρc x, ρc y]).run P C.w = .ok v' w' ∧ w'.ownsRow C.w.heap.size et s.size v' (c0 + k) (xs ++ news) ∧ C.w.grownBy w' none) →
      Does P (execOp ρc o) C.w (Post B C (put M n ⟨.row n s (c0 + k), [], [⟨.row et, .arr (c0 + k) s, .arr (c0 + k) (appF c0 f0 f)⟩], rd⟩) (fun id => n ≤ id ∧ id < n + 1) (.row n s (c0 + k))) := by
    rintro xs hR0 hlen ⟨v', w', q1, q2, q3⟩
    rcases q2.2 with ⟨_, q4⟩ | ⟨g, cap, cur, q4, q5, r⟩
    · omega
    · exact does_rerow (old := none) hs hn' (fun x h => by cases h) (fun x h => by cases h) (append_run ho q1) ⟨q2.1, .inr ⟨g, cap, cur, q4, Nat.le_trans hs.base q5, r⟩⟩ q3 (.inr ⟨g, by rw [q4]; rfl, q5⟩) fun C' hk => R.keep hk _ _ (appF_R hR0 hlen h1 h4)
  rcases Nat.eq_zero_or_pos c0 with h0 | hq
  · subst h0
    refine hfin [] ⟨s, rfl, fun i hi => by omega⟩ (by simp) ?_
    cases a0 with
    | none =>
      have hmb : k * i.bytes ≤ 281474976710656 := by rw [Nat.zero_add] at hbytes; omega
      have hr := run_append_nil (P := P) C.w t o.type et i zv hu hi hzv ⟨b, ob, none⟩ k c news (by rw [hsz]; exact h1) h2 hk (by unfold maxLen at h63; omega) hmb
      rw [p1', hyv]
      refine ⟨_, _, hr, ?_, ⟨rfl, rfl, rfl, by simp, fun k hk _ => Below.heap_alloc C.w.drew _ k hk⟩⟩
      have hge := grownCap_ge C.w k 0 et
      refine ⟨by simpa using h1, .inr ⟨C.w.heap.size, _, _, by simp, Nat.le_refl _, heap_alloc_new C.w.drew _, by omega, grownCap_le_maxLen C.w k 0 et (by omega), ?_, ?_⟩⟩
      · simp only [Array.size_append, List.size_toArray, size_zeroCells, hcz, h1, ← Nat.add_mul]
        congr 1; omega
      · simp only [Array.toList_append, List.nil_append, Nat.zero_add, ← h1]
        exact List.take_left
    | some a0 =>
      obtain ⟨v', w', q1, q2, q3⟩ := run_append_arg_grows (P := P) C.w t o.type et i zv s.size i.bytes hu hi hzv hsz rfl hcz hpos a0 0 0 [] (by simp) (by simp) ⟨b, ob, none⟩ k c news h1 h2 (by omega) h63 hbytes
      rw [p1', hyv]
      exact ⟨v', w', q1, q2, q3⟩
  · have hH0 : Holds C a0 s c0 f0 := by
      rcases p4 with p4 | ⟨b0, o0, q1, q2, q3⟩
      · omega
      · exact .inr ⟨b0, o0, q1, hs.okLt _ _ q2, fun i hi => R.keep (Keep.of_pur C) _ _ (q3 i hi)⟩
    obtain ⟨b0, o0, xs, q0, q1, q2, q3, q4⟩ := holds_news hq hH0
    subst q0
    refine hfin xs ⟨s, rfl, fun i hi => by simpa using q4 i hi⟩ q1 ?_
    obtain ⟨v', w', r1, r2, r3⟩ := run_append_arg_grows (P := P) C.w t o.type et i zv s.size i.bytes hu hi hzv hsz rfl hcz hpos ⟨b0, o0, none⟩ c0 c0 xs q1 q2 ⟨b, ob, none⟩ k c news h1 h2 (by omega) h63 hbytes
    rw [p1', hyv]
    exact ⟨v', w', r1, r2, r3⟩

/-- What is copied. -/
def cpF (off cnt : Nat) (f0 f : Nat → V) : Nat → V := fun j => V.ite (decide (off ≤ j) && decide (j < off + cnt)) (f (j - off)) (f0 j)
omit [Gl] in
theorem copy_run {C : Ctx} {x y : Operand} {t t' : TypeId} {ρc : Operand → Value} {v : Value} {w' : World} (ho : o.op = .call ⟨.builtin .copy, #[x, y], #[t, t']⟩) (h : (Builtin.copy_ #[t, t'] o.type #[ρc x, ρc y]).run P C.w = .ok v w') : (execOp ρc o).run P C.w = .ok (.value v) w' := by
  simp [execOp, ho, resolve, invoke, builtin, h]
/-- Part of an array of its own is written over. -/
theorem does_over {C : Ctx} {M : Mem} {id : Nat} {blk : Blk} {p : List Step} {N off cnt : Nat} {e : Shape} {f0 f : Nat → V} {news : List Value} {b d : Nat} {op : Sem Next} {v : Value} {w1 : V} (hs : SR B C M) (hm : M id = some blk) (ha : blk.alive = true)
    (hb : blk? (C.sv id) = some b) (hp : Shape.path p (C.shp id) = some (d, .arr N e)) (hv0 : blk.v.path p = .arr N f0) (hle0 : off + cnt ≤ N) (hl : news.length = cnt * e.size) (h1 : ∀ u ∈ news, u.oneCell' = true)
    (hR : ∀ i, i < cnt → R C (f i) (.cel e (fun i => news[i]?) (i * e.size))) (hw1 : ∀ C', R C' w1 (.val v))
    (hrun : ∀ w', (storeCells ⟨b, d + off * e.size, none⟩ news).run P C.w = .ok () w' → op.run P C.w = .ok (.value v) w') :
    Does P op C.w (Post B C (upd M id (some ⟨blk.k, blk.sh, V.set p (.arr N (cpF off cnt f0 f)) blk.v⟩)) (fun i => n ≤ i ∧ i < n + 0) w1) := by
  have hbr := hs.mem id blk hm
  have hle := Shape.path_le p _ hp
  have hz : (off + cnt) * e.size ≤ N * e.size := Nat.mul_le_mul_right _ hle0
  rw [Nat.add_mul] at hz
  have hsz : (Shape.arr N e).size = N * e.size := rfl
  rw [hsz] at hle
  -- what lies there afterwards
  have over : ∀ (C' : Ctx) (g g' : Nat → Option Value), Keep C C' → R C blk.v (.cel blk.sh g 0) → Shape.path p blk.sh = some (d, .arr N e) → (∀ j, g' j = if d + off * e.size ≤ j ∧ j < d + off * e.size + cnt * e.size then news[j - (d + off * e.size)]? else g j) →
      R C' (V.set p (.arr N (cpF off cnt f0 f)) blk.v) (.cel blk.sh g' 0) := by
    intro C' g g' hk h0 hp' hg
    refine R.set p (R.keep hk _ _ h0) hp' (fun j hj => ?_) ?_
    · rw [hg, if_neg]
      simp only [Nat.zero_add, hsz] at hj
      omega
    · have h2 := R.path p h0 hp'
      rw [hv0] at h2
      obtain ⟨e', q1, q2⟩ := h2
      cases q1
      refine ⟨e, rfl, fun j hj => ?_⟩
      show R C' (V.ite (decide (off ≤ j) && decide (j < off + cnt)) (f (j - off)) (f0 j)) _
      rw [V.ite_eq]
      by_cases hin : off ≤ j ∧ j < off + cnt
      · rw [show (decide (off ≤ j) && decide (j < off + cnt)) = true by simp [hin], cond_true]
        refine R.keep hk _ _ (R.shift _ (hR (j - off) (by omega)) fun k hk2 => ?_)
        have h3 : j * e.size = off * e.size + (j - off) * e.size := by rw [← Nat.add_mul]; congr 1; omega
        have h4 : (j - off + 1) * e.size ≤ cnt * e.size := Nat.mul_le_mul_right _ (by omega)
        rw [Nat.add_mul] at h4
        rw [hg, if_pos (by omega)]
        congr 1; omega
      · rw [show (decide (off ≤ j) && decide (j < off + cnt)) = false by simpa using hin, cond_false]
        refine R.keep hk _ _ (R.shift _ (q2 j hj) fun k hk2 => ?_)
        rw [hg, if_neg]
        intro hc
        rcases Nat.lt_or_ge j off with h5 | h5
        · have h6 : (j + 1) * e.size ≤ off * e.size := Nat.mul_le_mul_right _ h5
          rw [Nat.add_mul] at h6; omega
        · have h6 : (off + cnt) * e.size ≤ j * e.size := Nat.mul_le_mul_right _ (by omega)
          rw [Nat.add_mul] at h6; omega
  have key : ∃ cur e', C.w.heap[b]? = some (.cells cur e' (0, 0)) ∧ d + off * e.size + cnt * e.size ≤ cur.size ∧
      ∀ C' : Ctx, Keep C C' → C'.sv id = C.sv id → C'.shp id = C.shp id → C'.w = C.w.setRow b (cur.toList.take (d + off * e.size) ++ news ++ cur.toList.drop (d + off * e.size + news.length)).toArray →
        BR B C' id ⟨blk.k, blk.sh, V.set p (.arr N (cpF off cnt f0 f)) blk.v⟩ := by
    unfold BR at hbr; unfold Blk.alive at ha
    cases hkd : blk.k <;> simp only [hkd] at hbr ha
    · obtain ⟨g, cur, e', h2, h3, h4, h5, h6, h7⟩ := hbr
      rw [h2] at hb; simp only [blk?, Option.some.injEq] at hb; subst hb
      rw [h5] at hp
      have hle2 := Shape.path_le p _ hp
      rw [hsz] at hle2
      refine ⟨cur, e', h4, by omega, fun C' hk' e1 e2 e3 => ?_⟩
      show BR B C' id ⟨.box, blk.sh, _⟩
      refine ⟨g, _, e', by rw [e1]; exact h2, h3, by rw [e3]; exact setRow_heap C.w g cur _ e' _ h4, by rw [e2]; exact h5, ?_, over C' _ _ hk' h7 hp fun j => ?_⟩
      · rw [List.size_toArray, size_take_drop _ _ _ (by rw [hl]; omega)]; exact h6
      · simp only [List.getElem?_toArray]
        rw [get_splice _ _ _ (by rw [hl]; omega), hl]
    · obtain ⟨n1, s1, cells, h2, h3, h4, h5⟩ := hbr
      rw [h2] at hp
      have hle2 := Shape.path_le p _ hp
      rw [hsz] at hle2
      obtain ⟨h40, h4⟩ := h4
      rcases h4 with ⟨h8, _⟩ | ⟨g, cap, cur, hv, hg, hh, hnc, hcm, hcs, htake⟩
      · rw [h8] at hb; simp [blk?] at hb
      · rw [hv] at hb; simp only [blk?, Option.some.injEq] at hb; subst hb
        rename_i e'
        have hsz2 : blk.sh.size = n1 * s1.size := by rw [h3]; rfl
        have hcz : n1 * s1.size ≤ cur.size := by rw [hcs]; exact Nat.mul_le_mul_right _ hnc
        refine ⟨cur, e', hh, by omega, fun C' hk' e1 e2 e3 => ?_⟩
        show BR B C' id ⟨.row e', blk.sh, _⟩
        refine ⟨n1, s1, (cur.toList.take (d + off * e.size) ++ news ++ cur.toList.drop (d + off * e.size + news.length)).take (n1 * s1.size), by rw [e2]; exact h2, h3, ⟨?_, .inr ⟨g, cap, _, by rw [e1]; exact hv, hg, by rw [e3]; exact setRow_heap C.w g cur _ e' _ hh, hnc, hcm, ?_, ?_⟩⟩, over C' _ _ hk' h5 hp fun j => ?_⟩
        · rw [List.length_take, size_take_drop _ _ _ (by rw [hl]; omega)]; omega
        · rw [List.size_toArray, size_take_drop _ _ _ (by rw [hl]; omega)]; exact hcs
        · rfl
        · have hcell : ∀ j, j < n1 * s1.size → cells[j]? = cur[j]? := by
            intro j hj; rw [← htake, List.getElem?_take, if_pos hj]; simp
          by_cases hj2 : j < n1 * s1.size
          · rw [List.getElem?_take, if_pos hj2, get_splice _ _ _ (by rw [hl]; omega), hl, hcell j hj2]
          · rw [List.getElem?_take, if_neg hj2, if_neg (by omega)]
            exact (List.getElem?_eq_none (by rw [h40]; omega)).symm
    · simp at ha
  obtain ⟨cur, e', k1, k2, k3⟩ := key
  have hst := run_storeCells_at P b (d + off * e.size) e' news 0 cur C.w k1 (by rw [hl]; simpa using k2) h1
  simp only [Nat.add_zero] at hst
  have hr := hrun _ hst
  unfold Does
  rw [hr]
  obtain ⟨h2, h3⟩ := hs.write hm ha hb (cur.toList.take (d + off * e.size) ++ news ++ cur.toList.drop (d + off * e.size + news.length)).toArray k3
  exact ⟨_, rfl, hw1 _, h3, h2, fun id h => .inl h⟩
/-- Another tree for what lies there. -/
theorem does_same {C : Ctx} {M : Mem} {id : Nat} {blk : Blk} {v' : V} {op : Sem Next} {v : Value} {w1 : V} (hs : SR B C M) (hm : M id = some blk) (hv : ∀ g, R C blk.v (.cel blk.sh g 0) → R C v' (.cel blk.sh g 0)) (hw1 : R C w1 (.val v)) (hrun : op.run P C.w = .ok (.value v) C.w) :
    Does P op C.w (Post B C (upd M id (some ⟨blk.k, blk.sh, v'⟩)) (fun i => n ≤ i ∧ i < n + 0) w1) := by
  unfold Does
  rw [hrun]
  refine ⟨C, rfl, hw1, Kp.refl B C, ?_, fun id h => .inl h⟩
  have hx : ∀ i b, upd M id (some ⟨blk.k, blk.sh, v'⟩) i = some b → ∃ b', M i = some b' ∧ b'.alive = b.alive := by
    intro i b h
    by_cases hi : i = id
    · subst hi; simp only [upd_same, Option.some.injEq] at h; subst h; exact ⟨blk, hm, rfl⟩
    · rw [upd_other _ _ hi] at h; exact ⟨b, h, rfl⟩
  refine hs.next (Kp.refl B C) (fun i => i = id) (fun i hi => upd_other _ _ hi) (fun _ _ _ _ _ _ _ => rfl) ?_ hs.okLt ?_ ?_
  · intro i b hi h
    subst hi
    simp only [upd_same, Option.some.injEq] at h
    subst h
    refine ⟨hs.al i blk hm, ?_⟩
    have hb := hs.mem i blk hm
    unfold BR at hb ⊢
    cases hkd : blk.k <;> simp only [hkd] at hb ⊢
    · obtain ⟨g, cur, e', h1, h2, h3, h4, h5, h6⟩ := hb; exact ⟨g, cur, e', h1, h2, h3, h4, h5, hv _ h6⟩
    · obtain ⟨n1, s1, cells, h1, h2, h3, h4⟩ := hb; exact ⟨n1, s1, cells, h1, h2, h3, hv _ h4⟩
  · intro i i' b1 b2 b h1 h2 h3 h4 hi h5 h6
    obtain ⟨c1, q1, q2⟩ := hx i b1 h1
    obtain ⟨c2, q3, q4⟩ := hx i' b2 h3
    exact hs.sep i i' c1 c2 b q1 (by rw [q2]; exact h2) q3 (by rw [q4]; exact h4) h5 h6
  · intro i b1 b h1 h2 h3
    obtain ⟨c1, q1, q2⟩ := hx i b1 h1
    exact hs.own i c1 b q1 (by rw [q2]; exact h2) h3
theorem sem_copy {t et t' : TypeId} {x y : Operand} {id off len N k : Nat} {p : List Step} {cap : Option Nat} {e : Shape} {blk : Blk} {f0 f : Nat → V} {rd : List Nat} {i : TypeInfo} (ho : o.op = .call ⟨.builtin .copy, #[x, y], #[t, t']⟩) (hx : ρ x = .sl id p e off len cap)
    (hm : m id = some blk) (ha : blk.alive = true) (hv0 : blk.v.path p = .arr N f0) (hy : srcW m e (ρ y) = some (e, k, f, rd)) (hu : P.underlying t = some (.slice et)) (hi : P.info? et = some i) (hz : i.size = e.size) :
    OpSem P B o ρ m n ⟨.int .i64 (min k len : Nat), [(id, ⟨blk.k, blk.sh, V.set p (.arr N (cpF off (min k len) f0 f)) blk.v⟩)], [], rd⟩ := by
  intro C M ρc hs hrd hup _ hrel
  obtain ⟨rx, ry⟩ := two_rel (ρ := ρ) ho hrel
  obtain ⟨a, c, hyv, hc, hH⟩ := srcW_s hs hy hrd ry
  rw [hx] at rx
  obtain ⟨hal, ad, c2, o1, n2, h3, h4, h5, h2, h8, h6⟩ := rx
  have h3' : ρc x = .slice ad len c2 := h3
  have hM : M id = some blk := by
    have := hup (id, ⟨blk.k, blk.sh, V.set p (.arr N (cpF off (min k len) f0 f)) blk.v⟩) (by simp)
    simp only at this
    rw [this]; exact hm
  rw [put_up]
  have hshp : C.shp id = blk.sh ∧ ∃ g, R C blk.v (.cel blk.sh g 0) := by
    have hb := hs.mem id blk hM
    unfold BR at hb; unfold Blk.alive at ha
    cases hkd : blk.k <;> simp only [hkd] at hb ha
    · obtain ⟨g, cur, e', _, _, _, h4, _, h6⟩ := hb; exact ⟨h4, _, h6⟩
    · obtain ⟨n1, s1, cells, h1, _, _, h4⟩ := hb; exact ⟨h1, _, h4⟩
    · simp at ha
  have hN : n2 = N := by
    obtain ⟨h9, g, h10⟩ := hshp
    rw [h9] at h2
    have h11 := R.path p h10 h2
    rw [hv0] at h11
    obtain ⟨e', q1, _⟩ := h11
    cases q1; rfl
  subst hN
  rcases Nat.eq_zero_or_pos (min k len) with h0 | hq
  · refine does_same hs hM (fun g hg => ?_) (v := .int .i64 (min k len : Nat)) rfl (copy_run ho ?_)
    · obtain ⟨h9, _⟩ := hshp
      rw [h9] at h2
      refine R.set p hg h2 (fun _ _ => rfl) ?_
      have h11 := R.path p hg h2
      rw [hv0] at h11
      obtain ⟨e', q1, q2⟩ := h11
      cases q1
      refine ⟨e, rfl, fun j hj => ?_⟩
      show R C (V.ite (decide (off ≤ j) && decide (j < off + min k len)) (f (j - off)) (f0 j)) _
      have : (decide (off ≤ j) && decide (j < off + min k len)) = false := by
        simp; try omega
      rw [this, V.ite_false]; exact q2 j hj
    · have hl : ∀ (x : Addr), (loadCells x 0).run P C.w = .ok #[] C.w := fun x => by simpa using run_loadCells_list (P := P) C.w x [] (by simp)
      have h0' : k.min len = 0 := h0
      rw [h3', hyv]
      simp [Builtin.copy_, run_underlying hu, Builtin.lenOf, run_sizeOf' hi, hz, goInt, h0', h0]
      cases ad <;> cases a <;> simp [Builtin.firstCells, hl, storeCells]
  rcases h6 with h6 | ⟨b, h1, h6⟩
  · omega
  subst h6
  -- what is copied
  have hH' : Holds C a e (min k len) f := by
    rcases hH with hH | ⟨b, o, q1, q2, q3⟩
    · omega
    · exact .inr ⟨b, o, q1, q2, fun i hi => q3 i (by omega)⟩
  obtain ⟨b', ob, news, q0, q1, q2, q3, q4⟩ := holds_news hq hH'
  subst q0
  have r4 : (Builtin.firstCells e.size (min k len) (ρc y)).run P C.w = .ok news.toArray C.w := by
    rw [hyv]
    exact run_firstCells_some (P := P) C.w e.size (min k len) ⟨b', ob, none⟩ k c news q1 q2
  refine does_over hs hM ha h1 h2 hv0 (by omega) q1 q3 q4 (v := .int .i64 (min k len : Nat)) (fun _ => rfl) fun w' hw => copy_run ho ?_
  rw [hyv] at r4
  simp [Builtin.copy_, run_underlying hu, h3', hyv, Builtin.lenOf, run_sizeOf' hi, hz, goInt]
  rw [show k.min len = min k len from rfl, r4]
  simp [hw]
end
end Go.Ab
