/- Closed contracts whose results lie in new memory, that nobody writes any more; contracts over open arguments. No condition. Runs over open numbers beside closed ones: contracts may be handed from one to the other. No condition. -/
import Derived.Test.YtfpmealbbibhpaaGreatDoorK13
set_option linter.unusedVariables false
set_option linter.unusedSimpArgs false
set_option linter.constructorNameAsVariable false
namespace Go.K
open Go.Ab Go.RowKit Go.Y
noncomputable section
def frC (br : Bool) (C : Ctx) (B : Nat) : Ctx := { C.pur with ok := fun u b => (br = true ∧ u = true ∧ C.ok true b) ∨ (B ≤ b ∧ b < C.w.heap.size) }
section
variable [Gl] {br : Bool} {B : Nat} {C : Ctx} {M : Mem}
theorem R.row_fr (hs : SR B C M) {id n : Nat} {e : Shape} {blk : Blk} {n1 : Nat} {f g : Nat → V} {md : Ab.M} {u : Bool} (hM : M id = some blk) (ha : blk.alive = true) (hv : blk.v = .arr n1 f)
    (hg : ∀ i, i < n → ∀ md, R C (f i) md → R (frC br C B) (g i) md) (hr : R C (.row id e n) md) : R (frC br C B) (.ro u false e n g) md := by
  obtain ⟨hal, ⟨a, c, h1⟩, h2, h3⟩ := hr
  have hbr := hs.mem id blk hM
  unfold BR at hbr; unfold Blk.alive at ha
  cases hkd : blk.k <;> simp only [hkd] at hbr ha
  · obtain ⟨g, cur, e', h4, _⟩ := hbr; rw [h1] at h4; cases h4
  · obtain ⟨n2, s2, cells, h4, h5, h6, h7⟩ := hbr
    rw [h4, h5] at h2
    simp only [Shape.arr.injEq] at h2
    obtain ⟨rfl, rfl⟩ := h2
    refine ⟨a, c, by rw [← h1]; exact h3, ?_, (by intro hc; cases hc), ?_⟩
    · rcases h6.2 with ⟨h8, h9⟩ | ⟨g, cap, cur, hv', hg, hh, hnc, _⟩
      · rw [h1] at h8; cases h8; omega
      · rw [h1] at hv'; cases hv'; exact hnc
    · rcases h6.2 with ⟨h8, h9⟩ | ⟨q, cap, cur, hv', hq, hh, hnc, _, hcs, htake⟩
      · exact .inl h9
      · right
        rw [h1] at hv'
        simp only [Value.slice.injEq] at hv'
        obtain ⟨rfl, _, rfl⟩ := hv'
        refine ⟨q, 0, rfl, .inr ⟨hq, (Array.getElem?_eq_some_iff.1 hh).1⟩, fun i hi => ?_⟩
        have hb' : blk? (C.sv id) = some q := by rw [h1]; rfl
        have hpa : Shape.path [.idx i] (C.shp id) = some (0 + i * s2.size, s2) := by rw [h4, h5]; simp [Shape.path, Shape.step, hi]
        obtain ⟨h10, _⟩ := BR.at (hs.mem id blk hM) (by unfold Blk.alive; rw [hkd]) hb' hpa
        rw [hv] at h10
        have h11 : R C (f i) (.cel s2 (cg C.w q) (0 + i * s2.size)) := by simpa [V.path, V.step] using h10
        exact hg i hi _ h11
  · simp at ha
  · simp at ha
  · simp at ha
theorem R.sl_fr (hs : SR B C M) {id off len : Nat} {p : List Step} {cap : Option Nat} {e : Shape} {blk : Blk} {n1 : Nat} {f g : Nat → V} {md : Ab.M} {u : Bool} (hM : M id = some blk) (ha : blk.alive = true) (hv : blk.v.path p = .arr n1 f)
    (hg : ∀ i, i < len → ∀ md, R C (f (off + i)) md → R (frC br C B) (g i) md) (hr : R C (.sl id p e off len cap) md) : R (frC br C B) (.ro u (capIs cap len) e len g) md := by
  obtain ⟨hal, ad, c, o1, n2, h3, h4, h5, h2, h8, h6⟩ := hr
  refine ⟨ad, c, h3, h4, (fun hc => h5 _ (capIs_eq hc)), h6.imp (fun h => by omega) ?_⟩
  rintro ⟨b, h1, h6⟩
  obtain ⟨h7, _⟩ := BR.at (hs.mem id blk hM) ha h1 h2
  rw [hv] at h7
  obtain ⟨e', q1, h9⟩ := h7
  simp only [Shape.arr.injEq] at q1
  obtain ⟨rfl, rfl⟩ := q1
  refine ⟨b, o1 + off * e.size, h6, .inr (hs.lt hM (Blk.lv ha) (blkL_of h1)), fun i hi => ?_⟩
  have h10 : R C (f (off + i)) (.cel e (cg C.w b) (o1 + off * e.size + i * e.size)) := by rw [Nat.add_assoc, ← Nat.add_mul]; exact h9 (off + i) (by omega)
  exact hg i hi _ h10
theorem R.ptr_fr (hs : SR B C M) {id : Nat} {p : List Step} {s : Shape} {blk : Blk} {g : V} {md : Ab.M} {u : Bool} (hM : M id = some blk) (ha : blk.alive = true)
    (hg : ∀ md, R C (blk.v.path p) md → R (frC br C B) g md) (hr : R C (.ptr id p s) md) : R (frC br C B) (.ref u s g) md := by
  obtain ⟨hal, b, off, h1, h2, h3⟩ := hr
  obtain ⟨h7, _⟩ := BR.at (hs.mem id blk hM) ha h1 h2
  have hlt := hs.lt hM (Blk.lv ha) (blkL_of h1)
  exact ⟨b, off, h3, .inr hlt, hg _ h7⟩
omit [Gl] in
theorem R.cons_map {D : Ctx} {a b a' b' : V} (h1 : ∀ m, R C a m → R D a' m) (h2 : ∀ m, R C b m → R D b' m) {m : Ab.M} (h : R C (.cons a b) m) : R D (.cons a' b') m := by
  cases m with
  | cel s g off => obtain ⟨a, b, q1, q2, q3⟩ := h; exact ⟨a, b, q1, h1 _ q2, h2 _ q3⟩
  | val v => obtain ⟨cs, a, b, q1, q2, q3, q4⟩ := h; exact ⟨cs, a, b, q1, q2, h1 _ q3, h2 _ q4⟩
  | list l => obtain ⟨y, ys, q1, q2, q3⟩ := h; exact ⟨y, ys, q1, h1 _ q2, h2 _ q3⟩
omit [Gl] in
theorem R.arr_map {D : Ctx} {n : Nat} {f g : Nat → V} (h1 : ∀ i, i < n → ∀ m, R C (f i) m → R D (g i) m) {m : Ab.M} (h : R C (.arr n f) m) : R D (.arr n g) m := by
  cases m with
  | cel s g off => obtain ⟨e, q1, q2⟩ := h; exact ⟨e, q1, fun i hi => h1 i hi _ (q2 i hi)⟩
  | val v => obtain ⟨cs, e, q1, q2, q3⟩ := h; exact ⟨cs, e, q1, q2, fun i hi => h1 i hi _ (q3 i hi)⟩
  | list l => exact h
omit [Gl] in
theorem R.tup_map {D : Ctx} {a a' : V} (h1 : ∀ m, R C a m → R D a' m) {m : Ab.M} (h : R C (.tup a) m) : R D (.tup a') m := by
  cases m with
  | val v => obtain ⟨cs, q1, q2⟩ := h; exact ⟨cs, q1, h1 _ q2⟩
  | cel => exact h
  | list => exact h
omit [Gl] in
theorem R.fn_map {D : Ctx} {f : FuncId} {a a' : V} (hf : f < 8589934592) (h1 : ∀ m, R C a m → R D a' m) {m : Ab.M} (h : R C (.fn f a) m) : R D (.fn f a') m := by
  obtain ⟨cs, q1, q2, q3⟩ := h; exact ⟨cs, by rw [cs.vw_lt hf] at q1 ⊢; exact q1, h1 _ q2, .lt hf⟩
end
variable [KGl]
def lfB (v : KV) : Bool := match v with
  | .int .. | .bool _ | .str .. | .nl | .pk .. | .nilp | .nils | .nilf | .unk => true
  | _ => false
def fzBk (f : KV → KV → Bool) (b : Option KBlk) (g : KV → Bool) (w : KV) : Bool := match b with
  | some b => nd (isAl b.k) (nd (g b.v) (f b.v w))
  | none => false
def ubK (v : KV) : Bool := @KV.rec (fun _ => Bool) (fun x0 x1 => true) (fun x0 => true) (fun x0 x1 => true) (true) (fun x0 x1 r0 r1 => nd r0 r1) (fun x0 x1 x2 => true) (fun x0 x1 x2 r0 r1 => nd r0 r1) (true) (fun x0 x1 x2 x3 r0 r1 r2 r3 => nd r0 (nd r1 (nd r2 r3))) (fun x0 x1 x2 x3 x4 r0 r1 r2 r3 r4 => nd r0 (nd r1 (nd r2 (nd r3 r4)))) (fun x0 x1 x2 => false) (fun x0 x1 x2 => false) (fun x0 x1 x2 x3 x4 x5 => false) (fun x0 x1 x2 r0 => nd x0 r0) (true) (true) (true) (fun x0 x1 x2 x3 x4 x5 r0 => nd x0 r0) (fun x0 x1 r0 => nd (Nat.blt x0 8589934592) r0) (fun x0 r0 => r0) (true) (fun x0 => false) v
def fzS (br : Bool) (zm : KZ) (ih : KV → KV → Bool) (v w : KV) : Bool := match v with
  | .cons a b => match w with
    | .cons a' b' => nd (ih a a') (ih b b')
    | _ => false
  | .tup a => match w with
    | .tup a' => ih a a'
    | _ => false
  | .fn f a => match w with
    | .fn f' a' => nd (Nat.beq f f') (nd (Nat.blt f 8589934592) (ih a a'))
    | _ => false
  | .ar n d t => match w with
    | .ar n' d' t' => nd (Nat.beq n n') (nd (ih d d') (ih t t'))
    | _ => false
  | .te => match w with
    | .te => true
    | _ => false
  | .tb a b c d => match w with
    | .tb a' b' c' d' => nd (ih a a') (nd (ih b b') (nd (ih c c') (ih d d')))
    | _ => false
  | .tn x a b c d => match w with
    | .tn x' a' b' c' d' => nd (ih x x') (nd (ih a a') (nd (ih b b') (nd (ih c c') (ih d d'))))
    | _ => false
  | .row id e len => match w with
    | .ro _ false e' off len' c => nd (e.beq e') (nd (Nat.beq off 0) (nd (Nat.beq len len') (fzBk ih (kb zm id) (fun b => nd (arK b) (Nat.ble len (arZ b))) c)))
    | _ => false
  | .ptr id p s => match w with
    | .ref _ s' c => nd (s.beq s') (fzBk (fun b c => ih (kpath p b) c) (kb zm id) (fun b => pthOk p b) c)
    | _ => false
  | .sl id p e off len cap => match w with
    | .ro _ cl e' off' len' c => nd (e.beq e') (nd (Nat.beq off off') (nd (Nat.beq len len') (nd (cl == capIs cap len) (fzBk (fun b c => ih (kpath p b) c) (kb zm id) (fun b => nd (pthOk p b) (nd (arK (kpath p b)) (Nat.ble (Nat.add off len) (arZ (kpath p b))))) c))))
    | _ => false
  | .ref u _ c => nd br (nd u (nd (ubK c) (kvb v w)))
  | .ro u _ _ _ _ c => nd br (nd u (nd (ubK c) (kvb v w)))
  | v => nd (lfB v) (kvb v w)
def fzG (br : Bool) (zm : KZ) (k : Nat) : KV → KV → Bool := @Nat.rec (fun _ => KV → KV → Bool) (fun _ _ => false) (fun _ ih v w => fzS br zm ih v w) k
def fzB (zm : KZ) (k : Nat) : KV → KV → Bool := fzG false zm k
omit [KGl] in
theorem fzBk_s {f : KV → KV → Bool} {b : Option KBlk} {g : KV → Bool} {w : KV} (h : fzBk f b g w = true) : ∃ kd sh v, b = some ⟨kd, sh, v⟩ ∧ isAl kd = true ∧ g v = true ∧ f v w = true := by
  unfold fzBk at h
  split at h
  · rename_i b
    simp only [nd_iff] at h
    exact ⟨b.k, b.sh, b.v, rfl, h.1, h.2.1, h.2.2⟩
  · cases h
def FzR (br : Bool) (B : Nat) (C : Ctx) (x y : V) : Prop := ∀ m, R C x m → R (frC br C B) y m
omit [KGl] in
theorem R.leaf_fr {br : Bool} {B : Nat} {C : Ctx} {v : KV} (h : lfB v = true) : FzR br B C v.v v.v := by
  intro m hr
  refine R.noref _ ?_ hr
  cases v with
  | pk k n x =>
    rw [v_pk]
    show ((List.range n).all fun i => noRef (.int k (pkg k x i))) = true
    rw [List.all_eq_true]; intro i _; rfl
  | int _ _ => rfl
  | bool _ => rfl
  | str _ _ => rfl
  | nl => rfl
  | nilp => rfl
  | nils => rfl
  | nilf => rfl
  | unk => rfl
  | _ => cases h
omit [KGl] in
theorem subT_rel {P : V → V → Prop} {a b c d a' b' c' d' : Pth → V → V} (h1 : ∀ p z z', P z z' → P (a p z) (a' p z')) (h2 : ∀ p z z', P z z' → P (b p z) (b' p z')) (h3 : ∀ p z z', P z z' → P (c p z) (c' p z')) (h4 : ∀ p z z', P z z' → P (d p z) (d' p z')) (g : Dg) (p : Pth) (z z' : V) (hz : P z z') : P (subT g a b c d p z) (subT g a' b' c' d' p z') := by
  cases g
  · exact h1 p z z' hz
  · exact h2 p z z' hz
  · exact h3 p z z' hz
  · exact h4 p z z' hz
omit [KGl] in
theorem FzR.unk {br : Bool} {B : Nat} {C : Ctx} : FzR br B C .unk .unk := fun m hr => by cases m <;> exact hr
def FzA (br : Bool) (B : Nat) (C : Ctx) (v w : KV) : Prop := FzR br B C v.v w.v ∧ (∀ p z z', FzR br B C z z' → FzR br B C (v.atv p z) (w.atv p z')) ∧ ∀ i, FzR br B C (v.v.step (.idx i)) (w.v.step (.idx i))
def allT : V → Prop
  | .ptr .. | .row .. | .sl .. | .yld _ => False
  | .ref u _ c => u = true ∧ allT c
  | .ro u _ _ len f => u = true ∧ ∀ i, i < len → allT (f i)
  | .cons a b => allT a ∧ allT b
  | .arr k f => ∀ i, i < k → allT (f i)
  | .fn f c => f < 8589934592 ∧ allT c
  | .tup l => allT l
  | _ => True
omit [KGl] in
theorem R.allT (v : V) : ∀ {C D : Ctx} {m : Ab.M}, Go.K.allT v → (∀ b, C.ok true b → D.ok true b) → D.w = C.w → R C v m → R D v m := by
  induction v with
  | cons x t ih1 ih2 =>
    intro C D m hl ho hw h
    cases m with
    | cel s g off => obtain ⟨a, b, h1, h2, h3⟩ := h; exact ⟨a, b, h1, ih1 hl.1 ho hw h2, ih2 hl.2 ho hw h3⟩
    | val v => obtain ⟨cs, a, b, h1, h2, h3, h4⟩ := h; exact ⟨cs, a, b, h1, h2, ih1 hl.1 ho hw h3, ih2 hl.2 ho hw h4⟩
    | list l => obtain ⟨y, ys, h1, h2, h3⟩ := h; exact ⟨y, ys, h1, ih1 hl.1 ho hw h2, ih2 hl.2 ho hw h3⟩
  | arr n f ih =>
    intro C D m hl ho hw h
    cases m with
    | cel s g off => obtain ⟨e, h1, h2⟩ := h; exact ⟨e, h1, fun i hi => ih i (hl i hi) ho hw (h2 i hi)⟩
    | val v => obtain ⟨cs, e, h1, h2, h3⟩ := h; exact ⟨cs, e, h1, h2, fun i hi => ih i (hl i hi) ho hw (h3 i hi)⟩
    | list l => exact h
  | ref u s c ih =>
    intro C D m hl ho hw h
    obtain ⟨rfl, hl⟩ := hl
    obtain ⟨b, o, h1, h2, h3⟩ := h
    exact ⟨b, o, h1, ho _ h2, by rw [hw]; exact ih (C := C.pur) (D := D.pur) hl ho hw h3⟩
  | ro u clip e len f ih =>
    intro C D m hl ho hw h
    obtain ⟨rfl, hl⟩ := hl
    obtain ⟨a, c, h1, h2, h3, h4⟩ := h
    refine ⟨a, c, h1, h2, h3, h4.imp id ?_⟩
    rintro ⟨b, o, h5, h6, h7⟩
    exact ⟨b, o, h5, ho _ h6, fun i hi => by rw [hw]; exact ih i (C := C.pur) (D := D.pur) (hl i hi) ho hw (h7 i hi)⟩
  | fn f c ih => intro C D m hl ho hw h; obtain ⟨cs, h1, h2, h3⟩ := h; exact ⟨cs, by rw [cs.vw_lt hl.1] at h1 ⊢; exact h1, ih hl.2 ho hw h2, .lt hl.1⟩
  | tup l ih =>
    intro C D m hl ho hw h
    cases m with
    | val v => obtain ⟨cs, h1, h2⟩ := h; exact ⟨cs, h1, ih hl ho hw h2⟩
    | cel => exact h
    | list => exact h
  | nl => intro C D m _ ho hw h; cases m <;> exact h
  | unk => intro C D m _ ho hw h; cases m <;> exact h
  | ptr => intro C D m hl; exact hl.elim
  | row => intro C D m hl; exact hl.elim
  | sl => intro C D m hl; exact hl.elim
  | yld => intro C D m hl; exact hl.elim
  | _ => intro C D m _ ho hw h; exact h
omit [KGl] in
theorem ubK_s (v : KV) : ubK v = true → Go.K.allT v.v ∧ (∀ (p : Pth) (z : V), Go.K.allT z → Go.K.allT (v.atv p z)) ∧ ∀ i, Go.K.allT (v.v.step (.idx i)) := by
  induction v with
  | cons a b ih1 ih2 =>
    intro h
    obtain ⟨h1, h2⟩ := nd_iff.1 (show nd (ubK a) (ubK b) = true from h)
    exact ⟨⟨(ih1 h1).1, (ih2 h2).1⟩, fun p z hz => hz, fun i => trivial⟩
  | ar m d t ih1 ih2 =>
    intro h
    obtain ⟨h1, h2⟩ := nd_iff.1 (show nd (ubK d) (ubK t) = true from h)
    exact ⟨fun i _ => (ih2 h2).2.1 _ _ (ih1 h1).1, fun p z hz => hz, fun i => (ih2 h2).2.1 _ _ (ih1 h1).1⟩
  | tb a b c d ih1 ih2 ih3 ih4 =>
    intro h
    have h0 : nd (ubK a) (nd (ubK b) (nd (ubK c) (ubK d))) = true := h
    simp only [nd_iff] at h0
    refine ⟨trivial, fun p z hz => ?_, fun i => trivial⟩
    cases p with
    | nil => exact hz
    | cons g p =>
      cases g
      · exact (ih1 h0.1).2.1 p z hz
      · exact (ih2 h0.2.1).2.1 p z hz
      · exact (ih3 h0.2.2.1).2.1 p z hz
      · exact (ih4 h0.2.2.2).2.1 p z hz
  | tn x a b c d ih0 ih1 ih2 ih3 ih4 =>
    intro h
    have h0 : nd (ubK x) (nd (ubK a) (nd (ubK b) (nd (ubK c) (ubK d)))) = true := h
    simp only [nd_iff] at h0
    refine ⟨trivial, fun p z hz => ?_, fun i => trivial⟩
    cases p with
    | nil => exact (ih0 h0.1).1
    | cons g p =>
      cases g
      · exact (ih1 h0.2.1).2.1 p z hz
      · exact (ih2 h0.2.2.1).2.1 p z hz
      · exact (ih3 h0.2.2.2.1).2.1 p z hz
      · exact (ih4 h0.2.2.2.2).2.1 p z hz
  | ptr id p s => intro h; cases h
  | row id s k => intro h; cases h
  | sl id p s off len cap => intro h; cases h
  | yld id => intro h; cases h
  | fn f c ih => intro h; obtain ⟨h1, h2⟩ := nd_iff.1 (show nd (Nat.blt f 8589934592) (ubK c) = true from h); exact ⟨⟨nblt.1 h1, (ih h2).1⟩, fun p z hz => hz, fun i => trivial⟩
  | tup l ih => intro h; exact ⟨(ih h).1, fun p z hz => hz, fun i => trivial⟩
  | ref u s c ih => intro h; obtain ⟨h1, h2⟩ := nd_iff.1 (show nd u (ubK c) = true from h); exact ⟨⟨h1, (ih h2).1⟩, fun p z hz => hz, fun i => trivial⟩
  | ro u cl e off len c ih =>
    intro h
    obtain ⟨h1, h2⟩ := nd_iff.1 (show nd u (ubK c) = true from h)
    refine ⟨⟨h1, fun i _ => ?_⟩, fun p z hz => hz, fun i => trivial⟩
    exact (ih h2).2.2 _
  | pk k m x => intro h; exact ⟨fun i _ => trivial, fun p z hz => hz, fun i => trivial⟩
  | _ => intro h; exact ⟨trivial, fun p z hz => hz, fun i => trivial⟩
omit [KGl] in
theorem R.allT_fr {B : Nat} {C : Ctx} {v : KV} (h : ubK v = true) : FzR true B C v.v v.v := fun m hr => R.allT v.v (ubK_s v h).1 (fun b hb => .inl ⟨rfl, rfl, hb⟩) rfl hr
theorem fzG_s {br : Bool} {zm : KZ} {B : Nat} {C : Ctx} {M : Mem} (hs : SR B C M) (hsub : Sub (am zm) M) : ∀ (k : Nat) (v w : KV), fzG br zm k v w = true → FzA br B C v w
  | 0, _, _, h => by cases h
  | k + 1, v, w, h => by
    have ih := fzG_s (br := br) hs hsub k
    replace h : fzS br zm (fzG br zm k) v w = true := h
    have leaf : lfB v = true → fzS br zm (fzG br zm k) v w = nd (lfB v) (kvb v w) → FzA br B C v w := by
      intro hl he
      rw [he] at h
      obtain ⟨h1, h2⟩ := nd_iff.1 h
      obtain rfl := kvb_s h2
      refine ⟨R.leaf_fr h1, fun p z z' hz => ?_, fun i => ?_⟩
      · cases v <;> first | exact hz | cases hl
      · cases v <;> first | exact FzR.unk | exact (fun m hr => hr) | cases hl
    cases v with
    | int _ _ => exact leaf rfl rfl
    | bool _ => exact leaf rfl rfl
    | str _ _ => exact leaf rfl rfl
    | nl => exact leaf rfl rfl
    | pk _ _ _ => exact leaf rfl rfl
    | nilp => exact leaf rfl rfl
    | nils => exact leaf rfl rfl
    | nilf => exact leaf rfl rfl
    | unk => exact leaf rfl rfl
    | yld _ => cases w <;> cases h
    | ref u s c =>
      have h0 : nd br (nd u (nd (ubK c) (kvb (.ref u s c) w))) = true := h
      simp only [nd_iff] at h0
      obtain ⟨h1, h2, h3, h4⟩ := h0
      obtain rfl := kvb_s h4
      subst h1; subst h2
      exact ⟨R.allT_fr (by exact h3), fun p z z' hz => hz, fun i => FzR.unk⟩
    | ro u cl e off len c =>
      have h0 : nd br (nd u (nd (ubK c) (kvb (.ro u cl e off len c) w))) = true := h
      simp only [nd_iff] at h0
      obtain ⟨h1, h2, h3, h4⟩ := h0
      obtain rfl := kvb_s h4
      subst h1; subst h2
      exact ⟨R.allT_fr (by exact h3), fun p z z' hz => hz, fun i => FzR.unk⟩
    | cons a b =>
      cases w with
      | cons a' b' =>
        obtain ⟨h1, h2⟩ := nd_iff.1 (show nd (fzG br zm k a a') (fzG br zm k b b') = true from h)
        exact ⟨fun m hr => R.cons_map (ih _ _ h1).1 (ih _ _ h2).1 hr, fun p z z' hz => hz, fun i => FzR.unk⟩
      | _ => cases h
    | tup a =>
      cases w with
      | tup a' => exact ⟨fun m hr => R.tup_map (ih _ _ (show fzG br zm k a a' = true from h)).1 hr, fun p z z' hz => hz, fun i => FzR.unk⟩
      | _ => cases h
    | fn f a =>
      cases w with
      | fn f' a' =>
        obtain ⟨h1, h2⟩ := nd_iff.1 (show nd (Nat.beq f f') (nd (Nat.blt f 8589934592) (fzG br zm k a a')) = true from h)
        obtain ⟨h3, h2⟩ := nd_iff.1 h2
        obtain rfl := beqE h1
        exact ⟨fun m hr => R.fn_map (nblt.1 h3) (ih _ _ h2).1 hr, fun p z z' hz => hz, fun i => FzR.unk⟩
      | _ => cases h
    | ar n d t =>
      cases w with
      | ar n' d' t' =>
        have h0 : nd (Nat.beq n n') (nd (fzG br zm k d d') (fzG br zm k t t')) = true := h
        simp only [nd_iff] at h0
        obtain rfl := beqE h0.1
        have hel : ∀ i, FzR br B C (t.atv (enc i) d.v) (t'.atv (enc i) d'.v) := fun i => (ih _ _ h0.2.2).2.1 (enc i) _ _ (ih _ _ h0.2.1).1
        exact ⟨fun m hr => R.arr_map (f := fun i => t.atv (enc i) d.v) (g := fun i => t'.atv (enc i) d'.v) (fun i _ => hel i) hr, fun p z z' hz => hz, fun i => hel i⟩
      | _ => cases h
    | te =>
      cases w with
      | te => exact ⟨FzR.unk, fun p z z' hz => hz, fun i => FzR.unk⟩
      | _ => cases h
    | tb a b c d =>
      cases w with
      | tb a' b' c' d' =>
        have h0 : nd (fzG br zm k a a') (nd (fzG br zm k b b') (nd (fzG br zm k c c') (fzG br zm k d d'))) = true := h
        simp only [nd_iff] at h0
        refine ⟨FzR.unk, fun p z z' hz => ?_, fun i => FzR.unk⟩
        cases p with
        | nil => exact hz
        | cons g p => exact subT_rel (P := FzR br B C) (ih _ _ h0.1).2.1 (ih _ _ h0.2.1).2.1 (ih _ _ h0.2.2.1).2.1 (ih _ _ h0.2.2.2).2.1 g p z z' hz
      | _ => cases h
    | tn x a b c d =>
      cases w with
      | tn x' a' b' c' d' =>
        have h0 : nd (fzG br zm k x x') (nd (fzG br zm k a a') (nd (fzG br zm k b b') (nd (fzG br zm k c c') (fzG br zm k d d')))) = true := h
        simp only [nd_iff] at h0
        refine ⟨FzR.unk, fun p z z' hz => ?_, fun i => FzR.unk⟩
        cases p with
        | nil => exact (ih _ _ h0.1).1
        | cons g p => exact subT_rel (P := FzR br B C) (ih _ _ h0.2.1).2.1 (ih _ _ h0.2.2.1).2.1 (ih _ _ h0.2.2.2.1).2.1 (ih _ _ h0.2.2.2.2).2.1 g p z z' hz
      | _ => cases h
    | row id e len =>
      cases w with
      | ro u cl e' off len' c =>
        cases cl with
        | true => cases h
        | false =>
          have h0 : nd (e.beq e') (nd (Nat.beq off 0) (nd (Nat.beq len len') (fzBk (fzG br zm k) (kb zm id) (fun b => nd (arK b) (Nat.ble len (arZ b))) c))) = true := h
          simp only [nd_iff] at h0
          obtain ⟨h1, h2, h3, h4⟩ := h0
          obtain rfl := Shape.eq_of_beq h1
          obtain rfl := beqE h2
          obtain rfl := beqE h3
          obtain ⟨kd, sh, b, hb, q1, q2, q3⟩ := fzBk_s h4
          obtain ⟨q2, q4⟩ := nd_iff.1 q2
          obtain ⟨n, f, hf, hf'⟩ := arK_s q2
          refine ⟨fun m hr => ?_, fun p z z' hz => hz, fun i => FzR.unk⟩
          rw [v_ro]
          refine R.row_fr hs (hsub _ _ (am_some hb)) (by rw [KBlk.b, isAl_eq]; exact q1) (f := f) (by rw [KBlk.b]; exact hf) (fun i hi md hri => ?_) hr
          rw [hf', kidx_v] at hri
          rw [Nat.zero_add]
          exact (ih _ _ q3).2.2 i md hri
      | _ => cases h
    | ptr id p s =>
      cases w with
      | ref u s' c =>
        have h0 : nd (s.beq s') (fzBk (fun b c => fzG br zm k (kpath p b) c) (kb zm id) (fun b => pthOk p b) c) = true := h
        obtain ⟨h1, h4⟩ := nd_iff.1 h0
        obtain rfl := Shape.eq_of_beq h1
        obtain ⟨kd, sh, b, hb, q1, q2, q3⟩ := fzBk_s h4
        refine ⟨fun m hr => ?_, fun p z z' hz => hz, fun i => FzR.unk⟩
        rw [v_ref]
        refine R.ptr_fr hs (hsub _ _ (am_some hb)) (by rw [KBlk.b, isAl_eq]; exact q1) (fun md hri => ?_) hr
        rw [KBlk.b] at hri
        rw [← kpath_v p b q2] at hri
        exact (ih _ _ q3).1 md hri
      | _ => cases h
    | sl id p e off len cap =>
      cases w with
      | ro u cl e' off' len' c =>
        have h0 : nd (e.beq e') (nd (Nat.beq off off') (nd (Nat.beq len len') (nd (cl == capIs cap len) (fzBk (fun b c => fzG br zm k (kpath p b) c) (kb zm id) (fun b => nd (pthOk p b) (nd (arK (kpath p b)) (Nat.ble (Nat.add off len) (arZ (kpath p b))))) c)))) = true := h
        simp only [nd_iff] at h0
        obtain ⟨h1, h2, h3, h5, h4⟩ := h0
        obtain rfl := Shape.eq_of_beq h1
        obtain rfl := beqE h2
        obtain rfl := beqE h3
        rw [beq_iff_eq] at h5
        subst h5
        obtain ⟨kd, sh, b, hb, q1, q2, q3⟩ := fzBk_s h4
        simp only [nd_iff] at q2
        obtain ⟨q2, q4, q5⟩ := q2
        obtain ⟨n, f, hf, hf'⟩ := arK_s q4
        refine ⟨fun m hr => ?_, fun p z z' hz => hz, fun i => FzR.unk⟩
        rw [v_ro]
        refine R.sl_fr hs (hsub _ _ (am_some hb)) (by rw [KBlk.b, isAl_eq]; exact q1) (f := f) (n1 := n) (by rw [KBlk.b, ← kpath_v p b q2]; exact hf) (fun i hi md hri => ?_) hr
        rw [hf', kidx_v] at hri
        exact (ih _ _ q3).2.2 (off + i) md hri
      | _ => cases h
theorem csoundF {E : KEnv} (hE : KOk E) {n k fid : Nat} {args : List KV} {w : KV} (h : callR E (krun E n) 0 fid args .e 0 0 fun r zm _ _ => tK (fzB zm k r w)) :
    CSoundG E.P fid { pre := fun l => @decide (l = args.map KV.v) (Classical.propDecidable _), res := fun _ => w.v, fresh := true } := by
  have hme : MB (am (.e : KZ)) 0 := by rw [am_e]; exact emptyB 0
  refine ⟨(callR_s (B := 0) (krun_ok hE n) hE h hme (Nat.le_refl 0)).1, fun C l vals hok hg hargs hpre => ?_⟩
  have hl : l = args.map KV.v := @of_decide_eq_true _ (Classical.propDecidable _) hpre
  subst hl
  obtain ⟨_, r, zm', nx', mx', h1, h2, h3⟩ := callR_s (B := C.w.heap.size) (krun_ok hE n) hE h hme (Nat.le_refl 0)
  have h4 := tK_s h1
  have hz : GR C.w.heap.size (nx' + mx') C.pur (fun _ => none) (am .e) 0 :=
    ⟨⟨Nat.le_refl _, hok, (fun _ _ h => (by cases h)), (fun _ _ h => (by cases h)), (fun _ _ _ _ _ h => (by cases h)), (fun _ _ _ h => (by cases h)), hg⟩, (fun id b hb => by rw [am_e] at hb; cases hb), fun _ _ _ h => h⟩
  refine (h3 (nx' + mx') C.pur (fun _ => none) vals (by omega) (by omega) hz hargs).mono ?_
  rintro e w' ⟨val, he, C', M', hw, hR, hz', hc⟩
  subst hw
  refine ⟨hc.kp.below, val, he, ?_⟩
  have h5 := (fzG_s (br := false) hz'.sr hz'.sub k r w h4).1 _ hR
  refine R.keep (C := frC false C' C.w.heap.size) ?_ _ _ h5
  exact ⟨fun _ h => h.elim, fun _ h => h.elim, fun _ h => h.elim, fun u b hb => hb.elim (fun h => by cases h.1) Or.inr, fun _ _ _ => rfl⟩
omit [KGl] in
theorem unL_mkL' (l : List V) : unL (mkL l) = l := by
  induction l with
  | nil => rfl
  | cons x r ih => show x :: unL (mkL r) = _; rw [ih]
theorem kconF_s {E : KEnv} (hE : KOk E) {n k fid : Nat} {args : List KV} {w : KV} (h : callR E (krun E n) 0 fid args .e 0 0 fun r zm _ _ => tK (fzB zm k r w)) : KCS E.P fid (kcon args w) := by
  have hc := csoundF hE h
  refine ⟨hc.1, fun l K hs => ?_⟩
  obtain ⟨h1, h2⟩ := chk_inv hs
  obtain rfl := kvbs_s h1
  refine ⟨w, h2, fun B μ nx mx l0 hl0 => ?_⟩
  have := con_call (B := B) (μ := μ) (nx := nx) (mx := mx) hE.gn hc rfl hl0 (by rw [unL_mkL']; exact @decide_eq_true _ (Classical.propDecidable _) rfl)
  exact this
theorem kcsP {P : Program} {fid : FuncId} {s : KSpec} (hf : ∃ fn, P.funcs[fid]? = some fn ∧ (fn.name == "runtime.NumGoroutine") = false ∧ fn.body.isNone = false)
    (h : ∀ l K, s l K → ∃ E : KEnv, KOk E ∧ E.P = P ∧ ∃ (n : Nat) (Q : KV → Prop) (w : KV), K w ∧ noRef w.v = true ∧ (∀ r : KV, Q r → Imp r.v w.v) ∧ callR E (krun E n) 0 fid l .e 0 0 fun r _ _ _ => Q r) : KCS P fid s := by
  refine ⟨hf, fun l K hs => ?_⟩
  obtain ⟨E, hE, rfl, n, Q, w, h1, h2, h3, h4⟩ := h l K hs
  have hc : CSoundG E.P fid { pre := fun l' => @decide (l' = l.map KV.v) (Classical.propDecidable _), res := fun _ => w.v, fresh := true } := by
    have hme : MB (am (.e : KZ)) 0 := by rw [am_e]; exact emptyB 0
    refine ⟨hf, fun C l' vals hok hg hargs hpre => ?_⟩
    have hl : l' = l.map KV.v := @of_decide_eq_true _ (Classical.propDecidable _) hpre
    subst hl
    obtain ⟨_, r, zm', nx', mx', q1, q2, q3⟩ := callR_s (B := C.w.heap.size) (krun_ok hE n) hE h4 hme (Nat.le_refl 0)
    have hz : GR C.w.heap.size (nx' + mx') C.pur (fun _ => none) (am .e) 0 :=
      ⟨⟨Nat.le_refl _, hok, (fun _ _ h => (by cases h)), (fun _ _ h => (by cases h)), (fun _ _ _ _ _ h => (by cases h)), (fun _ _ _ h => (by cases h)), hg⟩, (fun id b hb => by rw [am_e] at hb; cases hb), fun _ _ _ h => h⟩
    refine (q3 (nx' + mx') C.pur (fun _ => none) vals (by omega) (by omega) hz hargs).mono ?_
    rintro e w' ⟨val, he, C', M', hw, hR, _, hc⟩
    subst hw
    exact ⟨hc.kp.below, val, he, R.noref _ h2 (h3 r q1 _ _ hR)⟩
  refine ⟨w, h1, fun B μ nx mx l0 hl0 => ?_⟩
  exact con_call (B := B) (μ := μ) (nx := nx) (mx := mx) hE.gn hc rfl hl0 (by rw [unL_mkL']; exact @decide_eq_true _ (Classical.propDecidable _) rfl)
theorem kcsE {P : Program} {fid : FuncId} {s : KSpec} (hf : ∃ fn, P.funcs[fid]? = some fn ∧ (fn.name == "runtime.NumGoroutine") = false ∧ fn.body.isNone = false)
    (h : ∀ l K, s l K → ∃ E : KEnv, KOk E ∧ E.P = P ∧ ∃ n v w, K w ∧ noRef w.v = true ∧ Imp v.v w.v ∧ callR E (krun E n) 0 fid l .e 0 0 fun r _ _ _ => r = v) : KCS P fid s :=
  kcsP hf fun l K hs => by
    obtain ⟨E, hE, hP, n, v, w, h1, h2, h3, h4⟩ := h l K hs
    exact ⟨E, hE, hP, n, fun r => r = v, w, h1, h2, fun r hr => by rw [hr]; exact h3, h4⟩
theorem kcsQ {E : KEnv} (hE : KOk E) {fid : Nat} {s : KSpec} (hf : ∃ fn, E.P.funcs[fid]? = some fn ∧ (fn.name == "runtime.NumGoroutine") = false ∧ fn.body.isNone = false)
    (h : ∀ l K, s l K → ∃ n v w, K w ∧ noRef w.v = true ∧ Imp v.v w.v ∧ callR E (krun E n) 0 fid l .e 0 0 fun r _ _ _ => r = v) : KCS E.P fid s :=
  kcsE hf fun l K hs => ⟨E, hE, rfl, h l K hs⟩
def errQ (e : KV) (r : KV) : Prop := onTup (fun l => onCons (fun _ b => onCons (fun c d => onNl (tK (kvb c e)) (BadN 320) d) (BadN 321) b) (BadN 322) l) (BadN 323) r
omit [KGl] in
theorem errQ_s {e r : KV} (h : errQ e r) : Imp r.v (KV.tup (.cons .unk (.cons e .nl))).v := by
  rcases onTup_inv h with ⟨l, rfl, h1⟩ | ⟨_, h1⟩
  · rcases onCons_inv h1 with ⟨a, b, rfl, h2⟩ | ⟨_, h2⟩
    · rcases onCons_inv h2 with ⟨c, d, rfl, h3⟩ | ⟨_, h3⟩
      · rcases onNl_inv h3 with ⟨rfl, h4⟩ | ⟨_, h4⟩
        · obtain rfl := kvb_s (tK_s h4)
          rintro C m hr
          cases m with
          | val v =>
            obtain ⟨cs, q1, y, ys, q2, q3, q4⟩ := hr
            exact ⟨cs, q1, y, ys, q2, trivial, q4⟩
          | cel => exact hr
          | list => exact hr
        · exact h4.elim
      · exact h3.elim
    · exact h2.elim
  · exact h1.elim
theorem kcsF {P : Program} {fid : FuncId} {s : KSpec} (hf : ∃ fn, P.funcs[fid]? = some fn ∧ (fn.name == "runtime.NumGoroutine") = false ∧ fn.body.isNone = false)
    (h : ∀ l K, s l K → ∃ E : KEnv, KOk E ∧ E.P = P ∧ ∃ n k w, K w ∧ callR E (krun E n) 0 fid l .e 0 0 fun r zm _ _ => tK (fzB zm k r w)) : KCS P fid s := by
  refine ⟨hf, fun l K hs => ?_⟩
  obtain ⟨E, hE, rfl, n, k, w, h1, h4⟩ := h l K hs
  have hc := csoundF hE h4
  refine ⟨w, h1, fun B μ nx mx l0 hl0 => ?_⟩
  exact con_call (B := B) (μ := μ) (nx := nx) (mx := mx) hE.gn hc rfl hl0 (by rw [unL_mkL']; exact @decide_eq_true _ (Classical.propDecidable _) rfl)
end
end Go.K
namespace Go.K
open Go.Ab Go.RowKit Go.Y
noncomputable section
theorem SR.inst {i j : Gl} (h : ∀ g, i.G g = j.G g) {B : Nat} {C : Ctx} {m : Mem} (s : @SR i B C m) : @SR j B C m := by
  obtain ⟨q1, q2, q3, q4, q5, q6, q7⟩ := s
  exact @SR.mk j B C m q1 q2 q3 q4 q5 q6 fun g => by rw [← h g]; exact q7 g
theorem GR.inst {i j : Gl} (h : ∀ g, i.G g = j.G g) {B H : Nat} {C : Ctx} {M μ : Mem} {nx : Nat} (s : @GR i B H C M μ nx) : @GR j B H C M μ nx := by
  obtain ⟨q1, q2, q3⟩ := s
  exact @GR.mk j B H C M μ nx (SR.inst h q1) q2 q3
theorem Lend.inst {i j : Gl} (h : ∀ g, i.G g = j.G g) {B : Nat} {μ : Mem} {l0 l : List V} (s : @Lend i B μ l0 l) : @Lend j B μ l0 l :=
  fun C M vals hs hm hr => s C M vals (SR.inst (fun g => (h g).symm) hs) hm hr
theorem GCall.inst {i j : Gl} (h : ∀ g, i.G g = j.G g) {P : Program} {B : Nat} {fid : FuncId} {l : List V} {μ μ' : Mem} {nx nx' mx' : Nat} {v : V} (s : @GCall i P B fid l μ nx v μ' nx' mx') : @GCall j P B fid l μ nx v μ' nx' mx' := by
  intro H C M vals h1 h2 hz hl
  refine (s H C M vals h1 h2 (GR.inst (fun g => (h g).symm) hz) hl).mono ?_
  rintro e w' ⟨val, he, C', M', hw, hR, hz', hc⟩
  exact ⟨val, he, C', M', hw, hR, GR.inst h hz', hc⟩
@[reducible] def opnG (k : KGl) : KGl := { g := k.g, cl := false }
theorem KCS.opn {k : KGl} {P : Program} {fid : FuncId} {s : KSpec} (h : @KCS k P fid s) : @KCS (opnG k) P fid s := by
  refine ⟨h.1, fun l K hs => ?_⟩
  obtain ⟨v, h1, h2⟩ := h.2 l K hs
  exact ⟨v, h1, fun B μ nx mx l0 hl => GCall.inst (i := @instGl k) (j := @instGl (opnG k)) (fun _ => rfl) (h2 B μ nx mx l0 (Lend.inst (i := @instGl (opnG k)) (j := @instGl k) (fun _ => rfl) hl))⟩
theorem KCS.cls {k : KGl} {P : Program} {fid : FuncId} {s : KSpec} (h : @KCS (opnG k) P fid s) : @KCS k P fid s := by
  refine ⟨h.1, fun l K hs => ?_⟩
  obtain ⟨v, h1, h2⟩ := h.2 l K hs
  exact ⟨v, h1, fun B μ nx mx l0 hl => GCall.inst (i := @instGl (opnG k)) (j := @instGl k) (fun _ => rfl) (h2 B μ nx mx l0 (Lend.inst (i := @instGl k) (j := @instGl (opnG k)) (fun _ => rfl) hl))⟩
theorem KCSb.opn {k : KGl} {P : Program} {fid : FuncId} {s : KSpec} (h : @KCSb k P fid s) : @KCSb (opnG k) P fid s := by
  refine ⟨h.1, fun l K hs => ?_⟩
  obtain ⟨v, h1, h2⟩ := h.2 l K hs
  exact ⟨v, h1, fun hb B μ nx mx => GCall.inst (i := @instGl k) (j := @instGl (opnG k)) (fun _ => rfl) (h2 hb B μ nx mx)⟩
def ctL (l : List (Nat × KSpec)) (f : FuncId) : Option KSpec := @List.rec (Nat × KSpec) (fun _ => Option KSpec) none (fun x _ ih => @Bool.rec (fun _ => Option KSpec) ih (some x.2) (Nat.beq f x.1)) l
def allC [KGl] (P : Program) : List (Nat × KSpec) → Prop
  | [] => True
  | x :: l => KCS P x.1 x.2 ∧ allC P l
theorem ctL_s [KGl] {P : Program} : ∀ {l : List (Nat × KSpec)}, allC P l → ∀ f s, ctL l f = some s → KCS P f s
  | [], _, f, s, h => by cases h
  | x :: l, hl, f, s, h => by
    replace h : @Bool.rec (fun _ => Option KSpec) (ctL l f) (some x.2) (Nat.beq f x.1) = some s := h
    cases h1 : Nat.beq f x.1 with
    | true =>
      rw [h1] at h; cases h
      obtain rfl := beqE h1
      exact hl.1
    | false => rw [h1] at h; exact ctL_s hl.2 f s h
def sDead : KSpec := fun _ _ => False
theorem sDead_s [KGl] {P : Program} {fid : FuncId} (hf : ∃ fn, P.funcs[fid]? = some fn ∧ (fn.name == "runtime.NumGoroutine") = false ∧ fn.body.isNone = false) : KCS P fid sDead := ⟨hf, fun _ _ h => h.elim⟩
def KEnv.tab (E : KEnv) (l : List (Nat × KSpec)) : KEnv := { E with ct := ctL l }
theorem KOk.tab [KGl] {E : KEnv} (hE : KOk E) {l : List (Nat × KSpec)} (h : allC E.P l) : KOk (E.tab l) := ⟨hE.fns, ctL_s h, hE.gn, hE.mixed, hE.ex, hE.cb, hE.as⟩
theorem AsOk.opn {k : KGl} {P : Program} {f T PT : Nat} (h : @AsOk k P f T PT) : @AsOk (opnG k) P f T PT :=
  ⟨h.1, fun B μ nx mx id s x y h1 h2 h3 h4 => GCall.inst (i := @instGl k) (j := @instGl (opnG k)) (fun _ => rfl) (h.2 B μ nx mx id s x y h1 h2 h3 h4)⟩
def allCb [KGl] (P : Program) : List (Nat × KSpec) → Prop
  | [] => True
  | x :: l => KCSb P x.1 x.2 ∧ allCb P l
theorem ctLb_s [KGl] {P : Program} : ∀ {l : List (Nat × KSpec)}, allCb P l → ∀ f s, ctL l f = some s → KCSb P f s
  | [], _, f, s, h => by cases h
  | x :: l, hl, f, s, h => by
    replace h : @Bool.rec (fun _ => Option KSpec) (ctL l f) (some x.2) (Nat.beq f x.1) = some s := h
    cases h1 : Nat.beq f x.1 with
    | true =>
      rw [h1] at h; cases h
      obtain rfl := beqE h1
      exact hl.1
    | false => rw [h1] at h; exact ctLb_s hl.2 f s h
def KEnv.tabB (E : KEnv) (l : List (Nat × KSpec)) : KEnv := { E with cb := ctL l }
theorem KOk.tabB [KGl] {E : KEnv} (hE : KOk E) {l : List (Nat × KSpec)} (h : allCb E.P l) : KOk (E.tabB l) := ⟨hE.fns, hE.ct, hE.gn, hE.mixed, hE.ex, ctLb_s h, hE.as⟩
theorem KOk.opn {k : KGl} {E : KEnv} (h : @KOk k E) : @KOk (opnG k) E := by
  obtain ⟨h1, h2, h3, h4, h5, h6, h7⟩ := h
  exact @KOk.mk (opnG k) E h1 (fun f s hs => (h2 f s hs).opn) h3 h4 h5 (fun f s hs => (h6 f s hs).opn) (fun f T PT hs => (h7 f T PT hs).opn)
theorem Imp.tup {a b : V} (h : Imp a b) : Imp (.tup a) (.tup b) := fun C m hr => R.tup_map (fun m hr => h C m hr) hr
theorem Imp.consL {a b a' b' : V} (h1 : ∀ C x, R C a (.val x) → R C a' (.val x)) (h2 : ∀ C l, R C b (.list l) → R C b' (.list l)) : ∀ C l, R C (.cons a b) (.list l) → R C (.cons a' b') (.list l) := by
  rintro C l ⟨y, ys, q1, q2, q3⟩
  exact ⟨y, ys, q1, h1 _ _ q2, h2 _ _ q3⟩
theorem Imp.tupL {a b : V} (h : ∀ C l, R C a (.list l) → R C b (.list l)) : Imp (.tup a) (.tup b) := fun C m hr => by
  cases m with
  | val v => obtain ⟨cs, q1, q2⟩ := hr; exact ⟨cs, q1, h _ _ q2⟩
  | cel => exact hr
  | list => exact hr
end
end Go.K
