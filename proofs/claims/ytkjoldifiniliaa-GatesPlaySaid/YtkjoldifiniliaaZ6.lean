/- Values put together; new slices. No condition. -/
import Derived.Test.YtkjoldifiniliaaZ5
set_option linter.unusedVariables false
set_option linter.unusedSimpArgs false
set_option linter.constructorNameAsVariable false
namespace Go.Ab
open Go.RowKit
noncomputable section
section
variable {P : Program} {B : Nat} {o : Oper} {tm zm : Tr X} {nx : Pth} {T : Tr TI} {K : KT}

theorem sem_build' {ρ : Operand → V} {m : Mem} {n : Nat} {t : TypeId} {parts : Array (Nat × Operand)} {s : Shape} {z : V} {st : Bool} {pl : Nat → Option (Nat × Nat)} (ho : o.op = .build t parts) (hz : ZeroIs P t s z) (hp : places P t = some (st, pl))
    (hb : bok s st pl (parts.toList.map fun x => (x.1, ρ x.2)) = true) : OpSem P B o ρ m n (pureE (bset st z (parts.toList.map fun x => (x.1, ρ x.2)))) :=
  OpSem.pure fun C M ρc _ _ hrel => by
    obtain ⟨h1, i, zv, h2, hzv, hc1, hc2⟩ := hz
    obtain ⟨cells', e1, e2, e3⟩ := fill_ok (ρ := ρ) (ρc := ρc) (C := C) parts.toList _ zv.cells (R.held _ hc2) hc1 hb (fun x hx => hrel x.2 (by simp [ho, Op.operands]; exact ⟨x.1, by simpa using hx⟩))
    have hbuilt : P.built t (parts.map fun (i, x) => (i, ρc x)).toList = some cells' := by
      unfold Program.built
      unfold places at hp
      have : (parts.map fun (i, x) => (i, ρc x)).toList = parts.toList.map fun x => (x.1, ρc x.2) := by simp
      rw [this]
      cases hu : P.underlying t with
      | none => rw [hu] at hp; simp at hp
      | some d =>
        rw [hu] at hp
        cases d <;> simp at hp
        · obtain ⟨ie, hie, rfl, rfl⟩ := hp
          simp only [h2, hzv, hie]; exact e1
        · obtain ⟨l, hl, rfl, rfl⟩ := hp
          simp only [h2, hzv, hl]; simpa using e1
    have hns : s ≠ .sc := by
      intro hsc
      unfold places at hp
      obtain ⟨_, _, _, hag⟩ := tshape_size h1
      rw [hsc] at hag
      unfold agg? at hag
      cases hu : P.underlying t with
      | none => rw [hu] at hp; simp at hp
      | some d => rw [hu] at hp hag; cases d <;> simp [Shape.isSc] at hp hag
    exact ⟨.agg cells', by simp [execOp, ho, run_build C.w t _ _ hbuilt], R.agg_val e3 hns e2⟩

/-- One part after the other: its place's number is looked for by 'ck'. -/
def bldK (T : Tr TI) (tm : Tr X) (st : Bool) (ck : Nat → (Nat → Prop) → Prop) (ps : List (Nat × Operand)) : X → (X → Prop) → Prop :=
  @List.rec (Nat × Operand) (fun _ => X → (X → Prop) → Prop) (fun v K => K v)
    (fun p _ ih v K => @Prod.rec Nat Operand (fun _ => Prop) (fun i op => ck i fun ci => tyK T ci fun c sc _ k => ifP (Nat.beq c ci) (evK tm op fun x => okSt c sc k x (setXK (tagOk c sc k) x [bRec st (.fld i) (.idx i)] v fun v => ih v K))) p) ps

theorem bldK_inv (hT : TTok P T) (hws : WFS P tm) {st : Bool} {ck : Nat → (Nat → Prop) → Prop} {s : Shape} {pl : Nat → Option (Nat × Nat)}
    (hck : ∀ i f, ck i f → ∃ ci d, s.step (bstep st i) = some (d, shOf P ci) ∧ pl i = some (d, (shOf P ci).size) ∧ f ci) :
    ∀ (ps : List (Nat × Operand)) (v : X) (K : X → Prop), WF P v → shX P v = s → bldK T tm st ck ps v K →
      ∃ w, K w ∧ WF P w ∧ shX P w = s ∧ w.toV P = bset st (v.toV P) (ps.map fun x => (x.1, rho P tm x.2)) ∧ bok s st pl (ps.map fun x => (x.1, rho P tm x.2)) = true
  | [], v, K, hv, hs, h => ⟨v, h, hv, hs, rfl, rfl⟩
  | (i, op) :: ps, v, K, hv, hs, h0 => by
    have h1 : ck i (fun ci => tyK T ci fun c sc _ k => ifP (Nat.beq c ci) (evK tm op fun x => okSt c sc k x (setXK (tagOk c sc k) x [bRec st (.fld i) (.idx i)] v fun v => bldK T tm st ck ps v K))) := h0
    obtain ⟨ci, d, hst, hpl, h2⟩ := hck _ _ h1
    obtain ⟨c, sc, z, k, ht, h3⟩ := tyK_inv hT h2
    obtain ⟨hc, h4⟩ := ifP_inv h3
    obtain rfl := nbeq hc
    rw [evK_eq] at h4
    obtain ⟨hf, h5⟩ := okSt_inv ht h4
    have hw := hf.wf (evO_wf hws op)
    have hb : (bRec st (Step.fld i) (.idx i)) = bstep st i := by cases st <;> rfl
    rw [hb] at h5
    obtain ⟨h6, h7, h8⟩ := setXK_inv (fun w q hq => tagOk_inv ht w q hq) hw hf.sh _ v _ hv h5
    obtain ⟨w, k1, k2, k3, k4, k5⟩ := bldK_inv hT hws hck ps _ K h7 (h8.trans hs) h6
    refine ⟨w, k1, k2, k3, ?_, ?_⟩
    · rw [k4, toV_set, evO_toV]; rfl
    · simp only [List.map_cons, bok, hst, hpl, beq_self_eq_true, Bool.true_and, k5, Bool.and_true, Bool.and_eq_true]
      exact ⟨by rw [← evO_toV, ← hf.sh]; exact hw.fits, by rw [← evO_toV]; exact hf.known⟩

def z_build (T : Tr TI) (tm : Tr X) (t : TypeId) (ps : Array (Nat × Operand)) (zm : Tr X) (nx : Pth) (K : KT) : Prop :=
  tyK T t fun c sc z k => okSt c sc k z (@TK.rec (fun _ => Prop) (fun _ => False) False False (fun cs _ => bldK T tm true (fun i f => nthN cs i f) ps.toList z (kk zm nx K))
    (fun n e _ => bldK T tm false (fun i f => ifP (Nat.ble (Nat.succ i) n) (f e)) ps.toList z (kk zm nx K)) (fun _ _ _ => False) False k)
theorem z_build_inv (hT : TTok P T) {t : TypeId} {ps : Array (Nat × Operand)} (ho : o.op = .build t ps) (hwm : WFM P zm) (hws : WFS P tm) (h0 : z_build T tm t ps zm nx K) : ∃ v zm' nx' up rd e, ZStep P B o tm zm zm' nx nx' v up rd e ∧ K v zm' nx' up rd := by
  obtain ⟨c, sc, z, k, ht, h1⟩ := tyK_inv hT h0
  obtain ⟨hf, h2⟩ := okSt_inv ht h1
  rcases ht.z with rfl | ⟨hz1, hz2, hz3⟩
  · have := hf.known; simp [X.toV, V.known] at this
  cases k with
  | struct cs ts =>
    obtain ⟨pl, hpl, hall⟩ := ht.k
    obtain ⟨w, k1, k2, k3, k4, k5⟩ := bldK_inv (st := true) (pl := pl) (s := shOf P c) hT hws (fun i f hi => by
      obtain ⟨ci, hci, hf⟩ := nthN_inv hi
      obtain ⟨d, _, h3, h4⟩ := hall i ci hci
      exact ⟨ci, d, h3, h4, hf⟩) _ _ _ hz1 hz2 h2
    refine ⟨_, _, _, _, _, _, ZStep.pure hwm (.one k2) ?_ noRd, k1⟩
    rw [k4]
    exact sem_build' ho hz3 hpl k5
  | array n e te =>
    obtain ⟨_, hsh, pl, hpl, hall⟩ := ht.k
    obtain ⟨w, k1, k2, k3, k4, k5⟩ := bldK_inv (st := false) (pl := pl) (s := shOf P c) hT hws (fun i f hi => by
      obtain ⟨hb, hf⟩ := ifP_inv hi
      refine ⟨e, i * (shOf P e).size, ?_, hall i, hf⟩
      rw [hsh]
      simp only [bstep, Shape.step, Bool.false_eq_true, if_false, ble_lt hb, if_true]) _ _ _ hz1 hz2 h2
    refine ⟨_, _, _, _, _, _, ZStep.pure hwm (.one k2) ?_ noRd, k1⟩
    rw [k4]
    exact sem_build' ho hz3 hpl k5
  | _ => exact False.elim h2

/-- A new slice of the function's own, over all of a new row. -/
theorem does_newsl {C : Ctx} {M : Mem} {n : Nat} {cs : Array Value} {t : TypeId} {e : Shape} {len cap : Nat} {f : Nat → V} {op : Sem Next} (hs : SR B C M) (hn : ¬ C.al n)
    (hrun : op.run P C.w = .ok (.value (.slice (some ⟨C.w.heap.size, 0, none⟩) len cap)) (C.w.alloc (.cells cs t))) (hz : cs.size = cap * e.size) (hlc : len ≤ cap) (hv : R C (.arr cap f) (.cel (.arr cap e) (fun i => cs[i]?) 0)) :
    Does P op C.w (Post B C (upd M n (some ⟨.box, .arr cap e, .arr cap f⟩)) (fun id => n ≤ id ∧ id < n + 1) (.sl n [] e 0 len (some cap))) := by
  unfold Does
  rw [hrun]
  obtain ⟨h1, h2⟩ := hs.alloc hn cs t ⟨.box, .arr cap e, .arr cap f⟩ (.pointer (some ⟨C.w.heap.size, 0, none⟩)) rfl (by
    intro C' hk h3 h4 h5
    exact ⟨C.w.heap.size, cs, t, h3, hs.base, by rw [h5]; exact heap_alloc_new C.w _, h4, hz, R.keep hk _ _ hv⟩)
  refine ⟨_, rfl, ⟨Or.inr rfl, C.w.heap.size, 0, cap, cap, by simp [blk?], by simp [Shape.path], ?_, hlc, by omega, ?_⟩, h2, h1, fun id h => ?_⟩
  · show Value.slice _ _ _ = Value.slice _ _ _
    simp
  · intro k hk; cases hk; exact ⟨rfl, by omega⟩
  · rcases h with h | h
    · exact .inl h
    · exact .inr ⟨by omega, by omega⟩

theorem sem_buildSl {ρ : Operand → V} {m : Mem} {n : Nat} {t et : TypeId} {len : Nat} {parts : Array (Nat × Operand)} {s : Shape} {z : V} (ho : o.op = .buildSlice t len parts) (hu : P.underlying t = some (.slice et)) (hz : ZeroIs P et s z)
    (hsm : len * s.size ≤ 2 ^ 24) (hpos : len * s.size ≠ 0) (hb : bok (.arr len s) false (fun i => some (i * s.size, s.size)) (parts.toList.map fun x => (x.1, ρ x.2)) = true) :
    OpSem P B o ρ m n ⟨.sl n [] s 0 len (some len), [], [⟨.box, .arr len s, bset false (.arr len fun _ => z) (parts.toList.map fun x => (x.1, ρ x.2))⟩], []⟩ := by
  intro C M ρc hs _ _ hn hrel
  obtain ⟨h1, i, zv, h2, hzv, hc1, hc2⟩ := hz
  obtain ⟨i', hi', hsz, _⟩ := tshape_size h1
  rw [h2] at hi'; simp only [Option.some.injEq] at hi'; subst hi'
  obtain ⟨cells', e1, e2, e3⟩ := fill_ok (ρ := ρ) (ρc := ρc) (C := C) parts.toList _ _ (zero_cells (R.held _ hc2) hc1 len) (by simp [Shape.size]) hb (fun x hx => hrel x.2 (by simp [ho, Op.operands]; exact ⟨x.1, by simpa using hx⟩))
  obtain ⟨f, hf⟩ : ∃ f, bset false (.arr len fun _ => z) (parts.toList.map fun x => (x.1, ρ x.2)) = .arr len f := R.arr_of e3
  rw [hf] at e3 ⊢
  rw [put_new]
  refine does_newsl hs (by simpa using hn 0 (by simp)) (cs := cells') (t := et) ?_ (by simpa [Shape.size] using e2) (Nat.le_refl _) e3
  have hrun := run_buildSlice (P := P) C.w t et len (parts.map fun (i, x) => (i, ρc x)) cells' i zv hu h2 hzv (by rw [hsz]; omega) (by rw [hsz]; exact hpos) (by
    have : (parts.map fun (i, x) => (i, ρc x)).toList = parts.toList.map fun x => (x.1, ρc x.2) := by simp
    rw [this, hsz]; exact e1)
  simp [execOp, ho, hrun]

def sliceK (k : TK) (f : Nat → TypeId → Nat → Prop) : Prop := @TK.rec (fun _ => Prop) (fun _ => False) False False (fun _ _ => False) (fun _ _ _ => False) f False k
theorem sliceK_inv {k : TK} {f : Nat → TypeId → Nat → Prop} (h : sliceK k f) : ∃ e te sz, k = .slice e te sz ∧ f e te sz := by cases k <;> first | exact ⟨_, _, _, rfl, h⟩ | exact False.elim h
/-- The zero of a slice's element. -/
def elemK (T : Tr TI) (t : TypeId) (f : Nat → Nat → X → Prop) : Prop := tyK T t fun _ _ _ k => sliceK k fun e te sz => tyK T te fun c sc z k => ifP (Nat.beq c e) (okSt c sc k z (f e sz z))
theorem elemK_inv (hT : TTok P T) {t : TypeId} {f : Nat → Nat → X → Prop} (h0 : elemK T t f) : ∃ e te sz z i, P.underlying t = some (.slice te) ∧ ZeroIs P te (shOf P e) (z.toV P) ∧ (shOf P e).size = sz ∧ WF P z ∧ shX P z = shOf P e ∧ P.info? te = some i ∧ i.bytes ≤ 1048576 ∧ ixAt P t (shOf P e) = true ∧ f e sz z := by
  obtain ⟨c, sc, z, k, ht, h1⟩ := tyK_inv hT h0
  obtain ⟨e, te, sz, rfl, h2⟩ := sliceK_inv h1
  obtain ⟨c2, sc2, z2, k2, ht2, h3⟩ := tyK_inv hT h2
  obtain ⟨hc, h4⟩ := ifP_inv h3
  obtain ⟨hf, h5⟩ := okSt_inv ht2 h4
  obtain rfl := nbeq hc
  obtain ⟨k1, k2, k3, k4, i, k5, k6⟩ := ht.k
  rcases ht2.z with rfl | ⟨hz1, hz2, hz3⟩
  · have := hf.known; simp [X.toV, V.known] at this
  · exact ⟨c2, te, sz, z2, i, k2, hz3, k4, hz1, hz2, k5, k6, k1, h5⟩
theorem wf_zeros {e : Nat} {z : X} (hz : WF P z) (hs : shX P z = shOf P e) (n : Nat) : WF P (.arr e n .e z) := .arr (fun p => by rw [get_e]; exact hz) (fun p => by rw [get_e]; exact hs)
theorem toV_zeros {e : Nat} {z : X} (n : Nat) : (X.arr e n .e z).toV P = .arr n fun _ => z.toV P := by rw [toV_arr]; simp only [get_e]
theorem WF.arrV {v : X} {n : Nat} {s : Shape} (h : WF P v) (hs : shX P v = .arr n s) : ∃ f, v.toV P = .arr n f := by
  cases v with
  | arr e n1 t d => simp only [shX, Shape.arr.injEq] at hs; obtain ⟨rfl, _⟩ := hs; exact ⟨_, toV_arr P e n1 t d⟩
  | agg c l =>
    cases h with
    | leaf h h1 h2 h3 => exact absurd rfl (h1 _ _)
    | agg h h1 => simp only [shX, h] at hs; cases l <;> simp [shL] at hs
  | _ => simp [shX] at hs
def z_buildSlice (T : Tr TI) (tm : Tr X) (t : TypeId) (len : Nat) (ps : Array (Nat × Operand)) (zm : Tr X) (nx : Pth) (K : KT) : Prop :=
  elemK T t fun e sz z => ifP (Nat.ble (Nat.mul len sz) (nat_lit 16777216)) (ifP (Nat.ble (nat_lit 1) (Nat.mul len sz)) (bldK T tm false (fun i f => ifP (Nat.ble (Nat.succ i) len) (f e)) ps.toList (.arr e len .e z)
    fun v => setTK (.box v) nx zm fun zm => K (.sl nx [] e (nat_lit 0) len (some len)) zm (psucc nx) [] []))
theorem z_buildSlice_inv (hT : TTok P T) {t : TypeId} {len : Nat} {ps : Array (Nat × Operand)} (ho : o.op = .buildSlice t len ps) (hwm : WFM P zm) (hws : WFS P tm) (h0 : z_buildSlice T tm t len ps zm nx K) : ∃ v zm' nx' up rd e, ZStep P B o tm zm zm' nx nx' v up rd e ∧ K v zm' nx' up rd := by
  obtain ⟨e, te, sz, z, i, hu, hz, hsz, hwz, hsz2, _, _, _, h1⟩ := elemK_inv hT h0
  obtain ⟨hb1, h2⟩ := ifP_inv h1
  obtain ⟨hb2, h3⟩ := ifP_inv h2
  have a1 : len * (shOf P e).size ≤ 2 ^ 24 := by rw [hsz]; exact Nat.le_of_ble_eq_true hb1
  have a2 : len * (shOf P e).size ≠ 0 := by rw [hsz]; have : 1 ≤ len * sz := Nat.le_of_ble_eq_true hb2; omega
  obtain ⟨w, k1, k2, k3, k4, k5⟩ := bldK_inv (st := false) (pl := fun i => some (i * (shOf P e).size, (shOf P e).size)) (s := .arr len (shOf P e)) hT hws (fun i f hi => by
    obtain ⟨hb, hf⟩ := ifP_inv hi
    refine ⟨e, i * (shOf P e).size, ?_, rfl, hf⟩
    simp only [bstep, Shape.step, Bool.false_eq_true, if_false, ble_lt hb, if_true]) _ _ _ (wf_zeros hwz hsz2 len) rfl h3
  rw [setTK_eq] at k1
  rw [toV_zeros] at k4
  refine ⟨_, _, _, _, _, _, ZStep.new (x := .box w) (b := ⟨.box, .arr len (shOf P e), w.toV P⟩) hwm (.one (.lf rfl)) (by rw [← k3]; rfl) k2 fun M => ?_, k1⟩
  rw [k4]
  exact sem_buildSl ho hu hz a1 a2 k5

/-- A new slice of zeros. -/
theorem madeCells_eq (zs : Array Value) (n : Nat) : madeCells zs n = (Array.range n).map (fun x => zs[x % zs.size]!) := rfl
theorem sem_makeSl {ρ : Operand → V} {m : Mem} {n : Nat} {t et : TypeId} {l c : Operand} {kl kc : IntKind} {len cap : Nat} {s : Shape} {z : V} {i : TypeInfo} (ho : o.op = .makeSlice t l c) (hl : ρ l = .int kl len) (hc : ρ c = .int kc cap) (hu : P.underlying t = some (.slice et)) (hz : ZeroIs P et s z)
    (hi : P.info? et = some i) (hb : i.bytes ≤ 1048576) (hlc : len ≤ cap) (hcap : cap ≤ 16777216) :
    OpSem P B o ρ m n ⟨.sl n [] s 0 len (some cap), [], [⟨.box, .arr cap s, .arr cap fun _ => z⟩], []⟩ := by
  intro C M ρc hs _ _ hn hrel
  obtain ⟨h1, i', zv, h2, hzv, hc1, hc2⟩ := hz
  rw [hi] at h2; simp only [Option.some.injEq] at h2; subst h2
  obtain ⟨i', hi', hsz, _⟩ := tshape_size h1
  rw [hi] at hi'; simp only [Option.some.injEq] at hi'; subst hi'
  have r1 := hrel l (by simp [ho, Op.operands])
  have r2 := hrel c (by simp [ho, Op.operands])
  rw [hl] at r1; rw [hc] at r2
  have r1' : ρc l = .int kl len := r1
  have r2' : ρc c = .int kc cap := r2
  have hbytes : (i.bytes : Int) * cap ≤ 281474976710656 := by
    have : i.bytes * cap ≤ 1048576 * 16777216 := Nat.mul_le_mul hb hcap
    have h3 : ((i.bytes * cap : Nat) : Int) ≤ 281474976710656 := by omega
    rwa [Int.natCast_mul] at h3
  have hrun := run_make (P := P) C.w t et i zv hu hi hzv kl kc len cap (by omega) (by omega) hbytes (by omega)
  simp only [Int.toNat_natCast] at hrun
  rw [put_new]
  refine does_newsl hs (by simpa using hn 0 (by simp)) (cs := madeCells zv.cells (cap * i.size)) (t := et) (by simp [execOp, ho, r1', r2', hrun]) (by rw [madeCells_eq, hsz]; simp) hlc ?_
  rw [madeCells_eq, hsz]
  exact zero_cells (R.held _ hc2) hc1 cap
def z_makeSlice (T : Tr TI) (tm : Tr X) (t : TypeId) (l c : Operand) (zm : Tr X) (nx : Pth) (K : KT) : Prop :=
  asInt (evO tm l) fun _ l => asNat l fun len => asInt (evO tm c) fun _ c => asNat c fun cap => elemK T t fun e sz z => ifP (Nat.ble len cap) (ifP (Nat.ble cap (nat_lit 16777216))
    (setTK (.box (.arr e cap .e z)) nx zm fun zm => K (.sl nx [] e (nat_lit 0) len (some cap)) zm (psucc nx) [] []))
theorem z_makeSlice_inv (hT : TTok P T) {t : TypeId} {l c : Operand} (ho : o.op = .makeSlice t l c) (hwm : WFM P zm) (h0 : z_makeSlice T tm t l c zm nx K) : ∃ v zm' nx' up rd e, ZStep P B o tm zm zm' nx nx' v up rd e ∧ K v zm' nx' up rd := by
  obtain ⟨kl, l1, hl, h1⟩ := asInt_inv h0
  obtain ⟨hl0, h2⟩ := asNat_inv h1
  obtain ⟨kc, c1, hc, h3⟩ := asInt_inv h2
  obtain ⟨hc0, h4⟩ := asNat_inv h3
  obtain ⟨e, te, sz, z, i, hu, hz, hsz, hwz, hsz2, hi, hib, _, h5⟩ := elemK_inv hT h4
  obtain ⟨hb1, h6⟩ := ifP_inv h5
  obtain ⟨hb2, h7⟩ := ifP_inv h6
  rw [setTK_eq] at h7
  have hrl : rho P tm l = .int kl (l1.toNat : Nat) := by rw [← evO_toV, hl, Int.toNat_of_nonneg hl0]; rfl
  have hrc : rho P tm c = .int kc (c1.toNat : Nat) := by rw [← evO_toV, hc, Int.toNat_of_nonneg hc0]; rfl
  refine ⟨_, _, _, _, _, _, ZStep.new (x := .box (.arr e c1.toNat .e z)) (b := ⟨.box, .arr c1.toNat (shOf P e), .arr c1.toNat fun _ => z.toV P⟩) hwm (.one (.lf rfl)) (by simp only [zblk, toV_zeros]; rfl) (wf_zeros hwz hsz2 _) fun M => ?_, h7⟩
  exact sem_makeSl ho hrl hrc hu hz hi hib (Nat.le_of_ble_eq_true hb1) (Nat.le_of_ble_eq_true hb2)
end
end
end Go.Ab
