/- The run is right: contracts, temporaries, results, calls. No condition. -/
import Derived.Test.YtkjoldifiniliaaY4
set_option linter.unusedVariables false
set_option linter.unusedSimpArgs false
set_option linter.constructorNameAsVariable false
namespace Go.Y
open Go.Ab Go.RowKit
noncomputable section
variable [Gl]

/-! ### States -/
/-- 'H': the names from there on are others'. -/
structure YR (B H : Nat) (C : Ctx) (M : Mem) (zm : Zm) (nx : Nat) : Prop where
  sr : SR B C M
  sub : Sub (gm zm) M
  al : ∀ id, nx ≤ id → id < H → ¬ C.al id
/-- From one to the next. -/
structure YC (B H : Nat) (C : Ctx) (M : Mem) (zm : Zm) (nx : Nat) (C' : Ctx) (M' : Mem) (zm' : Zm) (nx' : Nat) : Prop where
  kp : Kp B C C'
  al : ∀ id, C'.al id → C.al id ∨ (nx ≤ id ∧ id < nx')
  fr : ∀ id, (id < nx ∨ H ≤ id) → gm zm id = none → M' id = M id ∧ gm zm' id = none
omit [Gl] in
theorem YC.refl {B H : Nat} (C : Ctx) (M : Mem) (zm : Zm) (nx : Nat) : YC B H C M zm nx C M zm nx := ⟨Kp.refl B C, fun _ h => .inl h, fun _ _ h => ⟨rfl, h⟩⟩
omit [Gl] in
theorem YC.trans {B H : Nat} {C C' C'' : Ctx} {M M' M'' : Mem} {zm zm' zm'' : Zm} {nx nx' nx'' : Nat} (h : YC B H C M zm nx C' M' zm' nx') (k : YC B H C' M' zm' nx' C'' M'' zm'' nx'') (h1 : nx ≤ nx') (h2 : nx' ≤ nx'') : YC B H C M zm nx C'' M'' zm'' nx'' :=
  ⟨h.kp.trans k.kp, fun id hid => by
    rcases k.al id hid with h3 | h3
    · rcases h.al id h3 with h4 | h4
      · exact .inl h4
      · exact .inr ⟨h4.1, by omega⟩
    · exact .inr ⟨by omega, h3.2⟩, fun id hid hn => by
    obtain ⟨h3, h4⟩ := h.fr id hid hn
    obtain ⟨h5, h6⟩ := k.fr id (by omega) h4
    exact ⟨h5.trans h3, h6⟩⟩
def KB (zm : Zm) (nx : Nat) : Prop := ∀ id, nx ≤ id → gm zm id = none
omit [Gl] in
theorem gm_e (id : Nat) : gm .e id = none := get_e none _
omit [Gl] in
theorem gm_set {zm : Zm} {x : Option Blk} {i id : Nat} : gm (set x (enc i) zm) id = if id = i then x else gm zm id := get_set_n _ _ _ _ _

/-! ### Effects -/
def upZ (l : List (Nat × Blk)) (zm : Zm) : Zm := l.foldr (fun x zm => set (some x.2) (enc x.1) zm) zm
omit [Gl] in
theorem upK_eq : ∀ (l : List (Nat × Blk)) (zm : Zm) (K : Zm → Prop), upK l zm K = K (upZ l zm)
  | [], zm, K => rfl
  | x :: l, zm, K => by
    show upK l zm (fun zm => forceB x.2 fun b => setTK b (enc x.1) zm K) = _
    rw [upK_eq l, forceB_eq, setTK_eq]; rfl
def nwZ : List Blk → Zm → Nat → Zm
  | [], zm, _ => zm
  | b :: l, zm, nx => nwZ l (set (some b) (enc nx) zm) (nx + 1)
omit [Gl] in
theorem nwK_eq : ∀ (l : List Blk) (zm : Zm) (nx : Nat) (K : Zm → Nat → Prop), nwK l zm nx K = K (nwZ l zm nx) (nx + l.length)
  | [], zm, nx, K => rfl
  | b :: l, zm, nx, K => by
    show forceB b (fun b => setTK b (enc nx) zm (fun zm => forceN (Nat.succ nx) fun nx => nwK l zm nx K)) = _
    rw [forceB_eq, setTK_eq, forceN_eq, nwK_eq l]
    show K (nwZ l _ (nx + 1)) (nx + 1 + l.length) = K (nwZ l _ (nx + 1)) (nx + (l.length + 1))
    rw [Nat.add_assoc, Nat.add_comm 1]
omit [Gl] in
theorem apK_eq (e : Eff) (zm : Zm) (nx : Nat) (K : KT) : apK e zm nx K = K e.v (nwZ e.nw (upZ e.up zm) nx) (nx + e.nw.length) (e.up.map (·.1)) e.rd := by
  unfold apK; rw [upK_eq, nwK_eq]
omit [Gl] in
theorem rsK_inv {o : Op} {r : RS} {zm : Zm} {nx : Nat} {K : KT} (h : rsK o r zm nx K) : ∃ e, r.is e ∧ K e.v (nwZ e.nw (upZ e.up zm) nx) (nx + e.nw.length) (e.up.map (·.1)) e.rd := by
  cases r with
  | bad => exact h.elim
  | ok e => have h : apK e zm nx K := h; rw [apK_eq] at h; exact ⟨e, rfl, h⟩
  | tst c e =>
    obtain ⟨h1, h⟩ := cnd_iff.1 (show cnd c (apK e zm nx K) from h)
    rw [apK_eq] at h; exact ⟨e, ⟨h1, rfl⟩, h⟩
  | prv p e => obtain ⟨h1, h⟩ := (show p ∧ apK e zm nx K from h); rw [apK_eq] at h; exact ⟨e, ⟨h1, rfl⟩, h⟩
omit [Gl] in
theorem gm_upZ (zm : Zm) (id : Nat) : ∀ (l : List (Nat × Blk)), gm (upZ l zm) id = (match l.lookup id with | some b => some b | none => gm zm id)
  | [] => rfl
  | x :: l => by
    show gm (set (some x.2) (enc x.1) (upZ l zm)) id = _
    rw [gm_set]
    simp only [List.lookup]
    by_cases h : id = x.1
    · subst h; simp
    · have : (id == x.1) = false := by simpa using h
      rw [if_neg h, this, gm_upZ zm id l]
omit [Gl] in
theorem gm_nwZ (id : Nat) : ∀ (l : List Blk) (zm : Zm) (nx : Nat), gm (nwZ l zm nx) id = if nx ≤ id ∧ id < nx + l.length then l[id - nx]? else gm zm id
  | [], zm, nx => by rw [if_neg (by simp only [List.length_nil]; omega)]; rfl
  | b :: l, zm, nx => by
    show gm (nwZ l (set (some b) (enc nx) zm) (nx + 1)) id = _
    rw [gm_nwZ id l, gm_set]
    by_cases h1 : nx + 1 ≤ id ∧ id < nx + 1 + l.length
    · rw [if_pos h1, if_pos (by simp only [List.length_cons]; omega)]
      rw [show id - nx = (id - (nx + 1)) + 1 by omega]; rfl
    · rw [if_neg h1]
      by_cases h2 : id = nx
      · subst h2; rw [if_pos rfl, if_pos (by simp)]; simp
      · rw [if_neg h2, if_neg (by simp only [List.length_cons]; omega)]
omit [Gl] in
theorem lookup_mem {id : Nat} {b : Blk} : ∀ {l : List (Nat × Blk)}, l.lookup id = some b → ∃ x ∈ l, x.1 = id
  | [], h => by cases h
  | x :: l, h => by
    simp only [List.lookup] at h
    cases hx : id == x.1 with
    | true => exact ⟨x, by simp, (by simpa using hx : id = x.1).symm⟩
    | false =>
      rw [hx] at h
      obtain ⟨y, hy, e⟩ := lookup_mem h
      exact ⟨y, by simp [hy], e⟩

/-- What an operation has done, a call as well. -/
structure YSt (P : Program) (B : Nat) (o : Oper) (tm : Tm) (zm zm' : Zm) (nx nx' : Nat) (v : V) (up rd : List Nat) (e : Eff) : Prop where
  val : e.v = v
  nxt : nx' = nx + e.nw.length
  ups : e.up.map (·.1) = up
  rds : e.rd = rd
  upk : ∀ x ∈ e.up, ∃ b, gm zm x.1 = some b
  kn : ∀ id, (id < nx ∨ nx' ≤ id) → gm zm id = none → gm zm' id = none
  sem : ∀ M, Sub (gm zm) M → OpSem P B o (ev Gl.G tm) M nx e
  sub : KB zm nx → ∀ M, Sub (gm zm) M → Sub (gm zm') (put M nx e)

theorem OpSem.agree {P : Program} {B : Nat} {o : Oper} {ρ : Operand → V} {m m' : Mem} {n : Nat} {e : Eff} (h : OpSem P B o ρ m n e) (hr : ∀ id ∈ e.rd, m' id = m id) (hu : ∀ x ∈ e.up, m' x.1 = m x.1) : OpSem P B o ρ m' n e :=
  fun C M ρc h1 h2 h3 h4 h5 => h C M ρc h1 (fun id hid => (h2 id hid).trans (hr id hid)) (fun x hx => (h3 x hx).trans (hu x hx)) h4 h5

section
variable {P : Program} {B : Nat} {o : Oper} {tm : Tm} {zm : Zm} {nx : Nat}
theorem YSt.of {e : Eff} (hs : OpSem P B o (ev Gl.G tm) (gm zm) nx e) (hu : UpIn (gm zm) e) :
    YSt P B o tm zm (nwZ e.nw (upZ e.up zm) nx) nx (nx + e.nw.length) e.v (e.up.map (·.1)) e.rd e := by
  refine ⟨rfl, rfl, rfl, rfl, hu.up, fun id hid hn => ?_, fun M hM => OpSem.agree hs (fun id hid => ?_) (fun x hx => ?_), fun hkb M hM id b hb => ?_⟩
  · rw [gm_nwZ, if_neg (by omega), gm_upZ]
    cases hl : e.up.lookup id with
    | none => exact hn
    | some b =>
      exfalso
      obtain ⟨x, hx, rfl⟩ := lookup_mem hl
      obtain ⟨c, hc⟩ := hu.up x hx
      rw [hn] at hc; cases hc
  · obtain ⟨b, hb⟩ := hu.rd id hid
    rw [hb, hM _ _ hb]
  · obtain ⟨b, hb⟩ := hu.up x hx
    rw [hb, hM _ _ hb]
  · rw [gm_nwZ] at hb
    unfold put touch
    by_cases h1 : nx ≤ id ∧ id < nx + e.nw.length
    · rw [if_pos h1] at hb ⊢
      rw [hb]
    · rw [if_neg h1] at hb ⊢
      rw [gm_upZ] at hb
      cases hl : e.up.lookup id with
      | some c => rw [hl] at hb; exact hb
      | none => rw [hl] at hb; exact hM _ _ hb
end

/-- What an operation hands on, wherever it is carried out. -/
def ODoes (P : Program) (B : Nat) (o : Oper) (tm : Tm) (zm : Zm) (nx : Nat) (v : V) (zm' : Zm) (nx' : Nat) : Prop :=
  ∀ (H : Nat) (C : Ctx) (M : Mem) (ρc : Operand → Value), nx' ≤ H → YR B H C M zm nx → (∀ x ∈ o.op.operands.toList, R C (ev Gl.G tm x) (.val (ρc x))) →
    Does P (execOp ρc o) C.w fun val w' => ∃ C' M', C'.w = w' ∧ R C' v (.val val) ∧ YR B H C' M' zm' nx' ∧ YC B H C M zm nx C' M' zm' nx'

theorem YSt.does {P : Program} {B : Nat} {o : Oper} {tm : Tm} {zm zm' : Zm} {nx nx' : Nat} {v : V} {up rd : List Nat} {e : Eff} (h : YSt P B o tm zm zm' nx nx' v up rd e) (hkb : KB zm nx) : ODoes P B o tm zm nx v zm' nx' := by
  intro H C M ρc hH hr ho
  have hnx := h.nxt
  refine Does.mono ?_ (h.sem M hr.sub C M ρc hr.sr (fun _ _ => rfl) (fun _ _ => rfl) (fun i hi => hr.al _ (by omega) (by omega)) ho)
  rintro val w' ⟨C', hw, hR, hK, hS, hal⟩
  rw [h.val] at hR
  have hal' : ∀ id, C'.al id → C.al id ∨ (nx ≤ id ∧ id < nx') := fun id hid => by
    rcases hal id hid with h1 | h1
    · exact .inl h1
    · exact .inr ⟨h1.1, by omega⟩
  refine ⟨C', _, hw, hR, ⟨hS, h.sub hkb M hr.sub, fun id h1 h2 h3 => ?_⟩, ⟨hK, hal', fun id hid hn => ⟨?_, h.kn id (by omega) hn⟩⟩⟩
  · rcases hal' id h3 with h4 | h4
    · exact hr.al id (by omega) h2 h4
    · omega
  · have ht : touch e nx id = none := by
      unfold touch
      rw [if_neg (by omega)]
      cases hl : e.up.lookup id with
      | none => rfl
      | some b =>
        exfalso
        obtain ⟨x, hx, e1⟩ := lookup_mem hl
        obtain ⟨b', hb'⟩ := h.upk x hx
        rw [e1, hn] at hb'; cases hb'
    simp only [put, ht]
theorem YSt.kb {P : Program} {B : Nat} {o : Oper} {tm : Tm} {zm zm' : Zm} {nx nx' : Nat} {v : V} {up rd : List Nat} {e : Eff} (h : YSt P B o tm zm zm' nx nx' v up rd e) (hk : KB zm nx) : KB zm' nx' :=
  fun id hid => h.kn id (.inr hid) (hk id (by have := h.nxt; omega))

/-! ### Temporaries -/
structure YT (C : Ctx) (tm : Tm) (a : Act) (N : Nat) : Prop where
  tv : ∀ t, R C (tv tm t) (.val (a.tmps.getD t undef))
  size : a.tmps.size = N
  defers : a.defers = []
omit [Gl] in
theorem YT.keep {C C' : Ctx} {tm : Tm} {a : Act} {N : Nat} (h : YT C tm a N) (hk : Keep C C') : YT C' tm a N := ⟨fun t => R.keep hk _ _ (h.tv t), h.size, h.defers⟩
def putT (d : Option Tmp) (v : V) (tm : Tm) : Tm := match d with | some d => set v (enc d) tm | none => tm
omit [Gl] in
theorem putD_eq (d : Option Tmp) (v : V) (tm : Tm) (f : Tm → Prop) : putD d v tm f = f (putT d v tm) := by
  cases d with
  | none => rfl
  | some d => exact (forceV_eq v fun v => setTK v (enc d) tm f).trans (setTK_eq v (enc d) tm f)
omit [Gl] in
theorem tv_set {tm : Tm} {v : V} {t d : Nat} : tv (set v (enc d) tm) t = if t = d then v else tv tm t := get_set_n _ _ _ _ _
omit [Gl] in
theorem YT.put {C : Ctx} {tm : Tm} {a : Act} {N : Nat} (h : YT C tm a N) {d : Option Tmp} {v : V} {val : Value} (hd : dOk N d = true) (hr : R C v (.val val)) : YT C (putT d v tm) (a.put d val) N := by
  cases d with
  | none => exact ⟨h.tv, h.size, h.defers⟩
  | some d =>
    have hd' : d < N := by simpa [dOk] using hd
    refine ⟨fun t => ?_, ?_, h.defers⟩
    · rw [put_getD h.size hd']
      by_cases hdt : d = t
      · subst hdt
        rw [if_pos rfl]
        simp only [putT, tv_set, if_true]; exact hr
      · rw [if_neg hdt]
        simp only [putT, tv_set, if_neg (fun e : t = d => hdt e.symm)]; exact h.tv t
    · rw [← h.size]; simp [Act.put]
theorem YT.operand {C : Ctx} {tm : Tm} {a : Act} {N : Nat} (h : YT C tm a N) (hg : ∀ g, R C (Gl.G g) (.val (.pointer (some ⟨g, 0, none⟩)))) (x : Operand) : R C (ev Gl.G tm x) (.val (a.eval x)) := by
  cases x with
  | tmp t => exact h.tv t
  | const v => exact R.ofVal C v
  | global g => exact hg g
  | func f => exact ⟨#[], rfl, rfl⟩
omit [Gl] in
theorem wpOp_do {P : Program} {ops : Array Oper} {Q : Exit → Act → World → Prop} {i : Nat} {K : Act → World → Prop} {a : Act} {w : World} {o : Oper} (hop : ops[i]? = some o) (hw : Region.wanted o (yielded ops a.tmps) = true) (h : o.wp P a w K Q) : wpOp P ops Q i K a w := by
  unfold wpOp; simp only [hop]; rw [if_pos hw]; exact .inl h
omit [Gl] in
theorem wpOp_skip {P : Program} {ops : Array Oper} {Q : Exit → Act → World → Prop} {i : Nat} {K : Act → World → Prop} {a : Act} {w : World} {o : Oper} (hop : ops[i]? = some o) (hw : Region.wanted o (yielded ops a.tmps) = false) (h : K (a.put o.dst undef) w) : wpOp P ops Q i K a w := by
  unfold wpOp; simp only [hop]; rw [if_neg (by rw [hw]; simp)]; exact h
omit [Gl] in
theorem dstAt_eq (ops : Array Oper) (j : Nat) : dstAt ops.toList j = (ops[j]?).bind (·.dst) := by
  unfold dstAt; rw [Array.getElem?_toList]
/-- The same temporaries. -/
def Same (tm tm1 : Tm) : Prop := ∀ t, tv tm1 t = tv tm t
omit [Gl] in
theorem Same.refl (tm : Tm) : Same tm tm := fun _ => rfl
omit [Gl] in
theorem Same.set {tm : Tm} {d : Nat} {b : Bool} (h : tv tm d = .bool b) : Same tm (set (.bool b) (enc d) tm) := fun t => by
  rw [tv_set]; split
  · rename_i he; subst he; exact h.symm
  · rfl
omit [Gl] in
theorem YT.same {C : Ctx} {tm tm1 : Tm} {a : Act} {N : Nat} (h : YT C tm a N) (hs : Same tm tm1) : YT C tm1 a N := ⟨fun t => by rw [hs t]; exact h.tv t, h.size, h.defers⟩
omit [Gl] in
theorem two_inv {b : Bool} {t : Nat} {tm : Tm} {f : Bool → Tm → Prop} (ht : tv tm t = .bool b) (h : two b t tm f) : ∃ tm1, Same tm tm1 ∧ f b tm1 := by
  unfold two at h
  cases b with
  | true => have h1 : setTK (.bool true) (enc t) tm (f true) := h; rw [setTK_eq] at h1; exact ⟨_, Same.set ht, h1⟩
  | false => have h1 : setTK (.bool false) (enc t) tm (f false) := h; rw [setTK_eq] at h1; exact ⟨_, Same.set ht, h1⟩
omit [Gl] in
theorem grdV_inv {want : Bool} {d : Nat} {tm : Tm} {y n : Tm → Prop} (h : grdV (tv tm d) want d tm y n) :
    (tv tm d = .bool want ∧ ∃ tm1, Same tm tm1 ∧ y tm1) ∨ ((tv tm d = .bool (!want) ∨ tv tm d = .tup .nl) ∧ ∃ tm1, Same tm tm1 ∧ n tm1) := by
  unfold grdV at h
  split at h
  · rename_i b hb
    obtain ⟨tm1, hs, h1⟩ := two_inv hb h
    cases b <;> cases want
    · exact .inl ⟨hb, tm1, hs, h1⟩
    · exact .inr ⟨.inl hb, tm1, hs, h1⟩
    · exact .inr ⟨.inl hb, tm1, hs, h1⟩
    · exact .inl ⟨hb, tm1, hs, h1⟩
  · rename_i hb; exact .inr ⟨.inr hb, tm, Same.refl tm, h⟩
  · exact h.elim
theorem condK_inv {tm : Tm} {c : Operand} {f : Bool → Tm → Prop} (h : condK Gl.G tm c f) : ∃ b tm1, ev Gl.G tm c = .bool b ∧ Same tm tm1 ∧ f b tm1 := by
  have key : ∀ c, (match ev Gl.G tm c with | .bool b => alt b (f true tm) (f false tm) | _ => BadN 3) → ∃ b tm1, ev Gl.G tm c = .bool b ∧ Same tm tm1 ∧ f b tm1 := by
    intro c h
    split at h
    · rename_i b hb
      cases b with
      | true => exact ⟨true, tm, hb, Same.refl tm, h⟩
      | false => exact ⟨false, tm, hb, Same.refl tm, h⟩
    · exact h.elim
  cases c with
  | tmp t =>
    have h1 : (match tv tm t with | .bool b => two b t tm f | _ => BadN 2) := h
    split at h1
    · rename_i b hb
      obtain ⟨tm1, hs, h2⟩ := two_inv hb h1
      exact ⟨b, tm1, hb, hs, h2⟩
    · exact h1.elim
  | const v => exact key _ h
  | global g => exact key _ h
  | func g => exact key _ h
omit [Gl] in
/-- What a guard says, wherever. -/
theorem grdK_pure {tm : Tm} {ops : Array Oper} {o : Oper} {y n : Tm → Prop} (hg : grdK ops.toList o.guard tm y n) :
    ((∀ C a N, YT C tm a N → Region.wanted o (yielded ops a.tmps) = true) ∧ (∀ tmv : Nat → V, (∀ t, tmv t = tv tm t) → wants ops tmv o false) ∧ ∃ tm1, Same tm tm1 ∧ y tm1) ∨
    ((∀ C a N, YT C tm a N → Region.wanted o (yielded ops a.tmps) = false) ∧ (∀ tmv : Nat → V, (∀ t, tmv t = tv tm t) → wants ops tmv o true) ∧ ∃ tm1, Same tm tm1 ∧ n tm1) := by
  cases hgd : o.guard with
  | none =>
    rw [hgd] at hg
    exact .inl ⟨fun C a N _ => by simp [Region.wanted, hgd], fun tmv _ => by unfold wants; rw [hgd], tm, Same.refl tm, hg⟩
  | some jw =>
    obtain ⟨j, want⟩ := jw
    rw [hgd] at hg
    unfold grdK at hg
    simp only [dstAt_eq] at hg
    cases hd : (ops[j]?).bind (·.dst) with
    | none => rw [hd] at hg; exact hg.elim
    | some d =>
      rw [hd] at hg
      have rd : ∀ {C a N} {b : Bool}, YT C tm a N → tv tm d = .bool b → a.tmps[d]? = some (.bool b) := by
        intro C a N b ht hx
        have hr := ht.tv d
        rw [hx] at hr
        have hval : a.tmps.getD d undef = .bool b := hr
        rw [Array.getD_eq_getD_getElem?] at hval
        cases hx : a.tmps[d]? with
        | none => rw [hx] at hval; simp [undef] at hval
        | some y => rw [hx] at hval; simpa using hval
      rcases grdV_inv hg with ⟨hx, hy⟩ | ⟨hx, hn⟩
      · refine .inl ⟨fun C a N ht => by simp [Region.wanted, hgd, yielded, hd, rd ht hx], fun tmv ht => ?_, hy⟩
        unfold wants; rw [hgd]
        exact ⟨d, hd, .inl ⟨by rw [ht, hx], rfl⟩⟩
      · refine .inr ⟨fun C a N ht => ?_, fun tmv ht => ?_, hn⟩
        · rcases hx with hx | hx
          · cases want <;> simp [Region.wanted, hgd, yielded, hd, rd ht hx]
          · have hr := ht.tv d
            rw [hx] at hr
            obtain ⟨cs, h2, h3⟩ := hr
            have h3' : cs.toList = [] := h3
            have hval : a.tmps.getD d undef = .tuple #[] := by rw [h2]; congr; simpa using h3'
            rw [Array.getD_eq_getD_getElem?] at hval
            cases hx : a.tmps[d]? with
            | none => simp [Region.wanted, hgd, yielded, hd, hx]
            | some y => rw [hx] at hval; simp only [Option.getD_some] at hval; subst hval; simp [Region.wanted, hgd, yielded, hd, hx]
        · unfold wants; rw [hgd]
          refine ⟨d, hd, .inr ⟨?_, rfl⟩⟩
          rcases hx with hx | hx
          · exact .inl (by rw [ht, hx])
          · exact .inr (by rw [ht, hx])

/-! ### Results -/
section
variable {P : Program} {B H : Nat} {C : Ctx} {M : Mem} {tm : Tm} {zm : Zm} {nx : Nat} {a : Act} {N : Nat}
theorem rvO_s (hz : YR B H C M zm nx) (ht : YT C tm a N) {r : ResultVar} {v : V} (h : rvO P tm zm r = some v) : ∃ val, (rdV a r).run P C.w = .ok val C.w ∧ R C v (.val val) := by
  cases r with
  | tmp t => cases h; exact ⟨_, rfl, ht.tv t⟩
  | cell p t =>
    simp only [rvO] at h
    split at h
    · rename_i s d hs hd
      split at h
      · rename_i id q s' hp
        split at h
        · rename_i blk hb
          split at h
          · rename_i hc
            simp only [Bool.and_eq_true] at hc
            obtain rfl := Shape.eq_of_beq hc.2
            cases h
            have hr := ht.tv p
            rw [hp] at hr
            obtain ⟨hal', g, off, h5, h6, h7⟩ := hr
            have h7' : a.tmps.getD p undef = .pointer (some ⟨g, off, none⟩) := h7
            obtain ⟨h8, _⟩ := BR.at (hz.sr.mem _ _ (hz.sub _ _ hb)) hc.1 h5 h6
            obtain ⟨val, h9, h10⟩ := run_loadVar_tree hs hd h8
            exact ⟨val, by simp only [rdV, h7']; simpa [asAddr] using h9, h10⟩
          · cases h
        · cases h
      · cases h
    · cases h
theorem rvL_s (hz : YR B H C M zm nx) (ht : YT C tm a N) : ∀ {l : List ResultVar} {v : V}, rvL P tm zm l = some v → ∃ xs, (l.mapM (rdV a)).run P C.w = .ok xs C.w ∧ R C v (.list xs) ∧ xs.length = l.length
  | [], v, h => by cases h; exact ⟨[], rfl, rfl, rfl⟩
  | r :: l, v, h => by
    simp only [rvL] at h
    split at h
    · rename_i v1 v2 h1 h2
      cases h
      obtain ⟨x, e1, r1⟩ := rvO_s hz ht h1
      obtain ⟨xs, e2, r2, hl⟩ := rvL_s hz ht h2
      refine ⟨x :: xs, ?_, ⟨x, xs, rfl, r1, r2⟩, by simp [hl]⟩
      rw [List.mapM_cons, Sem.run_bind, e1, Result.andThen_ok, Sem.run_bind, e2, Result.andThen_ok, Sem.run_pure]
    · cases h
theorem rvA_s (hz : YR B H C M zm nx) (ht : YT C tm a N) {fn : Func} {v : V} (h : rvA P tm zm fn.results.toList = some v) : ∃ val, (results fn a.tmps).run P C.w = .ok val C.w ∧ R C v (.val val) := by
  have key : ∀ {w : V}, rvL P tm zm fn.results.toList = some w → ∃ xs : List Value, (fn.results.mapM (rdV a)).run P C.w = .ok xs.toArray C.w ∧ R C w (.list xs) ∧ xs.length = fn.results.toList.length := by
    intro w hw
    obtain ⟨xs, h1, h2, h3⟩ := rvL_s hz ht hw
    refine ⟨xs, ?_, h2, h3⟩
    have : fn.results = fn.results.toList.toArray := by simp
    rw [this, List.mapM_toArray, map_eq_pure_bind, Sem.run_bind, h1]; rfl
  unfold rvA at h
  split at h
  · rename_i r hr
    obtain ⟨xs, h1, h2, h3⟩ := key (w := .cons v .nl) (by rw [hr]; simp [rvL, h])
    obtain ⟨x, xs', rfl, h4, h5⟩ := h2
    rw [hr] at h3
    have h6 : xs' = [] := by simpa using h3
    subst h6
    refine ⟨x, ?_, h4⟩
    rw [results_rdV, Sem.run_bind, h1]; rfl
  · rename_i hne
    cases hl : rvL P tm zm fn.results.toList with
    | none => rw [hl] at h; cases h
    | some w =>
      rw [hl] at h
      simp only [Option.map_some, Option.some.injEq] at h
      subst h
      obtain ⟨xs, h1, h2, h3⟩ := key hl
      refine ⟨.tuple xs.toArray, ?_, xs.toArray, rfl, by simpa using h2⟩
      rw [results_rdV, Sem.run_bind, h1]
      have h4 : ¬ xs.toArray.size = 1 := by
        intro h5
        simp only [List.size_toArray] at h5
        rw [h5] at h3
        match hm : fn.results.toList, h3 with
        | [r], _ => exact hne r hm
        | [], h3 => simp at h3
        | _ :: _ :: _, h3 => simp at h3
      rw [Result.andThen_ok, dif_neg h4, Sem.run_pure]

/-! ### Arguments -/
def bindT : List V → Nat → Tm → Tm
  | [], _, t => t
  | x :: l, i, t => bindT l (i + 1) (set x (enc i) t)
omit [Gl] in
theorem bindK_eq : ∀ (l : List V) (i : Nat) (t : Tm) (K : Tm → Prop), bindK l i t K = K (bindT l i t)
  | [], i, t, K => rfl
  | x :: l, i, t, K => by
    show setTK x (enc i) t (fun t => bindK l (Nat.succ i) t K) = _
    rw [setTK_eq, bindK_eq l]; rfl
omit [Gl] in
theorem bindT_get : ∀ (l : List V) (i : Nat) (t : Tm) (q : Nat), tv (bindT l i t) q = if i ≤ q ∧ q < i + l.length then l.getD (q - i) .unk else tv t q
  | [], i, t, q => by rw [if_neg (by simp only [List.length_nil]; omega)]; rfl
  | x :: l, i, t, q => by
    rw [show bindT (x :: l) i t = bindT l (i + 1) (set x (enc i) t) from rfl, bindT_get l, tv_set]
    by_cases h1 : i + 1 ≤ q ∧ q < i + 1 + l.length
    · rw [if_pos h1, if_pos (by simp only [List.length_cons]; omega)]
      rw [show q - i = (q - (i + 1)) + 1 by omega]; rfl
    · rw [if_neg h1]
      by_cases h2 : q = i
      · subst h2; rw [if_pos rfl, if_pos (by simp)]; simp
      · rw [if_neg h2, if_neg (by simp only [List.length_cons]; omega)]
omit [Gl] in
theorem mkL_list : ∀ {l : List V} {vs : List Value}, R C (mkL l) (.list vs) → l.length = vs.length ∧ ∀ i, i < l.length → R C (l.getD i .unk) (.val (vs.getD i undef))
  | [], vs, h => by obtain rfl : vs = [] := h; exact ⟨rfl, fun i hi => by simp at hi⟩
  | x :: l, vs, h => by
    obtain ⟨v, vs', rfl, h1, h2⟩ := h
    obtain ⟨h3, h4⟩ := mkL_list (l := l) h2
    refine ⟨by simp [h3], fun i hi => ?_⟩
    cases i with
    | zero => exact h1
    | succ i => exact h4 i (by simpa using hi)
omit [Gl] in
theorem mkL_app : ∀ {l r : List V} {vs ws : List Value}, R C (mkL l) (.list vs) → R C (mkL r) (.list ws) → R C (mkL (l ++ r)) (.list (vs ++ ws))
  | [], r, vs, ws, h1, h2 => by obtain rfl : vs = [] := h1; exact h2
  | x :: l, r, vs, ws, h1, h2 => by
    obtain ⟨v, vs', rfl, h3, h4⟩ := h1
    exact ⟨v, vs' ++ ws, rfl, h3, mkL_app h4 h2⟩
omit [Gl] in
theorem YT.enter {l : List V} {vs : List Value} (h : R C (mkL l) (.list vs)) (n : Nat) :
    YT C (bindT l 0 .e) { tmps := vs.toArray ++ Array.replicate (n - vs.toArray.size) undef, defers := [] } (vs.length + (n - vs.length)) := by
  obtain ⟨h1, h2⟩ := mkL_list h
  refine ⟨fun t => ?_, by simp, rfl⟩
  rw [bindT_get]
  by_cases ht : t < l.length
  · rw [if_pos (by omega)]
    have h3 : (vs.toArray ++ Array.replicate (n - vs.toArray.size) undef).getD t undef = vs.getD t undef := by
      rw [Array.getD_eq_getD_getElem?, Array.getElem?_append_left (by simpa [← h1] using ht)]
      simp
    rw [h3]
    exact h2 t ht
  · rw [if_neg (by omega)]
    show R C (get .unk (enc t) .e) _
    rw [get_e]; trivial
end
end
end Go.Y
