/- What is shown of calls. No condition. -/
import Derived.Test.YtkjoldifiniliaaK8
set_option linter.unusedVariables false
set_option linter.unusedSimpArgs false
set_option linter.constructorNameAsVariable false
namespace Go.K
open Go.Ab Go.RowKit Go.Y
noncomputable section
section
variable [Gl] {P : Program} {B : Nat}

/-! ### Results -/
/-- What a result's variable holds. -/
def RVal (P : Program) (τ : Nat → V) (μ : Mem) (r : ResultVar) (v : V) : Prop := match r with
  | .tmp t => τ t = v
  | .cell p t => ∃ s d id q blk, tshape P t = some s ∧ P.underlying t = some d ∧ τ p = .ptr id q s ∧ μ id = some blk ∧ blk.alive = true ∧ blk.v.path q = v
theorem RVal.s {H N : Nat} {C : Ctx} {M : Mem} {τ : Nat → V} {μ : Mem} {nx : Nat} {a : Act} (hz : GR B H C M μ nx) (ht : GT C τ a N) {r : ResultVar} {v : V} (h : RVal P τ μ r v) : ∃ val, (rdV a r).run P C.w = .ok val C.w ∧ R C v (.val val) := by
  cases r with
  | tmp t => obtain rfl : τ t = v := h; exact ⟨_, rfl, ht.tv t⟩
  | cell p t =>
    obtain ⟨s, d, id, q, blk, hs, hd, hp, hb, ha, rfl⟩ := h
    have hr := ht.tv p
    rw [hp] at hr
    obtain ⟨hal', g, off, h5, h6, h7⟩ := hr
    have h7' : a.tmps.getD p undef = .pointer (some ⟨g, off, none⟩) := h7
    obtain ⟨h8, _⟩ := BR.at (hz.sr.mem _ _ (hz.sub _ _ hb)) ha h5 h6
    obtain ⟨val, h9, h10⟩ := run_loadVar_tree hs hd h8
    exact ⟨val, by simp only [rdV, h7']; simpa [asAddr] using h9, h10⟩
def RVals (P : Program) (τ : Nat → V) (μ : Mem) : List ResultVar → V → Prop
  | [], v => v = .nl
  | r :: l, v => ∃ x w, v = .cons x w ∧ RVal P τ μ r x ∧ RVals P τ μ l w
theorem RVals.s {H N : Nat} {C : Ctx} {M : Mem} {τ : Nat → V} {μ : Mem} {nx : Nat} {a : Act} (hz : GR B H C M μ nx) (ht : GT C τ a N) : ∀ {l : List ResultVar} {v : V}, RVals P τ μ l v → ∃ xs, (l.mapM (rdV a)).run P C.w = .ok xs C.w ∧ R C v (.list xs) ∧ xs.length = l.length
  | [], v, h => by obtain rfl : v = .nl := h; exact ⟨[], rfl, rfl, rfl⟩
  | r :: l, v, h => by
    obtain ⟨x, w, rfl, h1, h2⟩ := h
    obtain ⟨x, e1, r1⟩ := h1.s hz ht
    obtain ⟨xs, e2, r2, hl⟩ := RVals.s hz ht h2
    refine ⟨x :: xs, ?_, ⟨x, xs, rfl, r1, r2⟩, by simp [hl]⟩
    rw [List.mapM_cons, Sem.run_bind, e1, Result.andThen_ok, Sem.run_bind, e2, Result.andThen_ok, Sem.run_pure]
/-- One result, or all of them. -/
def RAll (P : Program) (τ : Nat → V) (μ : Mem) (l : List ResultVar) (v : V) : Prop := match l with
  | [r] => RVal P τ μ r v
  | l => ∃ w, v = .tup w ∧ RVals P τ μ l w
theorem RAll.s {H N : Nat} {C : Ctx} {M : Mem} {τ : Nat → V} {μ : Mem} {nx : Nat} {a : Act} (hz : GR B H C M μ nx) (ht : GT C τ a N) {fn : Func} {v : V} (h : RAll P τ μ fn.results.toList v) : ∃ val, (results fn a.tmps).run P C.w = .ok val C.w ∧ R C v (.val val) := by
  have key : ∀ {w : V}, RVals P τ μ fn.results.toList w → ∃ xs : List Value, (fn.results.mapM (rdV a)).run P C.w = .ok xs.toArray C.w ∧ R C w (.list xs) ∧ xs.length = fn.results.toList.length := by
    intro w hw
    obtain ⟨xs, h1, h2, h3⟩ := hw.s hz ht
    refine ⟨xs, ?_, h2, h3⟩
    have : fn.results = fn.results.toList.toArray := by simp
    rw [this, List.mapM_toArray, map_eq_pure_bind, Sem.run_bind, h1]; rfl
  unfold RAll at h
  split at h
  · rename_i r hr
    obtain ⟨xs, h1, h2, h3⟩ := key (w := .cons v .nl) (by rw [hr]; exact ⟨v, .nl, rfl, h, rfl⟩)
    obtain ⟨x, xs', rfl, h4, h5⟩ := h2
    rw [hr] at h3
    have h6 : xs' = [] := by simpa using h3
    subst h6
    refine ⟨x, ?_, h4⟩
    rw [results_rdV, Sem.run_bind, h1]; rfl
  · rename_i hne
    obtain ⟨w, rfl, hw⟩ := h
    obtain ⟨xs, h1, h2, h3⟩ := key hw
    refine ⟨.tuple xs.toArray, ?_, xs.toArray, rfl, by simpa using h2⟩
    rw [results_rdV, Sem.run_bind, h1]
    have h4 : ¬ xs.toArray.size = 1 := by
      intro h5
      simp only [List.size_toArray] at h5
      rw [h5] at h3
      match hm : fn.results.toList, h3 with
      | [r], _ => exact hne r hm
      | [], h3 => simp at h3
      | _ :: _ :: _, h3 => simp at h3
    rw [Result.andThen_ok, dif_neg h4, Sem.run_pure]

/-! ### Calls -/
omit [Gl] in
/-- The temporaries that a call begins with. -/
theorem GT.enter {C : Ctx} {l : List V} {vs : List Value} (h : R C (mkL l) (.list vs)) (n : Nat) {τ : Nat → V} (h1 : ∀ t, τ t = if t < l.length then l.getD t .unk else .unk) :
    GT C τ { tmps := vs.toArray ++ Array.replicate (n - vs.toArray.size) undef, defers := [] } (l.length + (n - l.length)) := by
  have h2 := YT.enter h n
  refine ⟨fun t => ?_, by rw [h2.size, (mkL_list h).1], rfl⟩
  have := h2.tv t
  rw [bindT_get] at this
  rw [h1]
  by_cases ht : t < l.length
  · rw [if_pos (by omega)] at this
    rw [if_pos ht]; exact this
  · rw [if_neg ht]; trivial
/-- The arguments. -/
def argT (l : List V) (t : Nat) : V := if t < l.length then l.getD t .unk else .unk
theorem GCall.body {fid : FuncId} {fn : Func} {c : Code} {l : List V} {μ μ' : Mem} {nx nx' mx' : Nat} {τ τ' : Nat → V} {e : Exit} {v : V} (hfn : P.funcs[fid]? = some fn) (hb : fn.body = some c) (h1 : TImp (argT l) τ)
    (h : GRuns P B c τ μ nx (l.length + (fn.ntmps - l.length)) e τ' μ' nx' mx') (he : e = .normal ∨ e = .ret) (hv : RAll P τ' μ' fn.results.toList v) : GCall P B fid l μ nx v μ' nx' mx' := by
  intro H C M vals hH hH2 hz h6
  have hent := (GT.enter (τ := argT l) h6 fn.ntmps fun _ => rfl).imp h1
  refine calls_of_wp hfn hb (wp_mono (h H C M _ hH hH2 hz (by have := (mkL_list h6).1; simpa [this] using hent)) ?_)
  rintro e' a w' ⟨rfl, C', M', rfl, hf⟩
  obtain ⟨val, q1, q2⟩ := hv.s hf.yr hf.yt
  have q : a.defers = [] ∧ ∃ v', (results fn a.tmps).run P C'.w = .ok v' C'.w ∧ (∃ val', Ending.returned v' = .returned val' ∧ ∃ C'' M'', C''.w = C'.w ∧ R C'' v (.val val') ∧ GR B H C'' M'' μ' nx' ∧ GC B H C M μ nx C'' M'' μ' nx') :=
    ⟨hf.yt.defers, val, q1, val, rfl, C', M', rfl, q2, hf.yr, hf.yc⟩
  rcases he with rfl | rfl
  · exact q
  · exact q
/-- A call of a function's value. -/
theorem GCall.does {o : Oper} {f : Operand} {args : Array Operand} {ts : Array TypeId} {τ : Nat → V} {μ μ' : Mem} {nx nx' mx' : Nat} {fid : FuncId} {fn : Func} {caps v : V} (ho : o.op = .call ⟨.value f, args, ts⟩) (hf : opv Gl.G τ f = .fn fid caps)
    (hfn : P.funcs[fid]? = some fn) (hname : (fn.name == "runtime.NumGoroutine") = false) (hbody : fn.body.isNone = false) (h : GCall P B fid (args.toList.map (opv Gl.G τ) ++ unL caps) μ nx v μ' nx' mx') : GDoes P B o τ μ nx v μ' nx' mx' := by
  intro H C M ρc hH hH2 hz hx
  obtain ⟨h0, h3⟩ := call_args ho hx
  rw [hf] at h0
  obtain ⟨cs, h1, h2⟩ := h0
  have h1' : ρc f = .func (.func fid) #[] cs := h1
  unfold Does
  rw [enter_run ho h1' hfn hname hbody]
  exact (h H C M _ hH hH2 hz (mkL_app h3 (mkL_unL h2))).mono fun e w' ⟨v, he, hp⟩ => ⟨v, he, hp⟩
/-- Names from there on are free again. -/
theorem GCall.reset (hgn : ∀ g, noId (Gl.G g) = true) {fid : FuncId} {l : List V} {μ μ' : Mem} {nx nx' mx' : Nat} {v : V} (h : GCall P B fid l μ nx v μ' nx' mx') (hmb : MB μ nx) (hlow : ∀ id, id < nx → μ' id = μ id) (hv : v.bel nx) (hle : nx ≤ nx') {mx2 : Nat} (h1 : nx' ≤ mx2) (h2 : mx' ≤ mx2) : GCall P B fid l μ nx v μ nx mx2 := by
  intro H C M vals hH hH2 hz hl
  refine (h H C M vals (by omega) (by omega) hz hl).mono ?_
  rintro e w' ⟨val, he, C1, M1, hw, hR, h1, hc⟩
  have hold : ∀ id, C.al id → id < nx ∨ H ≤ id := fun id hid => by
    rcases Nat.lt_or_ge id nx with h | h
    · exact .inl h
    · rcases Nat.lt_or_ge id H with h' | h'
      · exact absurd hid (hz.al id h h')
      · exact .inr h'
  let M2 : Mem := fun id => if id < nx ∨ H ≤ id then M1 id else none
  have hM2 : ∀ id c, M2 id = some c → M1 id = some c ∧ M id = some c ∧ (id < nx ∨ H ≤ id) := by
    intro id c hx
    replace hx : (if id < nx ∨ H ≤ id then M1 id else none) = some c := hx
    by_cases hi : id < nx ∨ H ≤ id
    · rw [if_pos hi] at hx
      refine ⟨hx, ?_, hi⟩
      cases hm : μ id with
      | none => rw [← (hc.fr id hi hm).1]; exact hx
      | some b =>
        have q1 : id < nx := by
          rcases Nat.lt_or_ge id nx with q | q
          · exact q
          · rw [hmb id q] at hm; cases hm
        have q2 := h1.sub id b (by rw [hlow id q1]; exact hm)
        rw [q2] at hx; cases hx
        exact hz.sub id _ hm
    · rw [if_neg hi] at hx; cases hx
  have hkeep : Keep C (cutC C1 nx H) := ⟨fun id hid => ⟨hc.kp.al id hid, hold id hid⟩, hc.kp.sv, hc.kp.shp, hc.kp.ok, hc.kp.heap⟩
  refine ⟨val, he, cutC C1 nx H, M2, hw, R.cutLow _ hv hR, ⟨⟨h1.sr.base, h1.sr.okLt, ?_, ?_, ?_, ?_, fun g => R.keep (C := C1.pur) (C' := cutC C1 nx H) ⟨fun _ h => h.elim, fun _ h => h.elim, fun _ h => h.elim, fun _ _ h => h, fun _ _ _ => rfl⟩ _ _ (R.pure_of _ (hgn g) (h1.sr.gl g))⟩, ?_, ?_⟩, ⟨⟨hkeep, hc.kp.below, hc.kp.okn⟩, ?_, ?_⟩⟩
  · intro id c hx
    obtain ⟨q1, _, q3⟩ := hM2 id c hx
    exact ⟨h1.sr.al id c q1, q3⟩
  · intro id c hx
    obtain ⟨q1, q2, _⟩ := hM2 id c hx
    by_cases hd : c.k = .dead
    · unfold BR; rw [hd]; trivial
    refine BR.mk (h1.sr.mem id c q1) rfl rfl fun m hr => ?_
    have hb := hz.sr.mem id c q2
    unfold BR at hb
    cases hkd : c.k <;> simp only [hkd] at hb
    · obtain ⟨g, cur, e, _, _, _, _, _, h6⟩ := hb; exact R.two hold _ h6 hr
    · obtain ⟨n1, s, cells, _, _, _, h6⟩ := hb; exact R.two hold _ h6 hr
    · exact absurd hkd hd
  · intro id id' c c' b q1 q2 q3 q4 q5 q6
    exact h1.sr.sep id id' c c' b (hM2 id c q1).1 q2 (hM2 id' c' q3).1 q4 q5 q6
  · intro id c b q1 q2 q3 u
    exact h1.sr.own id c b (hM2 id c q1).1 q2 q3 u
  · intro id c hx
    have q1 : id < nx := by
      rcases Nat.lt_or_ge id nx with q | q
      · exact q
      · rw [hmb id q] at hx; cases hx
    show (if id < nx ∨ H ≤ id then M1 id else none) = some c
    rw [if_pos (.inl q1)]
    exact h1.sub id c (by rw [hlow id q1]; exact hx)
  · intro id q1 q2 q3
    rcases q3.2 with h | h
    · omega
    · omega
  · intro id hid
    rcases hc.al id hid.1 with h | h
    · exact .inl h
    · rcases hid.2 with h' | h'
      · omega
      · omega
  · intro id hid hn
    obtain ⟨q1, q2⟩ := hc.fr id hid hn
    refine ⟨?_, hn⟩
    show (if id < nx ∨ H ≤ id then M1 id else none) = M id
    rw [if_pos hid, q1]
/-- What is there, as a list. -/
def dom (μ : Mem) (nx : Nat) : List Nat := (List.range nx).filter fun id => (μ id).isSome
omit [Gl] in
theorem dom_lt {μ : Mem} {nx id : Nat} (h : id ∈ dom μ nx) : id < nx := by simp [dom] at h; exact h.1
omit [Gl] in
theorem dom_mem {μ : Mem} {nx id : Nat} {b : Blk} (hm : MB μ nx) (h : μ id = some b) : id ∈ dom μ nx := by
  have : id < nx := by
    rcases Nat.lt_or_ge id nx with q | q
    · exact q
    · rw [hm id q] at h; cases h
  simp [dom, this, h]
def newL (μ' : Mem) (nx nx' : Nat) : List Blk := (List.range (nx' - nx)).map fun i => (μ' (nx + i)).getD deadB
/-- A call, wherever it comes up: it writes nothing that was there. -/
theorem GDoes.st {o : Oper} {τ : Nat → V} {μ μ' : Mem} {nx nx' mx' : Nat} {v : V} (h : GDoes P B o τ μ nx v μ' nx' mx') (hmb : MB μ nx) (hmb' : MB μ' nx') (hlow : ∀ id, id < nx → μ' id = μ id) (hle : nx ≤ nx') (hx : mx' ≤ nx') :
    GSt P B o τ μ μ' nx nx' v [] (dom μ nx) ⟨v, [], newL μ' nx nx', dom μ nx⟩ := by
  have hlen : (newL μ' nx nx').length = nx' - nx := by simp [newL]
  have hget : ∀ i, i < nx' - nx → (newL μ' nx nx')[i]? = some ((μ' (nx + i)).getD deadB) := by
    intro i hi
    unfold newL
    rw [List.getElem?_map, List.getElem?_range hi]; rfl
  have htouch : ∀ id, touch (⟨v, [], newL μ' nx nx', dom μ nx⟩ : Eff) nx id = if nx ≤ id ∧ id < nx' then some ((μ' id).getD deadB) else none := by
    intro id
    unfold touch
    simp only [hlen, List.lookup_nil]
    by_cases h1 : nx ≤ id ∧ id < nx'
    · rw [if_pos (by omega), if_pos h1, hget _ (by omega), show nx + (id - nx) = id by omega]
    · rw [if_neg (by omega), if_neg h1]
  refine ⟨rfl, by show nx' = nx + (newL μ' nx nx').length; omega, rfl, rfl, (by intro x hx; cases hx), ?_, ?_, ?_⟩
  · intro id hid hn
    rcases hid with hid | hid
    · rw [hlow id hid]; exact hn
    · exact hmb' id hid
  · intro M hM C M1 ρc hs hrd _ hfresh hop
    have hrd' : ∀ id ∈ dom μ nx, M1 id = M id := hrd
    have hfr : ∀ id, nx ≤ id → id < nx' → ¬ C.al id := by
      intro id h1 h2
      have := hfresh (id - nx) (by show id - nx < (newL μ' nx nx').length; omega)
      rwa [show nx + (id - nx) = id by omega] at this
    refine (h nx' C M1 ρc (Nat.le_refl _) hx ⟨hs, fun id b hb => by rw [hrd' id (dom_mem hmb hb)]; exact hM id b hb, hfr⟩ hop).mono ?_
    rintro val w' ⟨C', M', hw, hR, hz, hc⟩
    let C2 : Ctx := { C' with al := fun id => C'.al id ∨ (nx ≤ id ∧ id < nx') }
    have hk2 : Keep C' C2 := ⟨fun _ h => .inl h, fun _ _ => rfl, fun _ _ => rfl, fun _ _ h => h, fun _ _ _ => rfl⟩
    have hput : ∀ id blk, put M1 nx (⟨v, [], newL μ' nx nx', dom μ nx⟩ : Eff) id = some blk → (blk = deadB ∧ nx ≤ id ∧ id < nx') ∨ (M' id = some blk) := by
      intro id blk hb
      unfold put at hb
      rw [htouch] at hb
      by_cases h1 : nx ≤ id ∧ id < nx'
      · rw [if_pos h1] at hb
        cases hm : μ' id with
        | none => rw [hm] at hb; exact .inl ⟨(Option.some.inj hb).symm, h1.1, h1.2⟩
        | some b => rw [hm] at hb; exact .inr (by rw [hz.sub id b hm]; exact hb)
      · rw [if_neg h1] at hb
        right
        cases hm : μ id with
        | none => rw [(hc.fr id (by omega) hm).1]; exact hb
        | some b =>
          have q1 : id < nx := dom_lt (dom_mem hmb hm)
          have q2 := hz.sub id b (by rw [hlow id q1]; exact hm)
          rw [q2, ← hb]
          show some b = M1 id
          rw [hrd' id (dom_mem hmb hm), hM id b hm]
    refine ⟨C2, hw, R.keep hk2 _ _ hR, ⟨⟨fun id h => .inl (hc.kp.al id h), hc.kp.sv, hc.kp.shp, hc.kp.ok, hc.kp.heap⟩, hc.kp.below, hc.kp.okn⟩, ⟨hz.sr.base, hz.sr.okLt, ?_, ?_, ?_, ?_, fun g => R.keep hk2 _ _ (hz.sr.gl g)⟩, ?_⟩
    · intro id blk hb
      rcases hput id blk hb with ⟨_, h1, h2⟩ | h1
      · exact .inr ⟨h1, h2⟩
      · exact .inl (hz.sr.al id blk h1)
    · intro id blk hb
      rcases hput id blk hb with ⟨rfl, _, _⟩ | h1
      · trivial
      · exact (hz.sr.mem id blk h1).keep (hz.sr.al id blk h1) hk2 fun _ _ => rfl
    · intro id id' blk blk' b h1 h2 h3 h4 h5 h6
      rcases hput id blk h1 with ⟨rfl, _, _⟩ | h1
      · cases h2
      · rcases hput id' blk' h3 with ⟨rfl, _, _⟩ | h3
        · cases h4
        · exact hz.sr.sep id id' blk blk' b h1 h2 h3 h4 h5 h6
    · intro id blk b h1 h2 h3
      rcases hput id blk h1 with ⟨rfl, _, _⟩ | h1
      · cases h2
      · exact hz.sr.own id blk b h1 h2 h3
    · intro id hid
      show C.al id ∨ (nx ≤ id ∧ id < nx + (newL μ' nx nx').length)
      rcases hid with hid | hid
      · rcases hc.al id hid with h1 | h1
        · exact .inl h1
        · exact .inr ⟨h1.1, by omega⟩
      · exact .inr ⟨hid.1, by omega⟩
  · intro _ M hM id b hb
    unfold put
    rw [htouch]
    by_cases h1 : nx ≤ id ∧ id < nx'
    · rw [if_pos h1, hb]; rfl
    · rw [if_neg h1]
      have q1 : id < nx := by
        rcases Nat.lt_or_ge id nx' with q | q
        · omega
        · rw [hmb' id q] at hb; cases hb
      exact hM id b (by rw [← hlow id q1]; exact hb)

/-! ### Contracts -/
/-- By a contract. -/
theorem con_call (hgn : ∀ g, noId (Gl.G g) = true) {c : CSpec} {fid : FuncId} {l : List V} {μ : Mem} {nx mx : Nat} (hc : CSoundG P fid c) (hf : c.fresh = true) (hn : noId (mkL l) = true) (hp : c.pre (unL (mkL l)) = true) : GCall P B fid l μ nx (c.res (unL (mkL l))) μ nx mx := by
  intro H C M vals hH _ hz hl
  have h := con_does (s := (Pure.pure (Next.enter fid vals.toArray) : Sem Next)) hz.sr hgn hc rfl (.inr (R.pure_of _ hn hl)) hp
  have h0 : Calls P fid vals.toArray C.w fun e w'' => ∃ v, e = .returned v ∧ ∃ C', C'.w = w'' ∧ R C' (lendR c (mkL l)) (.val v) ∧ Kp B C C' ∧ SR B C' M ∧ (∀ id, C'.al id → C.al id) := h
  refine h0.mono ?_
  rintro e w' ⟨val, he, C', hw, hR, hk, hs, hal⟩
  have hv : lendR c (mkL l) = c.res (unL (mkL l)) := by unfold lendR; rw [hf]
  rw [hv] at hR
  exact ⟨val, he, C', M, hw, hR, ⟨hs, hz.sub, fun id h1 h2 h3 => hz.al id h1 h2 (hal id h3)⟩, ⟨hk, fun id h => .inl (hal id h), fun _ _ h => ⟨rfl, h⟩⟩⟩
end
end
end Go.K
