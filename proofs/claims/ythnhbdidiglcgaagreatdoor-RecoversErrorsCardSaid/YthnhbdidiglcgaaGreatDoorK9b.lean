/- Loops over functions: the loop, and the call of what its rounds are called by. No condition. Loops over functions: a round is called. No condition. Equality of values in this form. No condition. -/
import Derived.Test.YthnhbdidiglcgaaGreatDoorK8b
set_option linter.unusedVariables false
set_option linter.unusedSimpArgs false
set_option linter.constructorNameAsVariable false
namespace Go.K
open Go.Ab Go.RowKit Go.Y
noncomputable section
section
variable [Gl] {P : Program} {B : Nat}

/-- An object that is no cells, under a new name. -/
theorem SR.obj {C : Ctx} {m : Mem} (h : SR B C m) {n : Nat} (hn : ¬ C.al n) (o : Obj) (blk : Blk) (sv : Value) (hsv : blkL? sv = some C.w.heap.size)
    (hbr : ∀ C' : Ctx, Keep C C' → C'.sv n = sv → C'.w = C.w.alloc o → BR B C' n blk) :
    SR B { C with al := fun i => C.al i ∨ i = n, sv := upd C.sv n sv, w := C.w.alloc o } (upd m n (some blk)) ∧ Kp B C { C with al := fun i => C.al i ∨ i = n, sv := upd C.sv n sv, w := C.w.alloc o } := by
  have hne : ∀ id, C.al id → id ≠ n := fun id hid e => hn (e ▸ hid)
  have hk : Kp B C { C with al := fun i => C.al i ∨ i = n, sv := upd C.sv n sv, w := C.w.alloc o } := ⟨⟨fun _ h => .inl h, fun id hid => upd_other _ _ (hne id hid), fun id hid => rfl, fun _ _ h => h, fun u b hb' => Below.heap_alloc C.w _ b (h.okLt u b hb')⟩,
    (Below.refl B C.w).alloc h.base _, fun _ _ h => .inl (.inl h)⟩
  refine ⟨h.next hk (fun id => id = n) (fun id hid => upd_other _ _ hid) (fun id blk b _ hm ha hbb => Below.heap_alloc C.w _ b (h.lt hm ha hbb).2) ?_ ?_ ?_ ?_, hk⟩
  · intro id blk' hid hm
    subst hid
    simp only [upd_same, Option.some.injEq] at hm
    subst hm
    exact ⟨.inr rfl, hbr _ hk.toKeep (by simp) rfl⟩
  · intro u b hb'
    have := h.okLt u b hb'
    show b < (C.w.alloc _).heap.size
    simp; omega
  · intro id id' blk1 blk2 b h1 h2 h3 h4 hid h5 h6
    subst hid
    simp only [upd_same] at h5
    rw [hsv] at h5
    simp only [Option.some.injEq] at h5
    subst h5
    by_cases hid' : id' = id
    · exact hid'.symm
    · exfalso
      rw [upd_other _ _ hid'] at h3
      simp only [upd_other _ _ hid'] at h6
      have := (h.lt h3 h4 h6).2
      omega
  · intro id blk1 b h1 h2 h3 u hok
    by_cases hid : id = n
    · subst hid
      simp only [upd_same] at h3
      rw [hsv] at h3
      simp only [Option.some.injEq] at h3
      subst h3
      have := h.okLt _ _ hok
      omega
    · rw [upd_other _ _ hid] at h1
      simp only [upd_other _ _ hid] at h3
      exact h.own id blk1 b h1 h2 h3 u hok
/-- It has another content. -/
theorem GR.reput {H : Nat} {C : Ctx} {M μ : Mem} {nx id D : Nat} {blk blk' : Blk} (hz : GR B H C M μ nx) (hm : M id = some blk) (hl : blk.live = true) (hb : blkL? (C.sv id) = some D) (hμ : μ id = none) (o : Obj)
    (hbr : ∀ C' : Ctx, Keep C C' → C'.sv = C.sv → C'.w = setW C.w D o → BR B C' id blk') :
    GR B H { C with w := setW C.w D o } (upd M id (some blk')) μ nx ∧ Kp B C { C with w := setW C.w D o } := by
  have hlt := hz.sr.lt hm hl hb
  have hk : Kp B C { C with w := setW C.w D o } := (hz.drop hm hl hb hμ o).2
  refine ⟨⟨hz.sr.next hk (fun i => i = id) (fun i hi => upd_other _ _ hi) ?_ ?_ ?_ ?_ ?_, fun i b hi => ?_, hz.al⟩, hk⟩
  · intro i blk1 b1 hi hm1 ha1 hb1
    exact setW_other fun e => hi (hz.sr.sep i id blk1 blk b1 hm1 ha1 hm hl hb1 (e ▸ hb))
  · intro i blk1 hi hm1
    subst hi
    simp only [upd_same, Option.some.injEq] at hm1
    subst hm1
    exact ⟨hz.sr.al i blk hm, hbr _ hk.toKeep rfl rfl⟩
  · intro u b hb'
    show b < (setW C.w D o).heap.size
    rw [setW_size]; exact hz.sr.okLt u b hb'
  · intro i i' b1 b2 b h1 h2 h3 h4 hi h5 h6
    subst hi
    by_cases hi' : i' = i
    · exact hi'.symm
    · rw [upd_other _ _ hi'] at h3
      exact hz.sr.sep i i' blk b2 b hm hl h3 h4 h5 h6
  · intro i b1 b h1 h2 h3 u hok
    by_cases hi : i = id
    · subst hi; exact hz.sr.own i blk b hm hl h3 u hok
    · rw [upd_other _ _ hi] at h1; exact hz.sr.own i b1 b h1 h2 h3 u hok
  · by_cases hi' : i = id
    · subst hi'; rw [hμ] at hi; cases hi
    · rw [upd_other _ _ hi']; exact hz.sub i b hi
/-- How far the loop is, and how it goes on. -/
def StE (st : V) (e : Exit) : Prop := (st = .nl ∧ e = .normal) ∨ (st = .bool true ∧ e = .ret) ∨ ∃ i : Nat, st = .int .i64 (.ofNat i) ∧ e = .exit i
omit [Gl] in
theorem StE.pend {st : V} {e : Exit} {r : Loop} (h : StE st e) (hs : stR st r) : r.state ≠ .busy ∧ jmp e = some r.pending := by
  rcases h with ⟨rfl, rfl⟩ | ⟨rfl, rfl⟩ | ⟨i, rfl, rfl⟩
  · obtain ⟨h1, h2⟩ := hs; rw [h1, h2]; exact ⟨by simp, rfl⟩
  · obtain ⟨h1, h2⟩ := hs; rw [h1, h2]; exact ⟨by simp, rfl⟩
  · obtain ⟨h1, h2⟩ := hs; rw [h1, h2]; exact ⟨by simp, rfl⟩
/-- The loop. -/
theorem GRuns.range {g : Operand} {ps : Array Tmp} {x y : Code} {gf : FuncId} {fn : Func} {caps v st : V} {τ : Nat → V} {τ' : V} {μ μ2 : Mem} {nx nx2 mx2 N mask : Nat} {sh sh' : Shape} {e : Exit}
    (hg : opv Gl.G τ g = .fn gf caps) (hlt : gf < 1073741824) (hfn : P.funcs[gf]? = some fn) (hname : (fn.name == "runtime.NumGoroutine") = false) (hbody : fn.body.isNone = false)
    {k0 : Nat} (hmask : ∀ t, mBit mask t = false → τ t = .unk) (hcok : cOk N (.rangeFunc g ps x y) = true) (hmb : MB μ nx)
    (hcall : GCall P B gf (.yld nx :: unL caps) (upd μ nx (some ⟨.lp mask ps x y, sh, .cons .nl (.arr k0 τ)⟩)) (nx + 2) v μ2 nx2 mx2) (hle : nx + 2 ≤ nx2)
    {mask' : Nat} {ps' : Array Tmp} {x' y' : Code} (hend : μ2 nx = some ⟨.lp mask' ps' x' y', sh', .cons st τ'⟩) (hst : StE st e) : GRuns P B (.rangeFunc g ps x y) τ μ nx N e τ (upd μ2 nx none) nx2 mx2 := by
  intro ro n0 H C M a hH hH2 hz ht hsd
  have hev := ht.operand hz.sr.gl g
  rw [hg] at hev
  obtain ⟨cs, hg1, hg2⟩ := R.fn0 hlt hev
  have hg1' : a.eval g = .func (.func gf) #[] cs := hg1
  have hcf : ∀ args w, (callFunc gf args).run P w = .ok (.enter gf args) w := fun args w => by
    simp only [callFunc, Sem.run_bind, Sem.run_pure, Result.andThen_ok, run_program, hfn, hname, hbody, Bool.false_eq_true, if_false]
  have hokr : okR ps x y a.tmps.size := by
    have h1 := cOk_mono ht.size hcok
    simp only [cOk, Bool.and_eq_true] at h1
    exact ⟨h1.1, h1.2.1, h1.2.2⟩
  refine range_of fun fnid => ?_
  -- what is laid
  have lay : ∃ (l : Nat) (mark : List Deferred) (w1 : World) (C1 : Ctx) (M1 : Mem), (Instr.enterLoop fnid a.tmps ps x y ro).run P C.w = .ok (l, mark) w1 ∧ C1.w = w1 ∧ SR B C1 M1 ∧ Kp B C C1 ∧ (∀ id, C1.al id → C.al id ∨ id = nx ∨ id = nx + 1) ∧ C1.sv nx = .func (.yield l) #[] #[] ∧ C1.al nx ∧
      M1 nx = some ⟨.lp mask ps x y, sh, .cons .nl (.arr k0 τ)⟩ ∧ (∀ id, id ≠ nx → id ≠ nx + 1 → M1 id = M id) ∧
      ((mark = []) ∨ ∃ D, mark = [⟨.collected D, #[]⟩] ∧ D = C.w.heap.size ∧ M1 (nx + 1) = some ⟨.lp mask ps x y, sh, .nilf⟩ ∧ C1.sv (nx + 1) = .pointer (some ⟨D, 0, none⟩)) := by
    have hn0 : ¬ C.al nx := hz.al nx (Nat.le_refl _) (by omega)
    have hn1 : ¬ C.al (nx + 1) := hz.al (nx + 1) (by omega) (by omega)
    have lay1 : ∀ (C0 : Ctx) (M0 : Mem) (r : Loop), SR B C0 M0 → Keep C C0 → ¬ C0.al nx → r.state = .ready → r.pending = none → r.params = ps → r.assign = x → r.body = y → r.tmps = a.tmps →
        SR B { C0 with al := fun i => C0.al i ∨ i = nx, sv := upd C0.sv nx (.func (.yield C0.w.heap.size) #[] #[]), w := C0.w.alloc (.loop r) } (upd M0 nx (some ⟨.lp mask ps x y, sh, .cons .nl (.arr k0 τ)⟩)) ∧
        Kp B C0 { C0 with al := fun i => C0.al i ∨ i = nx, sv := upd C0.sv nx (.func (.yield C0.w.heap.size) #[] #[]), w := C0.w.alloc (.loop r) } := by
      intro C0 M0 r hs hk hal e1 e2 e3 e4 e5 e6
      refine SR.obj hs hal (.loop r) _ _ rfl fun C' hk' e7 e8 => ?_
      refine .inl ⟨C0.w.heap.size, r, .nl, k0, τ, e7, hs.base, by rw [e8]; exact heap_alloc_new C0.w _, ⟨e3, e4, e5⟩, rfl, by rw [e6]; exact hokr, fun t => ?_, ⟨e1, e2⟩, hmask⟩
      rw [e6]
      exact R.keep (hk.trans hk') _ _ (ht.tv t)
    cases ro with
    | none =>
      obtain ⟨s1, k1⟩ := SR.obj hz.sr hn1 (.deferred (some [])) ⟨.lp mask ps x y, sh, .nilf⟩ (.pointer (some ⟨C.w.heap.size, 0, none⟩)) rfl fun C' hk' e7 e8 =>
        .inr ⟨rfl, C.w.heap.size, e7, hz.sr.base, by rw [e8]; exact heap_alloc_new C.w _⟩
      obtain ⟨s2, k2⟩ := lay1 _ _ ⟨.ready, none, fnid, a.tmps, ps, x, y, C.w.heap.size⟩ s1 k1.toKeep (fun h => h.elim hn0 (by omega)) rfl rfl rfl rfl rfl rfl
      refine ⟨_, _, _, _, _, enter_outer fnid a.tmps ps x y, rfl, s2, k1.trans k2, ?_, ?_, .inr rfl, upd_same _ _ _, fun id h1 h2 => by rw [upd_other _ _ h1, upd_other _ _ h2], .inr ⟨_, rfl, rfl, ?_, ?_⟩⟩
      · rintro id ((h | h) | h)
        · exact .inl h
        · exact .inr (.inr h)
        · exact .inr (.inl h)
      · show upd _ nx _ nx = _
        rw [upd_same, World.size_alloc]
      · rw [upd_other _ _ (by omega), upd_same]
      · show upd (upd C.sv (nx + 1) _) nx _ (nx + 1) = _
        rw [upd_other _ _ (by omega), upd_same]
    | some l0 =>
      obtain ⟨id0, k, ps0, x0, y0, sh0, st0, n1, τ0, _, _, h3, h4⟩ := hsd.rd l0 rfl
      have hl0 : ∃ r0, C.w.heap[l0]? = some (.loop r0) := by
        rcases (show LoopR B C id0 k ps0 x0 y0 (.cons st0 (.arr n1 τ0)) from hz.sr.mem id0 _ h3) with ⟨l1, r1, _, _, _, e1, _, e2, _⟩ | ⟨e0, _⟩
        · rw [h4] at e1; cases e1; exact ⟨r1, e2⟩
        · cases e0
      obtain ⟨r0, hr0⟩ := hl0
      obtain ⟨s2, k2⟩ := lay1 C M ⟨.ready, none, fnid, a.tmps, ps, x, y, r0.defers⟩ hz.sr (Keep.refl C) hn0 rfl rfl rfl rfl rfl rfl
      refine ⟨_, _, _, _, _, enter_inner hr0 fnid a.tmps ps x y, rfl, s2, k2, ?_, upd_same _ _ _, .inr rfl, upd_same _ _ _, fun id h1 h2 => by rw [upd_other _ _ h1], .inl rfl⟩
      rintro id (h | h)
      · exact .inl h
      · exact .inr (.inl h)
  obtain ⟨l, mark, w1, C1, M1, hent, rfl, hs1, hk1, hal1, hsv1, hnal, hM1, hMo, hmk⟩ := lay
  refine ⟨l, mark, _, gf, cs, hent, hg1', hcf, ?_⟩
  have hμ1 : ∀ id, id ≠ nx → upd μ nx (some (⟨.lp mask ps x y, sh, .cons .nl (.arr k0 τ)⟩ : Blk)) id = μ id := fun id h => upd_other _ _ h
  have hz1 : GR B H C1 M1 (upd μ nx (some ⟨.lp mask ps x y, sh, .cons .nl (.arr k0 τ)⟩)) (nx + 2) := by
    refine ⟨hs1, fun id b hb => ?_, fun id h1 h2 h3 => ?_⟩
    · by_cases hi : id = nx
      · subst hi; rw [upd_same] at hb; rw [hM1]; exact hb
      · rw [hμ1 id hi] at hb
        by_cases hi2 : id = nx + 1
        · subst hi2; rw [hmb _ (by omega)] at hb; cases hb
        · rw [hMo id hi hi2]; exact hz.sub id b hb
    · rcases hal1 id h3 with h | h
      · exact hz.al id (by omega) h2 h
      · omega
  have hargs : R C1 (mkL (.yld nx :: unL caps)) (.list (.func (.yield l) #[] #[] :: cs.toList)) :=
    ⟨_, _, rfl, ⟨hnal, .inl ⟨l, hsv1⟩, hsv1.symm⟩, mkL_unL (R.keep hk1.toKeep _ _ hg2)⟩
  have hC := hcall H C1 M1 _ hH hH2 hz1 hargs
  have harr : (Value.func (.yield l) #[] #[] :: cs.toList).toArray = #[.func (.yield l) #[] #[]] ++ cs := by
    apply Array.ext'; simp
  rw [harr] at hC
  refine hC.mono ?_
  rintro e1 w' ⟨val, rfl, C2, M2, rfl, _, hz2, hc2⟩
  -- behind it
  have hM2 : M2 nx = some ⟨.lp mask' ps' x' y', sh', .cons st τ'⟩ := hz2.sub _ _ hend
  have hsv2 : C2.sv nx = .func (.yield l) #[] #[] := by rw [hc2.kp.sv _ hnal]; exact hsv1
  obtain ⟨r, hr, hstr⟩ : ∃ r, C2.w.heap[l]? = some (.loop r) ∧ stR st r := by
    rcases (show LoopR B C2 nx mask' ps' x' y' (.cons st τ') from hz2.sr.mem nx _ hM2) with ⟨l1, r1, _, _, _, e1, _, e2, _, e3, _, _, e4, _⟩ | ⟨e0, _⟩
    · rw [hsv2] at e1; cases e1
      cases e3
      exact ⟨r1, e2, e4⟩
    · cases e0
  obtain ⟨hnb, hj⟩ := hst.pend hstr
  have hz3 : GR B H C2 M2 (upd μ2 nx none) nx2 := ⟨hz2.sr, fun id b hb => by
    by_cases hi : id = nx
    · subst hi; rw [upd_same] at hb; cases hb
    · rw [upd_other _ _ hi] at hb; exact hz2.sub id b hb, hz2.al⟩
  obtain ⟨hz4, hk4⟩ := hz3.drop hM2 rfl (by rw [hsv2]; rfl) (upd_same _ _ _) (.loop { r with state := .exhausted })
  have hgc : GC B H C M μ nx { C2 with w := setW C2.w l (.loop { r with state := .exhausted }) } (upd M2 nx none) (upd μ2 nx none) nx2 := by
    refine ⟨(hk1.trans hc2.kp).trans hk4, fun id hid => ?_, fun id hid hμ => ?_⟩
    · rcases hc2.al id hid with h | h
      · rcases hal1 id h with h | h
        · exact .inl h
        · exact .inr (by omega)
      · exact .inr (by omega)
    · have hi : id ≠ nx := by omega
      have hi2 : id ≠ nx + 1 := by omega
      obtain ⟨q1, q2⟩ := hc2.fr id (by omega) (by rw [hμ1 id hi]; exact hμ)
      exact ⟨by rw [upd_other _ _ hi, q1, hMo id hi hi2], by rw [upd_other _ _ hi]; exact q2⟩
  have hgt : GT { C2 with w := setW C2.w l (.loop { r with state := .exhausted }) } τ { a with defers := mark ++ a.defers } N := ⟨fun t => R.keep ((hk1.trans hc2.kp).trans hk4).toKeep _ _ (ht.tv t), ht.size⟩
  have hside := hsd.next hz.sr hgc (by omega)
  have hsd' : Side ro n0 { C2 with w := setW C2.w l (.loop { r with state := .exhausted }) } (upd M2 nx none) (upd μ2 nx none) nx2 (mark ++ a.defers) := by
    rcases hmk with rfl | ⟨D, rfl, hD, hMD, hsD⟩
    · exact hside
    · have hnal1 : C1.al (nx + 1) := hs1.al _ _ hMD
      obtain ⟨q1, q2⟩ := hc2.fr (nx + 1) (by omega) (by rw [hμ1 _ (by omega)]; exact hmb _ (by omega))
      refine ⟨fun d hd => ?_, ?_, hside.le, hside.rd⟩
      · rcases List.mem_cons.1 hd with rfl | hd
        · exact ⟨nx + 1, D, mask, ps, x, y, sh, by have := hsd.le; omega, by rw [upd_other _ _ (by omega)]; exact q2, by rw [upd_other _ _ (by omega), q1]; exact hMD, by show C2.sv (nx + 1) = _; rw [hc2.kp.sv _ hnal1]; exact hsD, rfl⟩
        · exact hside.df d hd
      · show List.Nodup (_ :: _)
        rw [List.nodup_cons]
        refine ⟨fun hd => ?_, hsd.nd⟩
        obtain ⟨id, D', k, ps', x', y', sh', _, _, h3, h4, h5⟩ := hsd.df _ hd
        have hlt : D' < C.w.heap.size := (hz.sr.lt h3 rfl (b := D') (by rw [h4]; rfl)).2
        cases h5
        omega
  have hfin : GFin ro n0 B H C M μ nx N e τ (upd μ2 nx none) nx2 e { a with defers := mark ++ a.defers } (setW C2.w l (.loop { r with state := .exhausted })) := ⟨rfl, _, _, rfl, hz4, hgt, hgc, hsd'⟩
  refine ⟨val, r.pending, _, rfl, fin_run hr hnb, ?_⟩
  have key : ∀ (pj : Option Code) (w4 : World), jmp e = some pj → GFin ro n0 B H C M μ nx N e τ (upd μ2 nx none) nx2 e { a with defers := mark ++ a.defers } w4 → match pj with
      | none => GFin ro n0 B H C M μ nx N e τ (upd μ2 nx none) nx2 .normal { a with defers := mark ++ a.defers } w4
      | some c => c.wpIn (FR ro) 0 P (GFin ro n0 B H C M μ nx N e τ (upd μ2 nx none) nx2) { a with defers := mark ++ a.defers } w4 := by
    intro pj w4 hpj hf
    rcases hst with ⟨_, rfl⟩ | ⟨_, rfl⟩ | ⟨i, _, rfl⟩
    · obtain rfl : none = pj := Option.some.inj hpj
      exact hf
    · obtain rfl : some .ret = pj := Option.some.inj hpj
      exact wpIn_ret hf
    · obtain rfl : some (.exit i) = pj := Option.some.inj hpj
      exact wpIn_exit hf
  exact key _ _ hj hfin
end
end
end Go.K
set_option linter.unusedVariables false
set_option linter.unusedSimpArgs false
set_option linter.constructorNameAsVariable false
namespace Go.K
open Go.Ab Go.RowKit Go.Y
noncomputable section
section
variable [Gl] {P : Program} {B : Nat}

/-- The temporaries of a round: those of whoever loops, with what is handed over. -/
def parsR : List Tmp → List V → (Nat → V) → (Nat → V) → Prop
  | [], [], τ, τ' => ∀ t, τ' t = τ t
  | p :: ps, v :: vs, τ, τ' => ∃ τ1, (∀ t, (t = p ∧ (τ1 t = v ∨ τ1 t = .unk)) ∨ (t ≠ p ∧ τ1 t = τ t)) ∧ parsR ps vs τ1 τ'
  | _, _, _, _ => False
omit [Gl] in
theorem GT.pars {C : Ctx} {n : Nat} : ∀ {ps : List Tmp} {vs : List V} {xs : List Value} {τ τ' : Nat → V} {tm : Array Value}, parsR ps vs τ τ' → R C (mkL vs) (.list xs) → (∀ p ∈ ps, p < n) → GT C τ { tmps := tm, defers := [] } n →
    GT C τ' { tmps := (ps.zip xs).foldl (fun tm (t, a) => tm.setIfInBounds t a) tm, defers := [] } n
  | [], [], xs, τ, τ', tm, h, hr, _, ht => by
    refine ⟨fun t => ?_, by simpa using ht.size⟩
    rw [h t]
    simpa using ht.tv t
  | p :: ps, v :: vs, xs, τ, τ', tm, h, hr, hp, ht => by
    obtain ⟨τ1, h1, h2⟩ := h
    obtain ⟨x, xs', rfl, hv, hr'⟩ := hr
    have hlt : p < n := hp p (by simp)
    have hsz : n ≤ tm.size := ht.size
    refine GT.pars (tm := tm.setIfInBounds p x) h2 hr' (fun q hq => hp q (by simp [hq])) ⟨fun t => ?_, by simpa using hsz⟩
    have hg : (tm.setIfInBounds p x).getD t undef = if t = p then x else tm.getD t undef := by
      simp only [Array.getD_eq_getD_getElem?]
      by_cases h : t = p
      · subst h; rw [if_pos rfl, Array.getElem?_setIfInBounds_self_of_lt (Nat.lt_of_lt_of_le hlt hsz)]; rfl
      · rw [if_neg h, Array.getElem?_setIfInBounds_ne (Ne.symm h)]
    show R C (τ1 t) (.val ((tm.setIfInBounds p x).getD t undef))
    rw [hg]
    rcases h1 t with ⟨e, h | h⟩ | ⟨e, h⟩
    · rw [if_pos e, h]; exact hv
    · rw [h]; trivial
    · rw [if_neg e, h]; exact ht.tv t
  | [], _ :: _, _, _, _, _, h, _, _, _ => h.elim
  | _ :: _, [], _, _, _, _, h, _, _, _ => h.elim

/-- A round is called. -/
theorem GOp.yield {o : Oper} {f : Operand} {args : Array Operand} {ts : Array TypeId} {τ τc τp τ1 τ2 : Nat → V} {μ μ1 μ2 : Mem} {nx nx1 nx2 mx1 mx2 k0 mask id : Nat} {ps : Array Tmp} {x y : Code} {sh : Shape} {st : V} {e : Exit} {bv : Bool}
    (ho : o.op = .call ⟨.value f, args, ts⟩) (hf : opv Gl.G τ f = .yld id) (hid : id < nx) (hμ : μ id = some ⟨.lp mask ps x y, sh, .cons .nl (.arr k0 τc)⟩)
    (hτ : parsR ps.toList (args.toList.map (opv Gl.G τ)) τc τp) (hlen : args.size = ps.size)
    (hx : GRuns P B x τp (upd μ id none) nx (ndR ps x y) .normal τ1 μ1 nx1 mx1) (hy : GRuns P B y τ1 μ1 nx1 (ndR ps x y) e τ2 μ2 nx2 mx2) (h1 : nx ≤ nx1) (h2 : nx1 ≤ nx2) (h3 : mx1 ≤ mx2)
    (hst : StE st e) (hb : bv = true ↔ e = .normal) :
    GOp P B o τ μ nx (.bool bv) (upd μ2 id (some ⟨.lp mask ps x y, sh, .cons st (.arr k0 τc)⟩)) nx2 mx2 := by
  intro ro H C M a K Q hH hH2 hr ho' hK
  obtain ⟨g0, g3⟩ := call_args ho ho'
  rw [hf] at g0
  obtain ⟨hal, _, hfv⟩ := g0
  obtain ⟨l, hsv⟩ : ∃ l, C.sv id = .func (.yield l) #[] #[] := by
    have := hr.sr.mem id _ (hr.sub _ _ hμ)
    rcases (show LoopR B C id mask ps x y (.cons .nl (.arr k0 τc)) from this) with ⟨l1, _, _, _, _, e1, _⟩ | ⟨e0, _⟩
    · exact ⟨l1, e1⟩
    · cases e0
  have hfv' : a.eval f = .func (.yield l) #[] #[] := by rw [← hsv]; exact hfv
  have hM := hr.sub _ _ hμ
  -- the record
  have rec0 : ∀ {C' : Ctx} {st' : V}, LoopR B C' id mask ps x y (.cons st' (.arr k0 τc)) → C'.sv id = .func (.yield l) #[] #[] →
      ∃ r, C'.w.heap[l]? = some (.loop r) ∧ B ≤ l ∧ r.params = ps ∧ r.assign = x ∧ r.body = y ∧ okR ps x y r.tmps.size ∧ (∀ t, R C' (τc t) (.val (r.tmps.getD t undef))) ∧ stR st' r ∧
        (∀ t, mBit mask t = false → τc t = .unk) := by
    intro C' st' h hs
    rcases h with ⟨l1, r1, _, _, _, e1, e2, e3, ⟨e4, e5, e6⟩, e7, e8, e9, e10, e11⟩ | ⟨e0, _⟩
    · rw [hs] at e1; cases e1; cases e7
      exact ⟨r1, e3, e2, e4, e5, e6, e8, e9, e10, e11⟩
    · cases e0
  obtain ⟨r, hr0, hBl, rfl, rfl, rfl, htm, htv, ⟨hst0, hpd0⟩, hmask⟩ := rec0 (hr.sr.mem id _ hM) hsv
  refine ⟨fun _ _ => trivial, ?_⟩
  rw [Oper.semAt_eq _ _ _ (fun c => by rw [ho]; exact fun h => (by cases h))]
  have hrun : (execOp a.eval o).run P C.w = .ok (.round l r.fn ((r.params.zip (args.toList.map a.eval).toArray).foldl (fun tm (t, v) => tm.setIfInBounds t v) r.tmps) r.assign r.body) C.w := by
    have hy := yield_run (P := P) (w := C.w) (args := (args.toList.map a.eval).toArray) hr0 (by simpa using hlen)
    rw [← hy]
    simp only [execOp, ho, resolve, hfv', Deferred.ofValue, Sem.run_bind, Sem.run_pure, Result.andThen_ok, invoke]
    simp
    rw [show Array.map a.eval args = (args.toList.map a.eval).toArray by apply Array.ext'; simp]
  rw [hrun]
  refine ⟨fun hx => (by cases hx), round_of ?_⟩
  have hz0 : GR B H C M (upd μ id none) nx := ⟨hr.sr, fun i b hi => by
    by_cases h : i = id
    · subst h; rw [upd_same] at hi; cases hi
    · rw [upd_other _ _ h] at hi; exact hr.sub i b hi, hr.al⟩
  have hfold : (r.params.zip (args.toList.map a.eval).toArray).foldl (fun tm (t, v) => tm.setIfInBounds t v) r.tmps = (r.params.toList.zip (args.toList.map a.eval)).foldl (fun tm (t, v) => tm.setIfInBounds t v) r.tmps := by
    rw [← Array.foldl_toList]; simp
  have ht0 : GT C τp { tmps := (r.params.zip (args.toList.map a.eval).toArray).foldl (fun tm (t, v) => tm.setIfInBounds t v) r.tmps, defers := [] } (ndR r.params r.assign r.body) := by
    rw [hfold]
    exact GT.pars hτ g3 (fun p hp => of_decide_eq_true (List.all_eq_true.1 (ndR_s htm).2.1 p hp)) ⟨htv, (ndR_s htm).1⟩
  have hs0 : Side (some l) nx C M (upd μ id none) nx [] := ⟨(fun d hd => ((by cases hd))), List.nodup_nil, Nat.le_refl _, fun l' hl' => by
    cases hl'; exact ⟨id, mask, r.params, r.assign, r.body, sh, .nl, k0, τc, hid, upd_same _ _ _, hM, hsv⟩⟩
  refine wpIn_mono (hx (some l) nx H C M _ (by omega) (by omega) hz0 ht0 hs0) ?_
  rintro e1 a1 w1 ⟨rfl, C1, M1, rfl, hf1⟩
  refine ⟨rfl, ?_⟩
  obtain ⟨q1, q2⟩ := hf1.yc.fr id (.inl hid) (upd_same _ _ _)
  have hsv1 : C1.sv id = .func (.yield l) #[] #[] := by rw [hf1.yc.kp.sv _ hal]; exact hsv
  have hM1 : M1 id = some ⟨.lp mask r.params r.assign r.body, sh, .cons .nl (.arr k0 τc)⟩ := by rw [q1]; exact hM
  obtain ⟨r1, hr1, _, e1, e2, e3, htm1, htv1, ⟨hs1, hp1⟩, _⟩ := rec0 (hf1.yr.sr.mem id _ hM1) hsv1
  refine ⟨_, begin_run hr1 hs1, ?_⟩
  -- busy
  have hlt1 : l < C1.w.heap.size := (Array.getElem?_eq_some_iff.1 hr1).1
  obtain ⟨hz2, hk2⟩ := hf1.yr.reput hM1 rfl (by rw [hsv1]; rfl) q2 (.loop { r1 with state := .busy }) (blk' := ⟨.lp mask r.params r.assign r.body, sh, .cons .nilp (.arr k0 τc)⟩) (fun C' hk' e4 e5 =>
    .inl ⟨l, { r1 with state := .busy }, .nilp, k0, τc, by rw [e4]; exact hsv1, hBl, by rw [e5]; exact setW_same hlt1, ⟨e1, e2, e3⟩, rfl, htm1, fun t => R.keep hk' _ _ (htv1 t), ⟨rfl, hp1⟩, hmask⟩)
  have hs2 : Side (some l) nx { C1 with w := setW C1.w l (.loop { r1 with state := .busy }) } (upd M1 id (some ⟨.lp mask r.params r.assign r.body, sh, .cons .nilp (.arr k0 τc)⟩)) μ1 nx1 a1.defers := by
    refine ⟨fun d hd => ?_, hf1.sd.nd, hf1.sd.le, fun l' hl' => ?_⟩
    · obtain ⟨id', D, k, ps', x', y', sh', g1, g2, g4, g5, g6⟩ := hf1.sd.df d hd
      exact ⟨id', D, k, ps', x', y', sh', g1, g2, by rw [upd_other _ _ (by omega)]; exact g4, g5, g6⟩
    · cases hl'
      exact ⟨id, mask, r.params, r.assign, r.body, sh, .nilp, k0, τc, by omega, q2, upd_same _ _ _, hsv1⟩
  refine wpIn_mono (hy (some l) nx H _ _ a1 (by omega) (by omega) hz2 (hf1.yt.keep hk2.toKeep) hs2) ?_
  rintro e4 a2 w2 ⟨rfl, C2, M2, rfl, hf2⟩
  obtain ⟨q3, q4⟩ := hf2.yc.fr id (.inl (by omega)) q2
  have hal1 : C1.al id := hf1.yc.kp.al _ hal
  have hsv2 : C2.sv id = .func (.yield l) #[] #[] := by rw [hf2.yc.kp.sv _ hal1]; exact hsv1
  have hM2 : M2 id = some ⟨.lp mask r.params r.assign r.body, sh, .cons .nilp (.arr k0 τc)⟩ := by rw [q3, upd_same]
  obtain ⟨r2, hr2, _, e5, e6, e7, htm2, htv2, _, _⟩ := rec0 (hf2.yr.sr.mem id _ hM2) hsv2
  have hlt2 : l < C2.w.heap.size := (Array.getElem?_eq_some_iff.1 hr2).1
  have hj : ∃ j, jmp e4 = some j ∧ j.isNone = bv ∧ ∀ (r' : Loop), stR st { r' with state := if j.isNone then .ready else .done, pending := j } := by
    rcases hst with ⟨rfl, rfl⟩ | ⟨rfl, rfl⟩ | ⟨i, rfl, rfl⟩
    · exact ⟨none, rfl, (hb.2 rfl).symm, fun r' => ⟨rfl, rfl⟩⟩
    · refine ⟨some .ret, rfl, ?_, fun r' => ⟨rfl, rfl⟩⟩
      cases bv with
      | false => rfl
      | true => exact (by have q := hb.1 rfl; cases q)
    · refine ⟨some (.exit i), rfl, ?_, fun r' => ⟨rfl, rfl⟩⟩
      cases bv with
      | false => rfl
      | true => exact (by have q := hb.1 rfl; cases q)
  obtain ⟨j, hj1, hj2, hj3⟩ := hj
  refine ⟨j, .bool j.isNone, _, hj1, end_run j hr2, ?_⟩
  obtain ⟨hz3, hk3⟩ := hf2.yr.reput hM2 rfl (by rw [hsv2]; rfl) q4 (.loop { r2 with state := if j.isNone then .ready else .done, pending := j }) (blk' := ⟨.lp mask r.params r.assign r.body, sh, .cons st (.arr k0 τc)⟩) (fun C' hk' e8 e9 =>
    .inl ⟨l, { r2 with state := if j.isNone then .ready else .done, pending := j }, st, k0, τc, by rw [e8]; exact hsv2, hBl, by rw [e9]; exact setW_same hlt2, ⟨e5, e6, e7⟩, rfl, htm2, fun t => R.keep hk' _ _ (htv2 t), hj3 r2, hmask⟩)
  rw [hj2] at hz3 hk3 ⊢
  refine hK (.bool bv) _ (upd M2 id (some ⟨.lp mask r.params r.assign r.body, sh, .cons st (.arr k0 τc)⟩)) rfl ⟨hz3.sr, fun i b hi => ?_, hz3.al⟩ ⟨((hf1.yc.kp.trans hk2).trans hf2.yc.kp).trans hk3, fun i hi => ?_, fun i hi hn => ?_⟩
  · by_cases h : i = id
    · subst h; rw [upd_same] at hi ⊢; exact hi
    · rw [upd_other _ _ h] at hi; exact hz3.sub i b hi
  · rcases hf2.yc.al i hi with h | h
    · rcases hf1.yc.al i h with h | h
      · exact .inl h
      · exact .inr (by omega)
    · exact .inr (by omega)
  · have hne : i ≠ id := by intro e; subst e; rw [hμ] at hn; cases hn
    obtain ⟨p1, p2⟩ := hf1.yc.fr i hi (by rw [upd_other _ _ hne]; exact hn)
    obtain ⟨p3, p4⟩ := hf2.yc.fr i (by omega) p2
    exact ⟨by rw [upd_other _ _ hne, p3, upd_other _ _ hne, p1], by rw [upd_other _ _ hne]; exact p4⟩
end
end
end Go.K
set_option linter.unusedVariables false
set_option linter.unusedSimpArgs false
set_option linter.constructorNameAsVariable false
namespace Go.K
open Go.Ab Go.RowKit Go.Y
noncomputable section
variable [KGl]

/-! ### Equality of values in this form -/
def stepB (a b : Step) : Bool := match a, b with
  | .fld i, .fld j => Nat.beq i j
  | .idx i, .idx j => Nat.beq i j
  | .sub i m, .sub j n => nd (Nat.beq i j) (Nat.beq m n)
  | _, _ => false
def pathB : List Step → List Step → Bool
  | [], [] => true
  | a :: p, b :: q => nd (stepB a b) (pathB p q)
  | _, _ => false
omit [KGl] in
theorem pathB_s : ∀ {p q : List Step}, pathB p q = true → p = q
  | [], [], _ => rfl
  | [], _ :: _, h => by cases h
  | _ :: _, [], h => by cases h
  | a :: p, b :: q, h => by
    obtain ⟨h1, h2⟩ := nd_iff.1 (show nd (stepB a b) (pathB p q) = true from h)
    rw [pathB_s h2]
    cases a <;> cases b <;> first | (cases h1; done) | rw [beqE h1] | (obtain ⟨h3, h4⟩ := nd_iff.1 h1; rw [beqE h3, beqE h4])
def intB (a b : Int) : Bool := match a, b with
  | .ofNat m, .ofNat n => Nat.beq m n
  | .negSucc m, .negSucc n => Nat.beq m n
  | _, _ => false
omit [KGl] in
theorem intB_s {a b : Int} (h : intB a b = true) : a = b := by
  unfold intB at h
  split at h
  · rw [beqE h]
  · rw [beqE h]
  · cases h
omit [KGl] in
theorem beqB_s {a b : Bool} (h : beqB a b = true) : a = b := by rw [beqB_eq] at h; simpa using h
def optB (a b : Option Nat) : Bool := match a, b with
  | none, none => true
  | some m, some n => Nat.beq m n
  | _, _ => false
omit [KGl] in
theorem optB_s {a b : Option Nat} (h : optB a b = true) : a = b := by
  unfold optB at h
  split at h
  · rfl
  · rw [beqE h]
  · cases h
def kvb : KV → KV → Bool
  | .int k n, .int k' n' => nd (ikEq k k') (intB n n')
  | .bool a, .bool b => beqB a b
  | .str n x, .str n' x' => nd (Nat.beq n n') (Nat.beq x x')
  | .nl, .nl => true
  | .cons h t, .cons h' t' => nd (kvb h h') (kvb t t')
  | .pk k n x, .pk k' n' x' => nd (ikEq k k') (nd (Nat.beq n n') (Nat.beq x x'))
  | .ar n d t, .ar n' d' t' => nd (Nat.beq n n') (nd (kvb d d') (kvb t t'))
  | .te, .te => true
  | .tb a b c d, .tb a' b' c' d' => nd (kvb a a') (nd (kvb b b') (nd (kvb c c') (kvb d d')))
  | .tn x a b c d, .tn x' a' b' c' d' => nd (kvb x x') (nd (kvb a a') (nd (kvb b b') (nd (kvb c c') (kvb d d'))))
  | .ptr id p s, .ptr id' p' s' => nd (Nat.beq id id') (nd (pathB p p') (s.beq s'))
  | .row id s n, .row id' s' n' => nd (Nat.beq id id') (nd (s.beq s') (Nat.beq n n'))
  | .sl id p s off len cap, .sl id' p' s' off' len' cap' => nd (Nat.beq id id') (nd (pathB p p') (nd (s.beq s') (nd (Nat.beq off off') (nd (Nat.beq len len') (optB cap cap')))))
  | .ref w s c, .ref w' s' c' => nd (beqB w w') (nd (s.beq s') (kvb c c'))
  | .nilp, .nilp => true
  | .nils, .nils => true
  | .nilf, .nilf => true
  | .ro w cl s off len c, .ro w' cl' s' off' len' c' => nd (beqB w w') (nd (beqB cl cl') (nd (s.beq s') (nd (Nat.beq off off') (nd (Nat.beq len len') (kvb c c')))))
  | .fn f c, .fn f' c' => nd (Nat.beq f f') (kvb c c')
  | .tup l, .tup l' => kvb l l'
  | .unk, .unk => true
  | _, _ => false
omit [KGl] in
theorem kvb_s : ∀ {v w : KV}, kvb v w = true → v = w := by
  intro v
  induction v with
  | cons a b ih1 ih2 =>
    intro w h
    cases w <;> first | (cases h; done) | skip
    obtain ⟨h1, h2⟩ := nd_iff.1 h
    rw [ih1 h1, ih2 h2]
  | int k n =>
    intro w h
    cases w <;> first | (cases h; done) | skip
    obtain ⟨h1, h2⟩ := nd_iff.1 h
    rw [ikEq_eq h1, intB_s h2]
  | bool b =>
    intro w h
    cases w <;> first | (cases h; done) | skip
    rw [beqB_s h]
  | str n x =>
    intro w h
    cases w <;> first | (cases h; done) | skip
    obtain ⟨h1, h2⟩ := nd_iff.1 h
    rw [beqE h1, beqE h2]
  | pk k n x =>
    intro w h
    cases w <;> first | (cases h; done) | skip
    obtain ⟨h1, h2⟩ := nd_iff.1 h
    obtain ⟨h2, h3⟩ := nd_iff.1 h2
    rw [ikEq_eq h1, beqE h2, beqE h3]
  | ar n d t ih1 ih2 =>
    intro w h
    cases w <;> first | (cases h; done) | skip
    obtain ⟨h1, h2⟩ := nd_iff.1 h
    obtain ⟨h2, h3⟩ := nd_iff.1 h2
    rw [beqE h1, ih1 h2, ih2 h3]
  | tb a b c d ih1 ih2 ih3 ih4 =>
    intro w h
    cases w <;> first | (cases h; done) | skip
    obtain ⟨h1, h2⟩ := nd_iff.1 h
    obtain ⟨h2, h3⟩ := nd_iff.1 h2
    obtain ⟨h3, h4⟩ := nd_iff.1 h3
    rw [ih1 h1, ih2 h2, ih3 h3, ih4 h4]
  | tn x a b c d ih0 ih1 ih2 ih3 ih4 =>
    intro w h
    cases w <;> first | (cases h; done) | skip
    obtain ⟨h0, h1⟩ := nd_iff.1 h
    obtain ⟨h1, h2⟩ := nd_iff.1 h1
    obtain ⟨h2, h3⟩ := nd_iff.1 h2
    obtain ⟨h3, h4⟩ := nd_iff.1 h3
    rw [ih0 h0, ih1 h1, ih2 h2, ih3 h3, ih4 h4]
  | ptr id p s =>
    intro w h
    cases w <;> first | (cases h; done) | skip
    obtain ⟨h1, h2⟩ := nd_iff.1 h
    obtain ⟨h2, h3⟩ := nd_iff.1 h2
    rw [beqE h1, pathB_s h2, Shape.eq_of_beq h3]
  | row id s n =>
    intro w h
    cases w <;> first | (cases h; done) | skip
    obtain ⟨h1, h2⟩ := nd_iff.1 h
    obtain ⟨h2, h3⟩ := nd_iff.1 h2
    rw [beqE h1, Shape.eq_of_beq h2, beqE h3]
  | sl id p s off len cap =>
    intro w h
    cases w <;> first | (cases h; done) | skip
    obtain ⟨h1, h2⟩ := nd_iff.1 h
    obtain ⟨h2, h3⟩ := nd_iff.1 h2
    obtain ⟨h3, h4⟩ := nd_iff.1 h3
    obtain ⟨h4, h5⟩ := nd_iff.1 h4
    obtain ⟨h5, h6⟩ := nd_iff.1 h5
    rw [beqE h1, pathB_s h2, Shape.eq_of_beq h3, beqE h4, beqE h5, optB_s h6]
  | ref w s c ih =>
    intro w h
    cases w <;> first | (cases h; done) | skip
    obtain ⟨h1, h2⟩ := nd_iff.1 h
    obtain ⟨h2, h3⟩ := nd_iff.1 h2
    rw [beqB_s h1, Shape.eq_of_beq h2, ih h3]
  | ro u cl s off len c ih =>
    intro w h
    cases w <;> first | (cases h; done) | skip
    obtain ⟨h1, h2⟩ := nd_iff.1 h
    obtain ⟨h2, h3⟩ := nd_iff.1 h2
    obtain ⟨h3, h4⟩ := nd_iff.1 h3
    obtain ⟨h4, h5⟩ := nd_iff.1 h4
    obtain ⟨h5, h6⟩ := nd_iff.1 h5
    rw [beqB_s h1, beqB_s h2, Shape.eq_of_beq h3, beqE h4, beqE h5, ih h6]
  | fn f c ih =>
    intro w h
    cases w <;> first | (cases h; done) | skip
    obtain ⟨h1, h2⟩ := nd_iff.1 h
    rw [beqE h1, ih h2]
  | tup l ih =>
    intro w h
    cases w <;> first | (cases h; done) | skip
    rw [ih h]
  | _ => intro w h; cases w <;> first | rfl | (cases h; done)
def kvbs : List KV → List KV → Bool
  | [], [] => true
  | a :: l, b :: r => nd (kvb a b) (kvbs l r)
  | _, _ => false
omit [KGl] in
theorem kvbs_s : ∀ {l r : List KV}, kvbs l r = true → l = r
  | [], [], _ => rfl
  | [], _ :: _, h => by cases h
  | _ :: _, [], h => by cases h
  | a :: l, b :: r, h => by
    obtain ⟨h1, h2⟩ := nd_iff.1 (show nd (kvb a b) (kvbs l r) = true from h)
    rw [kvb_s h1, kvbs_s h2]
/-- It holds, and it is quickly seen. -/
def tK (b : Bool) : Prop := @Bool.rec (fun _ => Prop) False True b
omit [KGl] in
theorem tK_s {b : Bool} (h : tK b) : b = true := by
  cases b with
  | true => rfl
  | false => exact (show False from h).elim

def kdB (a b : Kind) : Bool := match a, b with
  | .box a, .box b => Nat.beq a b
  | .row t, .row t' => Nat.beq t t'
  | .dead, .dead => true
  | _, _ => false
omit [KGl] in
theorem kdB_s {a b : Kind} (h : kdB a b = true) : a = b := by
  unfold kdB at h
  split at h
  · rw [beqE h]
  · rw [beqE h]
  · rfl
  · cases h
def kbEq (a b : Option KBlk) : Bool := match a, b with
  | none, none => true
  | some x, some y => nd (kdB x.k y.k) (nd (x.sh.beq y.sh) (kvb x.v y.v))
  | _, _ => false
omit [KGl] in
theorem kbEq_s {a b : Option KBlk} (h : kbEq a b = true) : a = b := by
  unfold kbEq at h
  split at h
  · rfl
  · rename_i x y
    simp only [nd_iff] at h
    obtain ⟨h1, h2, h3⟩ := h
    cases x; cases y
    have a := kdB_s h1; have b := Shape.eq_of_beq h2; have c := kvb_s h3
    simp only at a b c
    subst a; subst b; subst c; rfl
  · cases h
def bothS (a b : Option KBlk) : Bool := match a, b with
  | some _, some _ => true
  | _, _ => false
/-- Where two memories differ. -/
def diffK (zm zm' : KZ) (lo : Nat) (n : Nat) : (List Nat → Prop) → Prop := @Nat.rec (fun _ => (List Nat → Prop) → Prop) (fun K => K []) (fun i ih K => ih fun U => fN (Nat.add lo i) fun id => @Bool.rec (fun _ => Prop) (chk (bothS (kb zm id) (kb zm' id)) 250 (K (id :: U))) (K U) (kbEq (kb zm id) (kb zm' id))) n
theorem diffK_s {zm zm' : KZ} {lo : Nat} : ∀ (n : Nat) (K : List Nat → Prop), diffK zm zm' lo n K → ∃ U, K U ∧ (∀ id, lo ≤ id → id < lo + n → id ∉ U → kb zm' id = kb zm id) ∧ ∀ id ∈ U, lo ≤ id ∧ id < lo + n ∧ (∃ b, am zm id = some b) ∧ ∃ b, am zm' id = some b
  | 0, K, h => ⟨[], h, fun id h1 h2 => by omega, fun id h => by cases h⟩
  | n + 1, K, h => by
    obtain ⟨U, h1, h2, h3⟩ := diffK_s n _ (show diffK zm zm' lo n (fun U => fN (Nat.add lo n) fun id => @Bool.rec (fun _ => Prop) (chk (bothS (kb zm id) (kb zm' id)) 250 (K (id :: U))) (K U) (kbEq (kb zm id) (kb zm' id))) from h)
    rw [fN_eq] at h1
    have h1 : @Bool.rec (fun _ => Prop) (chk (bothS (kb zm (lo + n)) (kb zm' (lo + n))) 250 (K ((lo + n) :: U))) (K U) (kbEq (kb zm (lo + n)) (kb zm' (lo + n))) := h1
    cases hb : kbEq (kb zm (lo + n)) (kb zm' (lo + n)) with
    | true =>
      rw [hb] at h1
      refine ⟨U, h1, fun id q1 q2 q3 => ?_, fun id hid => ?_⟩
      · by_cases e : id = lo + n
        · subst e; exact (kbEq_s hb).symm
        · exact h2 id q1 (by omega) q3
      · obtain ⟨a, b, c⟩ := h3 id hid
        exact ⟨a, by omega, c⟩
    | false =>
      rw [hb] at h1
      obtain ⟨h4, h5⟩ := chk_inv h1
      refine ⟨_, h5, fun id q1 q2 q3 => ?_, fun id hid => ?_⟩
      · rw [List.mem_cons, not_or] at q3
        exact h2 id q1 (by omega) q3.2
      · rcases List.mem_cons.1 hid with rfl | hid
        · refine ⟨by omega, by omega, ?_⟩
          unfold bothS at h4
          split at h4
          · rename_i e1 e2
            exact ⟨⟨_, am_some e1⟩, _, am_some e2⟩
          · cases h4
        · obtain ⟨a, b, c⟩ := h3 id hid
          exact ⟨a, by omega, c⟩
end
end Go.K
