/- Loops over functions, rounds, and how a function is left that has looped so. No condition. A region in whatever order: chains of edges. No condition. -/
import Derived.Test.YthnhbdidiglcgaaGreatDoorK1
set_option linter.unusedVariables false
set_option linter.unusedSimpArgs false
set_option linter.constructorNameAsVariable false
namespace Go.K
open Go.Ab Go.RowKit Go.Y
noncomputable section
section
variable {P : Program} {F : Fence} {n : Nat} {Q : Exit → Act → World → Prop} {a : Act} {w : World}

/-! ### Loops, scopes -/
theorem wpIn_ghost {c : Code} (I : Nat → Act → World → Prop) (n₀ : Nat) (h₀ : I n₀ a w) (round : ∀ k a w, I k a w → c.wpIn F n P (Exit.then (fun a' w' => ∃ k', k' < k ∧ I k' a' w') Q) a w) : (Code.loop c).wpIn F n P Q a w := by
  refine wpIn_loop (fun a w => ∃ k, I k a w) (fun a w => leastOf fun k => I k a w) ⟨n₀, h₀⟩ fun a w hI => wpIn_mono (round _ a w (leastOf_spec hI).1) ?_
  intro e a' w' hq
  cases e with
  | normal => obtain ⟨k', hlt, hI'⟩ := hq; exact ⟨⟨k', hI'⟩, Nat.lt_of_le_of_lt ((leastOf_spec ⟨k', hI'⟩).2 _ hI') hlt⟩
  | _ => exact hq
theorem wpIn_sc {c : Code} (h : c.wpIn F n P (Exit.noGoto Q) a w) : (Code.scope c).wpIn F n P Q a w := by
  intro b k cs hro hb hr
  have h0 : (lone (b.atR a (.code (.scope c) :: k)) cs w).fenced P F := fenced_calm hb hr rfl
  have hs : step P (lone (b.atR a (.code (.scope c) :: k)) cs w) = .next (lone (b.atR a (.code c :: .inScope c :: k)) cs w) := step_lone_go (by simp [stepG, stepG.exec, Frame.atR])
  obtain ⟨e, a₁, w₁, hq, harr⟩ := h b (.inScope c :: k) cs hro hb hr
  cases e with
  | normal =>
    have hs2 : step P (lone (b.atR a₁ (.inScope c :: k)) cs w₁) = .next (lone (b.atR a₁ k) cs w₁) := step_lone_go (by simp [stepG, stepG.exec, Frame.atR])
    exact ⟨.normal, a₁, w₁, hq, .head h0 hs (StepsIn.trans harr (.one (fenced_calm (fr := b.atR a₁ (.inScope c :: k)) hb hr rfl) hs2))⟩
  | exit id =>
    have hx : exitTo id (.inScope c :: k) = exitTo id k := by simp [exitTo]
    exact ⟨_, a₁, w₁, hq, fun k' hk => .head h0 hs (harr.1 k' (by rw [hx]; exact hk)), fun hr' hk => let ⟨k₁, h1, h2⟩ := harr.2 hr' (by rw [hx]; exact hk); ⟨k₁, h1, .head h0 hs h2⟩⟩
  | goto l => exact hq.elim
  | ret => exact ⟨_, a₁, w₁, hq, .of_steps (.one h0 hs) harr⟩
  | panic ch => exact ⟨_, a₁, w₁, hq, .of_steps (.one h0 hs) harr⟩
  | outgrown => exact ⟨_, a₁, w₁, hq, .of_steps (b := b) (k := k) (cs := cs) (e := .outgrown) (.one h0 hs) harr⟩

/-! ### Records -/
def setW (w : World) (l : Nat) (o : Obj) : World := { w with heap := w.heap.setIfInBounds l o }
theorem setW_same {l : Nat} {o : Obj} (h : l < w.heap.size) : (setW w l o).heap[l]? = some o := by simp [setW, h]
theorem setW_other {l k : Nat} {o : Obj} (h : k ≠ l) : (setW w l o).heap[k]? = w.heap[k]? := by simp [setW, Array.getElem?_setIfInBounds_ne (Ne.symm h)]
theorem setW_size {l : Nat} {o : Obj} : (setW w l o).heap.size = w.heap.size := by simp [setW]
theorem get_loop {l : Nat} {r : Loop} (h : w.heap[l]? = some (.loop r)) : (Instr.getLoop l).run P w = .ok r w := by
  have : (getObj l).run P w = .ok (.loop r) w := by simp [getObj, Sem.run, h]
  simp [Instr.getLoop, Sem.run_bind, this, Result.andThen]
theorem set_loop {l : Nat} {r : Loop} (o : Obj) (h : w.heap[l]? = some (.loop r)) : (setObj l o).run P w = .ok () (setW w l o) := by simp [setObj, Sem.run, h, setW]
theorem enter_outer (fn : FuncId) (tmps : Array Value) (ps : Array Tmp) (a b : Code) :
    (Instr.enterLoop fn tmps ps a b none).run P w = .ok (w.heap.size + 1, [{ target := .collected w.heap.size, args := #[] }]) ((w.alloc (.deferred (some []))).alloc (.loop ⟨.ready, none, fn, tmps, ps, a, b, w.heap.size⟩)) := by
  unfold Instr.enterLoop
  simp only [Sem.run_bind, run_newObj_alloc, Result.andThen, Sem.run_pure, World.size_alloc]
theorem enter_inner {l : Nat} {r : Loop} (h : w.heap[l]? = some (.loop r)) (fn : FuncId) (tmps : Array Value) (ps : Array Tmp) (a b : Code) :
    (Instr.enterLoop fn tmps ps a b (some l)).run P w = .ok (w.heap.size, []) (w.alloc (.loop ⟨.ready, none, fn, tmps, ps, a, b, r.defers⟩)) := by
  unfold Instr.enterLoop
  simp only [Sem.run_bind, get_loop h, run_newObj_alloc, Result.andThen, Sem.run_pure]
theorem yield_run {l : Nat} {r : Loop} {args : Array Value} (h : w.heap[l]? = some (.loop r)) (hs : args.size = r.params.size) :
    (Instr.yield l args).run P w = .ok (.round l r.fn ((r.params.zip args).foldl (fun tmps (t, a) => tmps.setIfInBounds t a) r.tmps) r.assign r.body) w := by
  simp [Instr.yield, Sem.run_bind, get_loop h, Result.andThen, hs]
theorem begin_run {l : Nat} {r : Loop} (h : w.heap[l]? = some (.loop r)) (hr : r.state = .ready) : (Instr.beginRound l).run P w = .ok () (setW w l (.loop { r with state := .busy })) := by
  simp [Instr.beginRound, Sem.run_bind, get_loop h, set_loop _ h, Result.andThen, hr]
theorem end_run {l : Nat} {r : Loop} (j : Option Code) (h : w.heap[l]? = some (.loop r)) :
    (Instr.endRound l j).run P w = .ok (.bool j.isNone) (setW w l (.loop { r with state := if j.isNone then .ready else .done, pending := j })) := by
  simp [Instr.endRound, Sem.run_bind, get_loop h, set_loop _ h, Result.andThen]
theorem fin_run {l : Nat} {r : Loop} (h : w.heap[l]? = some (.loop r)) (hb : r.state ≠ .busy) : (Instr.endLoop l).run P w = .ok r.pending (setW w l (.loop { r with state := .exhausted })) := by
  simp [Instr.endLoop, Sem.run_bind, get_loop h, set_loop _ h, Result.andThen, hb]
theorem take_run {D : Nat} (h : w.heap[D]? = some (.deferred (some []))) : (Instr.takeDeferred D).run P w = .ok [] (setW w D (.deferred none)) := by
  simp [Instr.takeDeferred, Sem.run_bind, getObj, setObj, Sem.run, h, Result.andThen, setW]

/-! ### One round -/
def jmp : Exit → Option (Option Code)
  | .normal => some none
  | .ret => some (some .ret)
  | .exit i => some (some (.exit i))
  | _ => none
theorem round_of {ro : Option Nat} {l : Nat} {f : FuncId} {tmps : Array Value} {x y : Code} {R : Ending → World → Prop}
    (h : x.wpIn (FR (some l)) 0 P (fun e a₁ w₁ => e = .normal ∧ ∃ w₂, (Instr.beginRound l).run P w₁ = .ok () w₂ ∧ y.wpIn (FR (some l)) 0 P (fun e a w => ∃ j v w', jmp e = some j ∧ (Instr.endRound l j).run P w = .ok v w' ∧ R (.returned v) w') a₁ w₂) { tmps := tmps, defers := [] } w) :
    RoundIn (FR ro) 0 P l f tmps x y w R := by
  refine ⟨trivial, fun c cs hr => ?_⟩
  let b : Frame := { (default : Frame) with fn := f, kind := .normal, roundOf := some l }
  have hb0 : Frame.round l f tmps x y .normal = b.atR { tmps := tmps, defers := [] } [.code x, .beginRound, .code y] := by simp [Frame.round, Frame.atR, b]
  have hr' : (FR (some l)).room ((c :: cs).length + 1 + 0) := fun d hd => by cases hd
  obtain ⟨e, a₁, w₁, hq, harr⟩ := h b [.beginRound, .code y] (c :: cs) rfl trivial hr'
  rw [← hb0] at harr
  obtain ⟨rfl, w₂, hbr, hbody⟩ := hq
  have s1 : StepsIn (Machine.fenced P (FR (some l))) P (lone (b.atR a₁ [.beginRound, .code y]) (c :: cs) w₁) (lone (b.atR a₁ [.code y]) (c :: cs) w₂) :=
    .one (fenced_calm (n := 0) (fr := b.atR a₁ [.beginRound, .code y]) trivial hr' rfl) (stepR_beginRound rfl hbr)
  obtain ⟨e₂, a₂, w₃, ⟨j, v, w₄, hj, hend, hR⟩, harr₂⟩ := hbody b [] (c :: cs) rfl trivial hr'
  refine ⟨.returned v, w₄, hR, ?_⟩
  show StepsIn (Machine.fenced P (FR (some l))) P (lone (Frame.round l f tmps x y .normal) (c :: cs) w) (lone (c.finish v) cs w₄)
  cases e₂ with
  | normal =>
    obtain rfl : none = j := Option.some.inj hj
    exact (StepsIn.trans harr s1).trans (StepsIn.trans harr₂ (.one (fenced_calm (n := 0) (fr := b.atR a₂ []) trivial hr' rfl) (stepR_round_end rfl rfl hend)))
  | ret =>
    obtain rfl : some .ret = j := Option.some.inj hj
    obtain ⟨k₁, hs⟩ := harr₂.2 rfl
    exact (StepsIn.trans harr s1).trans (StepsIn.trans hs (.one (fenced_calm (n := 0) (fr := b.atR a₂ (.code .ret :: k₁)) trivial hr' rfl) (stepR_round_ret rfl rfl hend)))
  | exit id =>
    obtain rfl : some (.exit id) = j := Option.some.inj hj
    obtain ⟨k₁, hk, hs⟩ := harr₂.2 rfl rfl
    exact (StepsIn.trans harr s1).trans (StepsIn.trans hs (.one (fenced_calm (n := 0) (fr := b.atR a₂ (.code (.exit id) :: k₁)) trivial hr' rfl) (stepR_round_exit rfl rfl hk hend)))
  | goto t => cases hj
  | panic chain => cases hj
  | outgrown => cases hj

/-! ### The loop -/
theorem range_of {ro : Option Nat} {g : Operand} {ps : Array Tmp} {x y : Code}
    (h : ∀ fn, ∃ l mark w₁ gf lb, (Instr.enterLoop fn a.tmps ps x y ro).run P w = .ok (l, mark) w₁ ∧ a.eval g = .func (.func gf) #[] lb ∧ (∀ args w, (callFunc gf args).run P w = .ok (.enter gf args) w) ∧
      Calls P gf (#[.func (.yield l) #[] #[]] ++ lb) w₁ fun e w₃ => ∃ v j w₄, e = .returned v ∧ (Instr.endLoop l).run P w₃ = .ok j w₄ ∧ match j with
        | none => Q .normal { a with defers := mark ++ a.defers } w₄
        | some c => c.wpIn (FR ro) 0 P Q { a with defers := mark ++ a.defers } w₄) :
    (Code.rangeFunc g ps x y).wpIn (FR ro) 0 P Q a w := by
  intro b k cs hro hb hr
  obtain ⟨l, mark, w₁, gf, lb, he, hg, hcf, hcall⟩ := h b.fn
  have hro' : b.roundOf = ro := hro
  rw [← hro'] at he
  have h0 : (lone (b.atR a (.code (.rangeFunc g ps x y) :: k)) cs w).fenced P (FR ro) := fenced_lone (.inl trivial) (fun _ _ => trivial) (fun d hd => by cases hd)
  have hres : (resolve a.eval ({ callee := .value g, args := #[.const (.func (.yield l) #[] #[])], argTypes := #[] } : Call) 0).run P w₁ = .ok { target := .fn (.func gf) lb, args := #[.func (.yield l) #[] #[]] } w₁ := by
    simp only [resolve, hg]
    simp [go_sem]
  have hinv : (invoke (.fn (.func gf) lb) #[.func (.yield l) #[] #[]]).run P w₁ = .ok (.enter gf (#[.func (.yield l) #[] #[]] ++ lb)) w₁ := by simp [invoke, go_sem, hcf]
  have henter : step P (lone (b.atR a (.code (.rangeFunc g ps x y) :: k)) cs w) = .next (lone (Frame.enter P gf (#[.func (.yield l) #[] #[]] ++ lb) .normal) (b.atR { a with defers := mark ++ a.defers } (.inRangeFunc l :: k) :: cs) w₁) :=
    step_lone_go (by
      have hev := Frame.eval_atR b { a with defers := mark ++ a.defers } (.inRangeFunc l :: k)
      simp only [Frame.atR] at hev
      have hres' : Sem.run P (resolve ({ tmps := a.tmps, defers := mark ++ a.defers } : Act).eval { callee := .value g, args := #[.const (.func (.yield l) #[] #[])], argTypes := #[] } 0) w₁ = .ok { target := .fn (.func gf) lb, args := #[.func (.yield l) #[] #[]] } w₁ := hres
      simp [stepG, stepG.exec, Frame.atR, Sem.runT_eq, he, GStep.bare_after, stepG.apply, hev, Sem.run_bind, hres', hinv, Result.andThen])
  obtain ⟨e, w₃, fr, ⟨v, j, w₄, rfl, hend, hj⟩, hsteps, hfn, hleave⟩ := hcall (b.atR { a with defers := mark ++ a.defers } (.inRangeFunc l :: k) :: cs)
  have hS : StepsIn (Machine.fenced P (FR ro)) P (lone (Frame.enter P gf (#[.func (.yield l) #[] #[]] ++ lb) .normal) (b.atR { a with defers := mark ++ a.defers } (.inRangeFunc l :: k) :: cs) w₁) (lone fr (b.atR { a with defers := mark ++ a.defers } (.inRangeFunc l :: k) :: cs) w₃) :=
    show StepsIn (Machine.fenced P Fence.wide) P _ _ from stepsIn_wide.2 hsteps
  have hl : (lone fr (b.atR { a with defers := mark ++ a.defers } (.inRangeFunc l :: k) :: cs) w₃).fenced P (FR ro) := fenced_wide P _
  have hfi : (b.atR { a with defers := mark ++ a.defers } (.inRangeFunc l :: k)).finish v = b.atR { a with defers := mark ++ a.defers } (.endRangeFunc l :: k) := by simp [Frame.finish, Frame.atR]
  have s2 : step P (lone (b.atR { a with defers := mark ++ a.defers } (.endRangeFunc l :: k)) cs w₃) = .next (lone (b.atR { a with defers := mark ++ a.defers } ((j.map Item.code).toList ++ k)) cs w₄) :=
    step_lone_go (by simp [stepG, stepG.exec, Frame.atR, Sem.runT_eq, hend, GStep.bare_after])
  have sback : StepsIn (Machine.fenced P (FR ro)) P (lone (b.atR a (.code (.rangeFunc g ps x y) :: k)) cs w) (lone (b.atR { a with defers := mark ++ a.defers } ((j.map Item.code).toList ++ k)) cs w₄) := by
    refine .head h0 henter (StepsIn.trans hS (.head hl ?_ (.one (fenced_wide P _) s2)))
    rw [← hfi]; exact step_leave_returned hleave
  cases j with
  | none => exact ⟨.normal, _, w₄, hj, sback⟩
  | some c =>
    obtain ⟨e', a'', w₅, hq, harr⟩ := hj b k cs hro hb hr
    exact ⟨e', a'', w₅, hq, .of_steps sback harr⟩

/-! ### Leaving -/
def Leaves (P : Program) (fn : Func) (tmps : Array Value) (R : Ending → World → Prop) : List Deferred → World → Prop
  | [], w => ∃ v, (results fn tmps).run P w = .ok v w ∧ R (.returned v) w
  | d :: ds, w => ∃ D, d = ⟨.collected D, #[]⟩ ∧ w.heap[D]? = some (.deferred (some [])) ∧ Leaves P fn tmps R ds (setW w D (.deferred none))
theorem leaves_go {fn : Func} {tmps : Array Value} {R : Ending → World → Prop} {cs : List Frame} : ∀ (ds : List Deferred) (w : World) (fr : Frame), fr.mode = .returning → fr.defers = ds → fr.tmps = tmps → P.funcs[fr.fn]? = some fn → fr.kind = .normal → Leaves P fn tmps R ds w →
    ∃ v w' fr', R (.returned v) w' ∧ Steps P (lone fr cs w) (lone fr' cs w') ∧ fr'.fn = fr.fn ∧ fr'.leaving P w' (.returned v)
  | [], w, fr, hm, hd, ht, hf, hk, h => by
    obtain ⟨v, h1, h2⟩ := h
    exact ⟨v, w, fr, h2, .refl P _, rfl, hm, hd, hk, fn, hf, by rw [ht]; exact h1⟩
  | d :: ds, w, fr, hm, hd, ht, hf, hk, h => by
    obtain ⟨D, rfl, h1, h2⟩ := h
    have hs : step P (lone fr cs w) = .next (lone { fr with defers := ds } cs (setW w D (.deferred none))) :=
      step_lone_go (by simp [stepG, unwind, hm, hd, Sem.runT_eq, take_run h1, GStep.bare_after])
    obtain ⟨v, w', fr', q1, q2, q3, q4⟩ := leaves_go ds _ { fr with defers := ds } hm rfl ht hf hk h2
    exact ⟨v, w', fr', q1, .head hs q2, q3, q4⟩
theorem calls_leaving {f : FuncId} {fn : Func} {c : Code} {args : Array Value} {R : Ending → World → Prop} (hf : P.funcs[f]? = some fn) (hb : fn.body = some c)
    (h : c.wpIn (FR none) 0 P (fun e a w => (e = .normal ∨ e = .ret) ∧ Leaves P fn a.tmps R a.defers w) { tmps := args ++ Array.replicate (fn.ntmps - args.size) undef, defers := [] } w) : Calls P f args w R := by
  intro cs
  let b : Frame := { (default : Frame) with fn := f, kind := .normal, roundOf := none }
  have henter : Frame.enter P f args .normal = b.atR { tmps := args ++ Array.replicate (fn.ntmps - args.size) undef, defers := [] } [.code c] := by simp [Frame.enter, Frame.atR, hf, hb, b]
  obtain ⟨e, a', w', ⟨he, hq⟩, harr⟩ := h b [] cs rfl trivial (fun d hd => by cases hd)
  rw [← henter] at harr
  rcases he with rfl | rfl
  · obtain ⟨v, w2, fr', q1, q2, q3, q4⟩ := leaves_go (cs := cs) a'.defers w' { b.atR a' [] with mode := .returning } rfl rfl rfl hf rfl hq
    exact ⟨.returned v, w2, fr', q1, (StepsIn.steps harr).trans (.head (stepR_end rfl) q2), q3, q4⟩
  · obtain ⟨todo, hs⟩ := harr.1 rfl
    obtain ⟨v, w2, fr', q1, q2, q3, q4⟩ := leaves_go (cs := cs) a'.defers w' { b.atR a' todo with mode := .returning } rfl rfl rfl hf rfl hq
    exact ⟨.returned v, w2, fr', q1, (StepsIn.steps hs).trans q2, q3, q4⟩
end
end
end Go.K
set_option linter.unusedVariables false
set_option linter.unusedSimpArgs false
namespace Go.Ab
open Go.RowKit Go.Y
variable [Gl]
/-- Ordered by edges, one after the other. -/
def reach (ops : Array Oper) : Nat → Oper → Nat → Bool
  | 0, o, k => edgeO o k
  | f + 1, o, k => edgeO o k || o.after.any fun e => Region.binds .any e && (match ops[e.on]? with | some o' => reach ops f o' k | none => false)
def edT (ops : Array Oper) (te : TE) (k : Nat) : Bool := reach ops 6 te.o k
omit [Gl] in
theorem edge_edT {ops : Array Oper} {te : TE} {k : Nat} (h : edge te k = true) : edT ops te k = true := by
  unfold edT reach
  rw [show edgeO te.o k = true from h]; rfl
omit [Gl] in
theorem apart_mono {K X : Type} {wr : TE → K → Option X} {uses : TE → K → Prop} {ed ed' : TE → Nat → Bool} (h : ∀ te k, ed te k = true → ed' te k = true) : ∀ {tr : List TE}, Apart wr uses ed tr → Apart wr uses ed' tr
  | [], _ => trivial
  | te :: r, ha => ⟨apart_mono h ha.1, fun l te' r' e hk => h _ _ (ha.2 l te' r' e hk)⟩
omit [Gl] in
theorem reach_inv {ops : Array Oper} {f : Nat} {o : Oper} {k : Nat} (h : reach ops f o k = true) : edgeO o k = true ∨ ∃ (j f' : Nat) (o' : Oper), edgeO o j = true ∧ ops[j]? = some o' ∧ reach ops f' o' k = true ∧ f' < f := by
  cases f with
  | zero => exact .inl h
  | succ f =>
    unfold reach at h
    rw [Bool.or_eq_true] at h
    rcases h with h | h
    · exact .inl h
    · right
      obtain ⟨e, he, hb⟩ := Array.any_eq_true'.1 h
      rw [Bool.and_eq_true] at hb
      obtain ⟨h1, h2⟩ := hb
      split at h2
      · rename_i o' ho
        refine ⟨e.on, f, o', ?_, ho, h2, by omega⟩
        unfold edgeO
        exact Array.any_eq_true'.2 ⟨e, he, by simp [h1]⟩
      · cases h2
theorem reach_closed {P : Program} {B : Nat} {G : Nat → V} {ops : Array Oper} {N : Nat} {tm0 : Nat → V} {m0 : Mem} {n0 : Nat} {tr : List TE} {S : Nat → Bool} (hv : Valid P B G ops N tm0 m0 n0 tr) (hlen : tr.length = ops.size)
    (hback : ∀ l te r, tr = l ++ te :: r → ∀ k, edge te k = true → k < r.length) (hc : Closed S edge tr) : ∀ (f j k : Nat) (o : Oper), ops[j]? = some o → S j = true → reach ops f o k = true → S k = true := by
  intro f
  induction f using Nat.strongRecOn with
  | _ f ih =>
  intro j k o ho hj hk
  have hlt : j < ops.size := (Array.getElem?_eq_some_iff.1 ho).1
  obtain ⟨l, te, r, e, hr⟩ := cut_at tr j (by omega)
  have hop := (Valid.app (l := l) (r := te :: r) (by rw [← e]; exact hv)).2.1
  rw [hr, ho] at hop
  have hte : o = te.o := Option.some.inj hop
  have dir : ∀ k, edgeO o k = true → S k = true := fun k hk => by
    have hk' : edge te k = true := by rw [hte] at hk; exact hk
    exact hc l te r e (by rw [hr]; exact hj) k (hback l te r e k hk') hk'
  rcases reach_inv hk with h1 | ⟨j', f', o', h1, h2, h3, h4⟩
  · exact dir k h1
  · exact ih f' h4 j' k o' h2 (dir j' h1) h3
omit [Gl] in
theorem reach_deps {ops : Array Oper} {te : TE} {S : Nat → Bool} (hcl : ∀ (f j k : Nat) (o : Oper), ops[j]? = some o → S j = true → reach ops f o k = true → S k = true) (hd : ∀ k, edge te k = true → S k = true) {k : Nat} (hk : edT ops te k = true) : S k = true := by
  rcases reach_inv hk with h1 | ⟨j', f', o', h1, h2, h3, h4⟩
  · exact hd k h1
  · exact hcl f' j' k o' h2 (hd j' h1) h3
/-- In whatever order. -/
theorem any_regionT {ro : Option Nat} {P : Program} {B : Nat} {C0 : Ctx} {G : Nat → V} {ops : Array Oper} {N : Nat} {tm0 : Nat → V} {m0 : Mem} {n0 : Nat} {tr : List TE} {Q : Exit → Act → World → Prop}
    (hv : Valid P B G ops N tm0 m0 n0 tr) (hlen : tr.length = ops.size) (hT : Apart wrT (useT ops) edge tr) (hM : Apart wrM useM (edT ops) tr) (hback : ∀ l te r, tr = l ++ te :: r → ∀ k, edge te k = true → k < r.length)
    (hal0 : ∀ id, n0 ≤ id → id < nextId n0 tr → ¬ C0.al id) (hG : ∀ g C, Keep C0 C → R C (G g) (.val (.pointer (some ⟨g, 0, none⟩)))) (D : List Deferred)
    (hQ : ∀ a C, a.defers = D → PS B C0 N tm0 m0 tr (fun _ => true) a C → Q .normal a C.w) :
    ∀ (f : Nat) (listed : Array Bool) (a : Act) (C : Ctx), listed.size = ops.size → (List.range ops.size).countP (fun i => !listed.getD i false) ≤ f → Closed (fun i => listed.getD i false) edge tr → a.defers = D →
      PS B C0 N tm0 m0 tr (fun i => listed.getD i false) a C → wpAnyIn (FR ro) 0 P .any ops Q f listed a C.w := by
  have edge_of : ∀ {l r : List TE} {te : TE}, tr = l ++ te :: r → ∀ {o : Oper}, ops[r.length]? = some o → o = te.o := by
    intro l r te e o ho
    have := (Valid.app (l := l) (r := te :: r) (by rw [← e]; exact hv)).2.1
    rw [this] at ho; exact (Option.some.inj ho).symm
  -- whoever is not listed, the first of them may come up
  have first : ∀ (listed : Array Bool), listed.size = ops.size → ∀ i, i < ops.size → listed.getD i false = false → Region.ready .any ops listed ≠ [] := by
    intro listed hz i
    induction i using Nat.strongRecOn with
    | _ i ih =>
      intro hi hun
      by_cases hall : ∀ k, k < i → listed.getD k false = true
      · obtain ⟨l, te, r, e, hr⟩ := cut_at tr i (by omega)
        have hop := (Valid.app (l := l) (r := te :: r) (by rw [← e]; exact hv)).2.1
        rw [hr] at hop
        have : i ∈ Region.ready .any ops listed := by
          refine mem_ready.2 ⟨?_, te.o, hop, fun x hx hb => ?_⟩
          · simp [hz, hi] at hun ⊢; exact hun
          · have h1 : edge te x.on = true := by
              unfold edge
              exact Array.any_eq_true'.2 ⟨x, hx, by simp [hb]⟩
            exact hall _ (by have := hback l te r e _ h1; omega)
        intro h0; rw [h0] at this; cases this
      · have ⟨k, hk⟩ : ∃ k, k < i ∧ listed.getD k false = false := by
          apply Classical.byContradiction
          intro hno
          refine hall fun k hk => ?_
          cases hkl : listed.getD k false with
          | true => rfl
          | false => exact absurd ⟨k, hk, hkl⟩ hno
        exact ih k hk.1 (by omega) hk.2
  have fin : ∀ (listed : Array Bool) (a : Act) (C : Ctx), listed.size = ops.size → a.defers = D → PS B C0 N tm0 m0 tr (fun i => listed.getD i false) a C → Region.ready .any ops listed = [] → Q .normal a C.w := by
    intro listed a C hz hD h h0
    have hS : ∀ i, i < tr.length → listed.getD i false = true := by
      intro i hi
      cases hl : listed.getD i false with
      | true => rfl
      | false => exact absurd h0 (first listed hz i (by omega) hl)
    refine hQ a C hD ?_
    have e1 : look wrM m0 (fun i => listed.getD i false) tr = look wrM m0 (fun _ => true) tr := by funext k; exact look_every k tr hS
    have e2 : ∀ t, look wrT tm0 (fun i => listed.getD i false) tr t = look wrT tm0 (fun _ => true) tr t := fun t => look_every t tr hS
    refine ⟨h.kp, by rw [← e1]; exact h.sr, fun t => by rw [← e2]; exact h.tm t, fun id hid => ?_, h.size⟩
    rcases h.al id hid with h1 | ⟨l, te, r, e, _, h2⟩
    · exact .inl h1
    · exact .inr ⟨l, te, r, e, rfl, h2⟩
  intro f
  induction f with
  | zero =>
    intro listed a C hz hcnt hc hD h
    have h0 : Region.ready .any ops listed = [] := by
      apply Classical.byContradiction
      intro hne
      obtain ⟨i, hi⟩ := List.exists_mem_of_ne_nil _ hne
      obtain ⟨hun, o, ho, _⟩ := mem_ready.1 hi
      have hlt : i < ops.size := (Array.getElem?_eq_some_iff.1 ho).1
      have hun' : listed.getD i false = false := by simp [hz, hlt] at hun ⊢; exact hun
      have : 0 < (List.range ops.size).countP (fun i => !listed.getD i false) := List.countP_pos_iff.2 ⟨i, List.mem_range.2 hlt, by rw [hun']; rfl⟩
      omega
    exact ⟨h0, fin listed a C hz hD h h0⟩
  | succ f ih =>
    intro listed a C hz hcnt hc hD h
    refine ⟨fin listed a C hz hD h, fun i hi => ?_⟩
    obtain ⟨hun, o, ho, hall⟩ := mem_ready.1 hi
    have hlt : i < ops.size := (Array.getElem?_eq_some_iff.1 ho).1
    have hun' : listed.getD i false = false := by simp [hz, hlt] at hun ⊢; exact hun
    obtain ⟨l, te, r, e, hr⟩ := cut_at tr i (by omega)
    subst hr
    have hte := edge_of e ho
    subst hte
    have hS : ∀ j, (listed.setIfInBounds r.length true).getD j false = (listed.getD j false || j == r.length) := by
      intro j
      by_cases hj : r.length = j
      · subst hj; simp [hz, hlt]
      · rw [getD_set_ne false hj]
        have : (j == r.length) = false := by simp; omega
        rw [this, Bool.or_false]
    have hdeps : ∀ k, k < r.length → edge te k = true → listed.getD k false = true := by
      intro k _ hk
      unfold edge at hk
      obtain ⟨x, hx, hb⟩ := Array.any_eq_true'.1 hk
      simp only [Bool.and_eq_true, beq_iff_eq] at hb
      rw [← hb.2]; exact hall x hx hb.1
    have hclT : ∀ (f j k : Nat) (o : Oper), ops[j]? = some o → listed.getD j false = true → reach ops f o k = true → listed.getD k false = true := fun f j k o ho hj hk => reach_closed (S := fun i => listed.getD i false) hv hlen hback hc f j k o ho hj hk
    have hdT : ∀ k, k < r.length → edT ops te k = true → listed.getD k false = true := fun k _ hk => reach_deps (S := fun i => listed.getD i false) hclT (fun k hk => hdeps k (hback l te r e k hk) hk) hk
    have hcT : Closed (fun i => listed.getD i false) (edT ops) tr := fun l' te' r' e' hs k _ hk => hclT 6 r'.length k te'.o (Valid.app (l := l') (r := te' :: r') (by rw [← e']; exact hv)).2.1 hs hk
    refine PS.step (S := fun i => listed.getD i false) e hv (apart_mono (fun te k h => edge_edT h) hT) hM hal0 hG hcT hun' hdT h ?_
    intro v C' hd' h'
    have hS' : (fun j => (listed.setIfInBounds r.length true).getD j false) = fun j => listed.getD j false || j == r.length := funext hS
    refine ih _ _ C' (by simp [hz]) ?_ ?_ (by rw [← hd']; exact hD) (by rw [hS']; exact h')
    · have := countP_lt (p := fun i => !listed.getD i false) (q := fun i => !(listed.setIfInBounds r.length true).getD i false) (List.range ops.size) (x := r.length) (fun y _ hy => by
        simp only [hS, Bool.not_or, Bool.and_eq_true] at hy; exact hy.1) (List.mem_range.2 hlt) (by rw [hun']; rfl) (by simp only [hS]; simp)
      omega
    · intro l' te' r' e' hs k hk hek
      simp only [hS, Bool.or_eq_true, beq_iff_eq] at hs ⊢
      rcases hs with hs | hs
      · exact .inl (hc l' te' r' e' hs k hk hek)
      · left
        have : te' = te := by
          have h1 := (Valid.app (l := l') (r := te' :: r') (by rw [← e']; exact hv)).2.1
          have h2 : l ++ te :: r = l' ++ te' :: r' := by rw [← e, ← e']
          have h3 := List.append_inj' h2 (by simp [hs])
          simp only [List.cons.injEq] at h3
          exact h3.2.1.symm
        subst this
        exact hdeps k (by omega) hek

/-! ### A last one that waits for all others -/
theorem reach_closedL {P : Program} {B : Nat} {G : Nat → V} {ops : Array Oper} {N : Nat} {tm0 : Nat → V} {m0 : Mem} {n0 : Nat} {tr : List TE} {S : Nat → Bool} (hv : Valid P B G ops N tm0 m0 n0 tr)
    (hback : ∀ l te r, tr = l ++ te :: r → ∀ k, edge te k = true → k < r.length) (hc : Closed S edge tr) : ∀ (f j k : Nat) (o : Oper), j < tr.length → ops[j]? = some o → S j = true → reach ops f o k = true → S k = true := by
  intro f
  induction f using Nat.strongRecOn with
  | _ f ih =>
  intro j k o hlt ho hj hk
  obtain ⟨l, te, r, e, hr⟩ := cut_at tr j hlt
  have hop := (Valid.app (l := l) (r := te :: r) (by rw [← e]; exact hv)).2.1
  rw [hr, ho] at hop
  have hte : o = te.o := Option.some.inj hop
  have dir : ∀ k, edgeO o k = true → k < r.length ∧ S k = true := fun k hk => by
    have hk' : edge te k = true := by rw [hte] at hk; exact hk
    exact ⟨hback l te r e k hk', hc l te r e (by rw [hr]; exact hj) k (hback l te r e k hk') hk'⟩
  rcases reach_inv hk with h1 | ⟨j', f', o', h1, h2, h3, h4⟩
  · exact (dir k h1).2
  · exact ih f' h4 j' k o' (by have := (dir j' h1).1; omega) h2 (dir j' h1).2 h3
theorem any_regionL {ro : Option Nat} {P : Program} {B : Nat} {C0 : Ctx} {G : Nat → V} {ops : Array Oper} {N : Nat} {tm0 : Nat → V} {m0 : Mem} {n0 : Nat} {tr : List TE} {Q : Exit → Act → World → Prop} {ol : Oper}
    (hv : Valid P B G ops N tm0 m0 n0 tr) (hlen : tr.length + 1 = ops.size) (hol : ops[tr.length]? = some ol) (hlast : ∀ k, k < tr.length → reach ops 6 ol k = true) (hbl : ∀ k, edgeO ol k = true → k < tr.length)
    (hT : Apart wrT (useT ops) edge tr) (hM : Apart wrM useM (edT ops) tr) (hback : ∀ l te r, tr = l ++ te :: r → ∀ k, edge te k = true → k < r.length)
    (hal0 : ∀ id, n0 ≤ id → id < nextId n0 tr → ¬ C0.al id) (hG : ∀ g C, Keep C0 C → R C (G g) (.val (.pointer (some ⟨g, 0, none⟩)))) (D : List Deferred)
    (hQ : ∀ a C, a.defers = D → PS B C0 N tm0 m0 tr (fun _ => true) a C → ∀ R : Act → World → Prop, (∀ a w, Q .normal a w → R a w) → wpOpIn (FR ro) 0 P ops Q tr.length R a C.w) :
    ∀ (f : Nat) (listed : Array Bool) (a : Act) (C : Ctx), listed.size = ops.size → listed.getD tr.length false = false → (List.range ops.size).countP (fun i => !listed.getD i false) ≤ f → Closed (fun i => listed.getD i false) edge tr → a.defers = D →
      PS B C0 N tm0 m0 tr (fun i => listed.getD i false) a C → wpAnyIn (FR ro) 0 P .any ops Q f listed a C.w := by
  have edge_of : ∀ {l r : List TE} {te : TE}, tr = l ++ te :: r → ∀ {o : Oper}, ops[r.length]? = some o → o = te.o := by
    intro l r te e o ho
    have := (Valid.app (l := l) (r := te :: r) (by rw [← e]; exact hv)).2.1
    rw [this] at ho; exact (Option.some.inj ho).symm
  have first : ∀ (listed : Array Bool), listed.size = ops.size → ∀ i, i ≤ tr.length → listed.getD i false = false → Region.ready .any ops listed ≠ [] := by
    intro listed hz i
    induction i using Nat.strongRecOn with
    | _ i ih =>
      intro hi hun
      by_cases hall : ∀ k, k < i → listed.getD k false = true
      · have hun' : ∀ (h : i < ops.size), i ∈ Region.ready .any ops listed ↔ (∃ o, ops[i]? = some o ∧ ∀ x ∈ o.after, Region.binds .any x = true → listed.getD x.on false = true) := fun h => by
          constructor
          · intro h1
            obtain ⟨_, o, ho, h2⟩ := mem_ready.1 h1
            exact ⟨o, ho, h2⟩
          · rintro ⟨o, ho, h2⟩
            refine mem_ready.2 ⟨?_, o, ho, h2⟩
            simp [hz, h] at hun ⊢; exact hun
        have hm : i ∈ Region.ready .any ops listed := by
          refine (hun' (by omega)).2 ?_
          rcases Nat.lt_or_ge i tr.length with hlt | hge
          · obtain ⟨l, te, r, e, hr⟩ := cut_at tr i hlt
            have hop := (Valid.app (l := l) (r := te :: r) (by rw [← e]; exact hv)).2.1
            rw [hr] at hop
            refine ⟨te.o, hop, fun x hx hb => ?_⟩
            have h1 : edge te x.on = true := by
              unfold edge
              exact Array.any_eq_true'.2 ⟨x, hx, by simp [hb]⟩
            exact hall _ (by have := hback l te r e _ h1; omega)
          · obtain rfl : i = tr.length := by omega
            refine ⟨ol, hol, fun x hx hb => ?_⟩
            exact hall _ (hbl _ (by unfold edgeO; exact Array.any_eq_true'.2 ⟨x, hx, by simp [hb]⟩))
        intro h0; rw [h0] at hm; cases hm
      · have ⟨k, hk⟩ : ∃ k, k < i ∧ listed.getD k false = false := by
          apply Classical.byContradiction
          intro hno
          refine hall fun k hk => ?_
          cases hkl : listed.getD k false with
          | true => rfl
          | false => exact absurd ⟨k, hk, hkl⟩ hno
        exact ih k hk.1 (by omega) hk.2
  intro f
  induction f with
  | zero =>
    intro listed a C hz hunl hcnt hc hD h
    exfalso
    have : 0 < (List.range ops.size).countP (fun i => !listed.getD i false) := List.countP_pos_iff.2 ⟨tr.length, List.mem_range.2 (by omega), by rw [hunl]; rfl⟩
    omega
  | succ f ih =>
    intro listed a C hz hunl hcnt hc hD h
    refine ⟨fun h0 => absurd h0 (first listed hz tr.length (Nat.le_refl _) hunl), fun i hi => ?_⟩
    obtain ⟨hun, o, ho, hall⟩ := mem_ready.1 hi
    have hlt : i < ops.size := (Array.getElem?_eq_some_iff.1 ho).1
    have hun' : listed.getD i false = false := by simp [hz, hlt] at hun ⊢; exact hun
    rcases Nat.lt_or_ge i tr.length with hilt | hige
    · obtain ⟨l, te, r, e, hr⟩ := cut_at tr i hilt
      subst hr
      have hte := edge_of e ho
      subst hte
      have hS : ∀ j, (listed.setIfInBounds r.length true).getD j false = (listed.getD j false || j == r.length) := by
        intro j
        by_cases hj : r.length = j
        · subst hj; simp [hz, hlt]
        · rw [getD_set_ne false hj]
          have : (j == r.length) = false := by simp; omega
          rw [this, Bool.or_false]
      have hdeps : ∀ k, k < r.length → edge te k = true → listed.getD k false = true := by
        intro k _ hk
        unfold edge at hk
        obtain ⟨x, hx, hb⟩ := Array.any_eq_true'.1 hk
        simp only [Bool.and_eq_true, beq_iff_eq] at hb
        rw [← hb.2]; exact hall x hx hb.1
      have hclT : ∀ (f j k : Nat) (o : Oper), j < tr.length → ops[j]? = some o → listed.getD j false = true → reach ops f o k = true → listed.getD k false = true := fun f j k o hj0 ho hj hk => reach_closedL (S := fun i => listed.getD i false) hv hback hc f j k o hj0 ho hj hk
      have hdT : ∀ k, k < r.length → edT ops te k = true → listed.getD k false = true := fun k _ hk => by
        rcases reach_inv hk with h1 | ⟨j', f', o', h1, h2, h3, h4⟩
        · exact hdeps k (hback l te r e k h1) h1
        · have hj' := hback l te r e j' h1
          exact hclT f' j' k o' (by omega) h2 (hdeps j' hj' h1) h3
      have hcT : Closed (fun i => listed.getD i false) (edT ops) tr := fun l' te' r' e' hs k _ hk => hclT 6 r'.length k te'.o (by rw [e']; simp; omega) (Valid.app (l := l') (r := te' :: r') (by rw [← e']; exact hv)).2.1 hs hk
      refine PS.step (S := fun i => listed.getD i false) e hv (apart_mono (fun te k h => edge_edT h) hT) hM hal0 hG hcT hun' hdT h ?_
      intro v C' hd' h'
      have hS' : (fun j => (listed.setIfInBounds r.length true).getD j false) = fun j => listed.getD j false || j == r.length := funext hS
      refine ih _ _ C' (by simp [hz]) (by rw [hS, hunl]; simp; omega) ?_ ?_ (by rw [← hd']; exact hD) (by rw [hS']; exact h')
      · have := countP_lt (p := fun i => !listed.getD i false) (q := fun i => !(listed.setIfInBounds r.length true).getD i false) (List.range ops.size) (x := r.length) (fun y _ hy => by
          simp only [hS, Bool.not_or, Bool.and_eq_true] at hy; exact hy.1) (List.mem_range.2 hlt) (by rw [hun']; rfl) (by simp only [hS]; simp)
        omega
      · intro l' te' r' e' hs k hk hek
        simp only [hS, Bool.or_eq_true, beq_iff_eq] at hs ⊢
        rcases hs with hs | hs
        · exact .inl (hc l' te' r' e' hs k hk hek)
        · left
          have : te' = te := by
            have h2 : l ++ te :: r = l' ++ te' :: r' := by rw [← e, ← e']
            have h3 := List.append_inj' h2 (by simp [hs])
            simp only [List.cons.injEq] at h3
            exact h3.2.1.symm
          subst this
          exact hdeps k (by omega) hek
    · obtain rfl : i = tr.length := by omega
      have hoe : o = ol := by rw [hol] at ho; exact (Option.some.inj ho).symm
      subst hoe
      have hdir : ∀ k, edgeO o k = true → listed.getD k false = true := fun k hk => by
        unfold edgeO at hk
        obtain ⟨x, hx, hb⟩ := Array.any_eq_true'.1 hk
        simp only [Bool.and_eq_true, beq_iff_eq] at hb
        rw [← hb.2]; exact hall x hx hb.1
      have hS : ∀ i, i < tr.length → listed.getD i false = true := fun k hk => by
        rcases reach_inv (hlast k hk) with h1 | ⟨j', f', o', h1, h2, h3, h4⟩
        · exact hdir k h1
        · exact reach_closedL (S := fun i => listed.getD i false) hv hback hc f' j' k o' (hbl j' h1) h2 (hdir j' h1) h3
      have hps : PS B C0 N tm0 m0 tr (fun _ => true) a C := by
        have e1 : look wrM m0 (fun i => listed.getD i false) tr = look wrM m0 (fun _ => true) tr := by funext k; exact look_every k tr hS
        have e2 : ∀ t, look wrT tm0 (fun i => listed.getD i false) tr t = look wrT tm0 (fun _ => true) tr t := fun t => look_every t tr hS
        refine ⟨h.kp, by rw [← e1]; exact h.sr, fun t => by rw [← e2]; exact h.tm t, fun id hid => ?_, h.size⟩
        rcases h.al id hid with h1 | ⟨l, te, r, e, _, h2⟩
        · exact .inl h1
        · exact .inr ⟨l, te, r, e, rfl, h2⟩
      refine hQ a C hD hps _ fun a' w' hq => ?_
      have hnil : Region.ready .any ops (listed.setIfInBounds tr.length true) = [] := by
        apply Classical.byContradiction
        intro hne
        obtain ⟨j, hj⟩ := List.exists_mem_of_ne_nil _ hne
        obtain ⟨hu, o', ho', _⟩ := mem_ready.1 hj
        have hjl : j < ops.size := (Array.getElem?_eq_some_iff.1 ho').1
        by_cases hje : tr.length = j
        · subst hje; simp [hz, hjl] at hu
        · have h2 : (listed.setIfInBounds tr.length true).getD j false = true := by
            rw [getD_set_ne false hje]; exact hS j (by omega)
          simp [hz, hjl] at hu h2
          rw [h2] at hu; cases hu
      cases f with
      | zero => exact ⟨hnil, hq⟩
      | succ f => exact ⟨fun _ => hq, fun j hj => by rw [hnil] at hj; cases hj⟩
theorem any_regionLL {ro : Option Nat} {P : Program} {B : Nat} {C0 : Ctx} {G : Nat → V} {ops : Array Oper} {N : Nat} {tm0 : Nat → V} {m0 : Mem} {n0 : Nat} {tr : List TE} {Q : Exit → Act → World → Prop} {ol o2 : Oper}
    (hv : Valid P B G ops N tm0 m0 n0 tr) (hlen : tr.length + 2 = ops.size) (ho2 : ops[tr.length + 1]? = some o2) (h2e : edgeO o2 tr.length = true) (h2b : ∀ k, edgeO o2 k = true → k < tr.length + 1) (hol : ops[tr.length]? = some ol) (hlast : ∀ k, k < tr.length → reach ops 6 ol k = true) (hbl : ∀ k, edgeO ol k = true → k < tr.length)
    (hT : Apart wrT (useT ops) edge tr) (hM : Apart wrM useM (edT ops) tr) (hback : ∀ l te r, tr = l ++ te :: r → ∀ k, edge te k = true → k < r.length)
    (hal0 : ∀ id, n0 ≤ id → id < nextId n0 tr → ¬ C0.al id) (hG : ∀ g C, Keep C0 C → R C (G g) (.val (.pointer (some ⟨g, 0, none⟩)))) (D : List Deferred)
    (hQ : ∀ a C, a.defers = D → PS B C0 N tm0 m0 tr (fun _ => true) a C → ∀ R : Act → World → Prop, (∀ a w, (∀ R2 : Act → World → Prop, (∀ a w, Q .normal a w → R2 a w) → wpOpIn (FR ro) 0 P ops Q (tr.length + 1) R2 a w) → R a w) → wpOpIn (FR ro) 0 P ops Q tr.length R a C.w) :
    ∀ (f : Nat) (listed : Array Bool) (a : Act) (C : Ctx), listed.size = ops.size → listed.getD tr.length false = false → listed.getD (tr.length + 1) false = false → (List.range ops.size).countP (fun i => !listed.getD i false) ≤ f → Closed (fun i => listed.getD i false) edge tr → a.defers = D →
      PS B C0 N tm0 m0 tr (fun i => listed.getD i false) a C → wpAnyIn (FR ro) 0 P .any ops Q f listed a C.w := by
  have edge_of : ∀ {l r : List TE} {te : TE}, tr = l ++ te :: r → ∀ {o : Oper}, ops[r.length]? = some o → o = te.o := by
    intro l r te e o ho
    have := (Valid.app (l := l) (r := te :: r) (by rw [← e]; exact hv)).2.1
    rw [this] at ho; exact (Option.some.inj ho).symm
  have first : ∀ (listed : Array Bool), listed.size = ops.size → ∀ i, i ≤ tr.length → listed.getD i false = false → Region.ready .any ops listed ≠ [] := by
    intro listed hz i
    induction i using Nat.strongRecOn with
    | _ i ih =>
      intro hi hun
      by_cases hall : ∀ k, k < i → listed.getD k false = true
      · have hun' : ∀ (h : i < ops.size), i ∈ Region.ready .any ops listed ↔ (∃ o, ops[i]? = some o ∧ ∀ x ∈ o.after, Region.binds .any x = true → listed.getD x.on false = true) := fun h => by
          constructor
          · intro h1
            obtain ⟨_, o, ho, h2⟩ := mem_ready.1 h1
            exact ⟨o, ho, h2⟩
          · rintro ⟨o, ho, h2⟩
            refine mem_ready.2 ⟨?_, o, ho, h2⟩
            simp [hz, h] at hun ⊢; exact hun
        have hm : i ∈ Region.ready .any ops listed := by
          refine (hun' (by omega)).2 ?_
          rcases Nat.lt_or_ge i tr.length with hlt | hge
          · obtain ⟨l, te, r, e, hr⟩ := cut_at tr i hlt
            have hop := (Valid.app (l := l) (r := te :: r) (by rw [← e]; exact hv)).2.1
            rw [hr] at hop
            refine ⟨te.o, hop, fun x hx hb => ?_⟩
            have h1 : edge te x.on = true := by
              unfold edge
              exact Array.any_eq_true'.2 ⟨x, hx, by simp [hb]⟩
            exact hall _ (by have := hback l te r e _ h1; omega)
          · obtain rfl : i = tr.length := by omega
            refine ⟨ol, hol, fun x hx hb => ?_⟩
            exact hall _ (hbl _ (by unfold edgeO; exact Array.any_eq_true'.2 ⟨x, hx, by simp [hb]⟩))
        intro h0; rw [h0] at hm; cases hm
      · have ⟨k, hk⟩ : ∃ k, k < i ∧ listed.getD k false = false := by
          apply Classical.byContradiction
          intro hno
          refine hall fun k hk => ?_
          cases hkl : listed.getD k false with
          | true => rfl
          | false => exact absurd ⟨k, hk, hkl⟩ hno
        exact ih k hk.1 (by omega) hk.2
  intro f
  induction f with
  | zero =>
    intro listed a C hz hunl hunl2 hcnt hc hD h
    exfalso
    have : 0 < (List.range ops.size).countP (fun i => !listed.getD i false) := List.countP_pos_iff.2 ⟨tr.length, List.mem_range.2 (by omega), by rw [hunl]; rfl⟩
    omega
  | succ f ih =>
    intro listed a C hz hunl hunl2 hcnt hc hD h
    refine ⟨fun h0 => absurd h0 (first listed hz tr.length (Nat.le_refl _) hunl), fun i hi => ?_⟩
    obtain ⟨hun, o, ho, hall⟩ := mem_ready.1 hi
    have hlt : i < ops.size := (Array.getElem?_eq_some_iff.1 ho).1
    have hun' : listed.getD i false = false := by simp [hz, hlt] at hun ⊢; exact hun
    rcases Nat.lt_or_ge i tr.length with hilt | hige
    · obtain ⟨l, te, r, e, hr⟩ := cut_at tr i hilt
      subst hr
      have hte := edge_of e ho
      subst hte
      have hS : ∀ j, (listed.setIfInBounds r.length true).getD j false = (listed.getD j false || j == r.length) := by
        intro j
        by_cases hj : r.length = j
        · subst hj; simp [hz, hlt]
        · rw [getD_set_ne false hj]
          have : (j == r.length) = false := by simp; omega
          rw [this, Bool.or_false]
      have hdeps : ∀ k, k < r.length → edge te k = true → listed.getD k false = true := by
        intro k _ hk
        unfold edge at hk
        obtain ⟨x, hx, hb⟩ := Array.any_eq_true'.1 hk
        simp only [Bool.and_eq_true, beq_iff_eq] at hb
        rw [← hb.2]; exact hall x hx hb.1
      have hclT : ∀ (f j k : Nat) (o : Oper), j < tr.length → ops[j]? = some o → listed.getD j false = true → reach ops f o k = true → listed.getD k false = true := fun f j k o hj0 ho hj hk => reach_closedL (S := fun i => listed.getD i false) hv hback hc f j k o hj0 ho hj hk
      have hdT : ∀ k, k < r.length → edT ops te k = true → listed.getD k false = true := fun k _ hk => by
        rcases reach_inv hk with h1 | ⟨j', f', o', h1, h2, h3, h4⟩
        · exact hdeps k (hback l te r e k h1) h1
        · have hj' := hback l te r e j' h1
          exact hclT f' j' k o' (by omega) h2 (hdeps j' hj' h1) h3
      have hcT : Closed (fun i => listed.getD i false) (edT ops) tr := fun l' te' r' e' hs k _ hk => hclT 6 r'.length k te'.o (by rw [e']; simp; omega) (Valid.app (l := l') (r := te' :: r') (by rw [← e']; exact hv)).2.1 hs hk
      refine PS.step (S := fun i => listed.getD i false) e hv (apart_mono (fun te k h => edge_edT h) hT) hM hal0 hG hcT hun' hdT h ?_
      intro v C' hd' h'
      have hS' : (fun j => (listed.setIfInBounds r.length true).getD j false) = fun j => listed.getD j false || j == r.length := funext hS
      refine ih _ _ C' (by simp [hz]) (by rw [hS, hunl]; simp; omega) (by rw [hS, hunl2]; simp; omega) ?_ ?_ (by rw [← hd']; exact hD) (by rw [hS']; exact h')
      · have := countP_lt (p := fun i => !listed.getD i false) (q := fun i => !(listed.setIfInBounds r.length true).getD i false) (List.range ops.size) (x := r.length) (fun y _ hy => by
          simp only [hS, Bool.not_or, Bool.and_eq_true] at hy; exact hy.1) (List.mem_range.2 hlt) (by rw [hun']; rfl) (by simp only [hS]; simp)
        omega
      · intro l' te' r' e' hs k hk hek
        simp only [hS, Bool.or_eq_true, beq_iff_eq] at hs ⊢
        rcases hs with hs | hs
        · exact .inl (hc l' te' r' e' hs k hk hek)
        · left
          have : te' = te := by
            have h2 : l ++ te :: r = l' ++ te' :: r' := by rw [← e, ← e']
            have h3 := List.append_inj' h2 (by simp [hs])
            simp only [List.cons.injEq] at h3
            exact h3.2.1.symm
          subst this
          exact hdeps k (by omega) hek
    · have hne2 : i ≠ tr.length + 1 := by
        rintro rfl
        rw [ho2] at ho
        cases ho
        unfold edgeO at h2e
        obtain ⟨x, hx, hb⟩ := Array.any_eq_true'.1 h2e
        simp only [Bool.and_eq_true, beq_iff_eq] at hb
        have := hall x hx hb.1
        rw [hb.2, hunl] at this
        cases this
      obtain rfl : i = tr.length := by omega
      have hoe : o = ol := by rw [hol] at ho; exact (Option.some.inj ho).symm
      subst hoe
      have hdir : ∀ k, edgeO o k = true → listed.getD k false = true := fun k hk => by
        unfold edgeO at hk
        obtain ⟨x, hx, hb⟩ := Array.any_eq_true'.1 hk
        simp only [Bool.and_eq_true, beq_iff_eq] at hb
        rw [← hb.2]; exact hall x hx hb.1
      have hS : ∀ i, i < tr.length → listed.getD i false = true := fun k hk => by
        rcases reach_inv (hlast k hk) with h1 | ⟨j', f', o', h1, h2, h3, h4⟩
        · exact hdir k h1
        · exact reach_closedL (S := fun i => listed.getD i false) hv hback hc f' j' k o' (hbl j' h1) h2 (hdir j' h1) h3
      have hps : PS B C0 N tm0 m0 tr (fun _ => true) a C := by
        have e1 : look wrM m0 (fun i => listed.getD i false) tr = look wrM m0 (fun _ => true) tr := by funext k; exact look_every k tr hS
        have e2 : ∀ t, look wrT tm0 (fun i => listed.getD i false) tr t = look wrT tm0 (fun _ => true) tr t := fun t => look_every t tr hS
        refine ⟨h.kp, by rw [← e1]; exact h.sr, fun t => by rw [← e2]; exact h.tm t, fun id hid => ?_, h.size⟩
        rcases h.al id hid with h1 | ⟨l, te, r, e, _, h2⟩
        · exact .inl h1
        · exact .inr ⟨l, te, r, e, rfl, h2⟩
      have hS' : ∀ j, (listed.setIfInBounds tr.length true).getD j false = (listed.getD j false || j == tr.length) := by
        intro j
        by_cases hj : tr.length = j
        · subst hj; simp [hz, hlt]
        · rw [getD_set_ne false hj]
          have : (j == tr.length) = false := by simp; omega
          rw [this, Bool.or_false]
      refine hQ a C hD hps _ fun a' w' hq => ?_
      have hc1 := countP_lt (p := fun i => !listed.getD i false) (q := fun i => !(listed.setIfInBounds tr.length true).getD i false) (List.range ops.size) (x := tr.length) (fun y _ hy => by
        simp only [hS', Bool.not_or, Bool.and_eq_true] at hy; exact hy.1) (List.mem_range.2 hlt) (by rw [hun']; rfl) (by simp only [hS']; simp)
      have hc2 : 0 < (List.range ops.size).countP (fun i => !(listed.setIfInBounds tr.length true).getD i false) := List.countP_pos_iff.2 ⟨tr.length + 1, List.mem_range.2 (by omega), by rw [hS', hunl2]; simp⟩
      obtain ⟨f, rfl⟩ : ∃ f', f = f' + 1 := ⟨f - 1, by omega⟩
      have hall2 : ∀ k, k < tr.length + 1 → (listed.setIfInBounds tr.length true).getD k false = true := fun k hk => by
        rw [hS']
        rcases Nat.lt_or_ge k tr.length with q | q
        · rw [hS k q]; rfl
        · have : k = tr.length := by omega
          simp [this]
      have hz2 : (listed.setIfInBounds tr.length true).size = ops.size := by simp [hz]
      have hun2 : (listed.setIfInBounds tr.length true).getD (tr.length + 1) false = false := by rw [hS', hunl2]; simp
      have hready : tr.length + 1 ∈ Region.ready .any ops (listed.setIfInBounds tr.length true) := by
        refine mem_ready.2 ⟨?_, o2, ho2, fun x hx hb => hall2 _ (h2b _ (by unfold edgeO; exact Array.any_eq_true'.2 ⟨x, hx, by simp [hb]⟩))⟩
        have hlt2 : tr.length + 1 < ops.size := by omega
        simp [hz, hlt2] at hun2 ⊢; exact hun2
      refine ⟨fun h0 => (by rw [h0] at hready; cases hready), fun j hj => ?_⟩
      obtain ⟨hu, o', ho', _⟩ := mem_ready.1 hj
      have hjl : j < ops.size := (Array.getElem?_eq_some_iff.1 ho').1
      have hj2 : j = tr.length + 1 := by
        apply Classical.byContradiction
        intro hne
        have h2 := hall2 j (by omega)
        simp [hz, hjl] at hu h2
        rw [h2] at hu; cases hu
      subst hj2
      refine hq _ fun a2 w2 hq2 => ?_
      have hnil : Region.ready .any ops ((listed.setIfInBounds tr.length true).setIfInBounds (tr.length + 1) true) = [] := by
        apply Classical.byContradiction
        intro hne
        obtain ⟨j, hj⟩ := List.exists_mem_of_ne_nil _ hne
        obtain ⟨hu, o', ho', _⟩ := mem_ready.1 hj
        have hjl : j < ops.size := (Array.getElem?_eq_some_iff.1 ho').1
        by_cases hje : tr.length + 1 = j
        · subst hje; simp [hz, hjl] at hu
        · have h2 : ((listed.setIfInBounds tr.length true).setIfInBounds (tr.length + 1) true).getD j false = true := by
            rw [getD_set_ne false hje]; exact hall2 j (by omega)
          simp [hz, hjl] at hu h2
          rw [h2] at hu; cases hu
      cases f with
      | zero => exact ⟨hnil, hq2⟩
      | succ f => exact ⟨fun _ => hq2, fun j hj => by rw [hnil] at hj; cases hj⟩
end Go.Ab
