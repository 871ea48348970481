/- The run is right: calls, regions in order. No condition. -/
import Derived.Test.YtkjoldifiniliaaY5
set_option linter.unusedVariables false
set_option linter.unusedSimpArgs false
set_option linter.constructorNameAsVariable false
namespace Go.Y
open Go.Ab Go.RowKit
noncomputable section
variable [Gl]

/-! ### What is to be shown -/
/-- What a call of a function does, whoever calls it, where the globals are as 'G' says: it hands back the tree; nothing that was there has changed. -/
def CSoundG (P : Program) (f : FuncId) (c : CSpec) : Prop :=
  (∃ fn, P.funcs[f]? = some fn ∧ (fn.name == "runtime.NumGoroutine") = false ∧ fn.body.isNone = false) ∧
  ∀ (C : Ctx) (args : List V) (vals : List Value), (∀ u b, C.ok u b → b < C.w.heap.size) → (∀ g, R C.pur (Gl.G g) (.val (.pointer (some ⟨g, 0, none⟩)))) → R C.pur (mkL args) (.list vals) → c.pre args →
    Calls P f vals.toArray C.w fun e w' => Below C.w.heap.size C.w w' ∧ ∃ r, e = .returned r ∧
      R { C.pur with w := w', ok := fun u b => (c.fresh = false ∧ ∃ u', C.ok u' b) ∨ (C.w.heap.size ≤ b ∧ b < w'.heap.size) } (c.res args) (.val r)
def CTG (P : Program) (ct : CTab) : Prop := ∀ f c, ct f = some c → CSoundG P f c

/-- All that is written lies in the frame. -/
def cOk (N : Nat) : Code → Bool
  | .region _ ops _ => ops.toList.all fun o => dOk N o.dst
  | .seq a b => cOk N a && cOk N b
  | .cond _ x y => cOk N x && cOk N y
  | .block _ c => cOk N c
  | .loop c => cOk N c
  | .scope c => cOk N c
  | _ => true
omit [Gl] in
theorem cOk_mono {N M : Nat} (h : N ≤ M) : ∀ {c : Code}, cOk N c = true → cOk M c = true := by
  have hd : ∀ d, dOk N d = true → dOk M d = true := by
    intro d hd
    cases d with
    | none => rfl
    | some d => simp only [dOk, decide_eq_true_eq] at hd ⊢; exact Nat.lt_of_lt_of_le hd h
  intro c
  induction c with
  | region id ops draw => intro hc; simp only [cOk, List.all_eq_true] at hc ⊢; exact fun o ho => hd _ (hc o ho)
  | seq a b ih1 ih2 => intro hc; simp only [cOk, Bool.and_eq_true] at hc ⊢; exact ⟨ih1 hc.1, ih2 hc.2⟩
  | cond t a b ih1 ih2 => intro hc; simp only [cOk, Bool.and_eq_true] at hc ⊢; exact ⟨ih1 hc.1, ih2 hc.2⟩
  | block id c ih => intro hc; exact ih hc
  | loop c ih => intro hc; exact ih hc
  | scope c ih => intro hc; exact ih hc
  | _ => intro _; rfl
/-- What is looked up of all functions. -/
def fnOk (f : Func) : Bool := !(f.name == "runtime.NumGoroutine") && (match f.body with | some c => cOk f.ntmps c | none => true)
def FnsOk (P : Program) : Prop := P.funcs.toList.all fnOk = true
omit [Gl] in
theorem FnsOk.get {P : Program} (h : FnsOk P) {f : Nat} {fn : Func} (hf : P.funcs[f]? = some fn) : (fn.name == "runtime.NumGoroutine") = false ∧ ∀ c, fn.body = some c → cOk fn.ntmps c = true := by
  have h2 := List.all_eq_true.1 h fn (by
    obtain ⟨hlt, he⟩ := Array.getElem?_eq_some_iff.1 hf
    rw [← he]
    exact Array.getElem_mem_toList hlt)
  simp only [fnOk, Bool.and_eq_true, Bool.not_eq_true'] at h2
  refine ⟨h2.1, fun c hc => ?_⟩
  have h3 := h2.2
  rw [hc] at h3
  exact h3
/-- What stands fast around a run. -/
structure Env (P : Program) (ct : CTab) : Prop where
  fns : FnsOk P
  ct : CTG P ct
  gn : ∀ g, noId (Gl.G g) = true
  gb : ∀ g, borrow (Gl.G g) = Gl.G g
  mixed : P.follows .mixedOrders = true

structure YF (B H : Nat) (C : Ctx) (M : Mem) (zm : Zm) (nx : Nat) (N : Nat) (tm' : Tm) (zm' : Zm) (nx' : Nat) (C' : Ctx) (M' : Mem) (a' : Act) : Prop where
  yr : YR B H C' M' zm' nx'
  yt : YT C' tm' a' N
  yc : YC B H C M zm nx C' M' zm' nx'
def YFin (B H : Nat) (C : Ctx) (M : Mem) (zm : Zm) (nx : Nat) (N : Nat) (e : Exit) (tm' : Tm) (zm' : Zm) (nx' : Nat) (e' : Exit) (a' : Act) (w' : World) : Prop :=
  e' = e ∧ ∃ C' M', C'.w = w' ∧ YF B H C M zm nx N tm' zm' nx' C' M' a'
def Runs (P : Program) (B : Nat) (c : Code) (tm : Tm) (zm : Zm) (nx : Nat) (N : Nat) (e : Exit) (tm' : Tm) (zm' : Zm) (nx' : Nat) : Prop :=
  ∀ (H : Nat) (C : Ctx) (M : Mem) (a : Act), nx' ≤ H → YR B H C M zm nx → YT C tm a N → c.wp P (YFin B H C M zm nx N e tm' zm' nx') a C.w
def RunOK (P : Program) (B : Nat) (r : RUN) : Prop :=
  ∀ (c : Code) (tm : Tm) (zm : Zm) (nx : Nat) (K : K3) (N : Nat), r c tm zm nx K → cOk N c = true → KB zm nx →
    ∃ e tm' zm' nx', K e tm' zm' nx' ∧ KB zm' nx' ∧ nx ≤ nx' ∧ Runs P B c tm zm nx N e tm' zm' nx'

/-- What a call hands on. -/
def YCall (P : Program) (B : Nat) (fid : FuncId) (l : List V) (zm : Zm) (nx : Nat) (v : V) (zm' : Zm) (nx' : Nat) : Prop :=
  ∀ (H : Nat) (C : Ctx) (M : Mem) (vals : List Value), nx' ≤ H → YR B H C M zm nx → R C (mkL l) (.list vals) →
    Calls P fid vals.toArray C.w fun e w' => ∃ val, e = .returned val ∧ ∃ C' M', C'.w = w' ∧ R C' v (.val val) ∧ YR B H C' M' zm' nx' ∧ YC B H C M zm nx C' M' zm' nx'

section
variable {P : Program} {ct : CTab} {B : Nat} {r : RUN}
omit [Gl] in
theorem someK_inv {v : Option V} {K : V → Prop} (h : someK v K) : ∃ x, v = some x ∧ K x := by
  cases v with
  | none => exact h.elim
  | some x => exact ⟨x, rfl, h⟩
/-- A call, step by step. -/
theorem callB_inv (hr : RunOK P B r) (hE : Env P ct) {fid : FuncId} {l : List V} {zm : Zm} {nx : Nat} {K : V → Zm → Nat → Prop} (h : callB r P fid l zm nx K) (hkb : KB zm nx) :
    ∃ fn, P.funcs[fid]? = some fn ∧ (fn.name == "runtime.NumGoroutine") = false ∧ fn.body.isNone = false ∧ ∃ v zm' nx', K v zm' nx' ∧ KB zm' nx' ∧ nx ≤ nx' ∧ YCall P B fid l zm nx v zm' nx' := by
  unfold callB at h
  split at h
  · rename_i fn hfn
    split at h
    · rename_i c hb
      obtain ⟨hname, hcode⟩ := hE.fns.get hfn
      rw [bindK_eq] at h
      have hco : cOk (l.length + (fn.ntmps - l.length)) c = true := cOk_mono (by omega) (hcode c hb)
      obtain ⟨e, tm', zm', nx', h10, hkb', hle, hrun⟩ := hr c _ zm nx _ _ h hco hkb
      have fin : (e = .normal ∨ e = .ret) → someK (rvA P tm' zm' fn.results.toList) (fun v => K v zm' nx') → ∃ v zm' nx', K v zm' nx' ∧ KB zm' nx' ∧ nx ≤ nx' ∧ YCall P B fid l zm nx v zm' nx' := by
        intro he hres
        obtain ⟨v, hv, hk⟩ := someK_inv hres
        refine ⟨v, zm', nx', hk, hkb', hle, fun H C M vals hH hz h6 => ?_⟩
        have hent := YT.enter h6 fn.ntmps
        rw [← (mkL_list h6).1] at hent
        refine calls_of_wp hfn hb (wp_mono (hrun H C M _ hH hz hent) ?_)
        rintro e' a w' ⟨rfl, C', M', rfl, hf⟩
        obtain ⟨val, q1, q2⟩ := rvA_s hf.yr hf.yt hv
        have q : a.defers = [] ∧ ∃ v', (results fn a.tmps).run P C'.w = .ok v' C'.w ∧ (∃ val', Ending.returned v' = .returned val' ∧ ∃ C'' M'', C''.w = C'.w ∧ R C'' v (.val val') ∧ YR B H C'' M'' zm' nx' ∧ YC B H C M zm nx C'' M'' zm' nx') :=
          ⟨hf.yt.defers, val, q1, val, rfl, C', M', rfl, q2, hf.yr, hf.yc⟩
        rcases he with rfl | rfl
        · exact q
        · exact q
      refine ⟨fn, hfn, hname, by rw [hb]; rfl, ?_⟩
      cases e with
      | normal => exact fin (.inl rfl) h10
      | ret => exact fin (.inr rfl) h10
      | _ => exact h10.elim
    · exact h.elim
  · exact h.elim

omit [Gl] in
theorem enter_run {o : Oper} {f : Operand} {args : Array Operand} {ts : Array TypeId} {ρc : Operand → Value} {fid : FuncId} {cs : Array Value} {fn : Func} {w : World} (ho : o.op = .call ⟨.value f, args, ts⟩) (h1 : ρc f = .func (.func fid) #[] cs) (hfn : P.funcs[fid]? = some fn)
    (hname : (fn.name == "runtime.NumGoroutine") = false) (hbody : fn.body.isNone = false) : (execOp ρc o).run P w = .ok (.enter fid (args.toList.map ρc ++ cs.toList).toArray) w := by
  simp only [execOp, ho, resolve, h1, Deferred.ofValue, Sem.run_bind, Sem.run_pure, Result.andThen_ok, invoke, callFunc, run_program, hfn, hname, hbody, Bool.false_eq_true, if_false]
  simp
omit [Gl] in
theorem unL_list {C : Ctx} {v : V} {vs : List Value} (h : R C v (.list vs)) : R C (mkL (unL v)) (.list vs) := R.unL v h
omit [Gl] in
theorem appL_mk (l : List V) {caps : V} {C : Ctx} {vs cs : List Value} (h1 : R C (mkL l) (.list vs)) (h2 : R C caps (.list cs)) : R C (appL l caps) (.list (vs ++ cs)) := R.appL h2 h1
omit [Gl] in
/-- The arguments of a call. -/
theorem call_args {o : Oper} {f : Operand} {args : Array Operand} {ts : Array TypeId} {ρ : Operand → V} {ρc : Operand → Value} {C : Ctx} (ho : o.op = .call ⟨.value f, args, ts⟩) (hx : ∀ x ∈ o.op.operands.toList, R C (ρ x) (.val (ρc x))) : R C (ρ f) (.val (ρc f)) ∧ R C (mkL (args.toList.map ρ)) (.list (args.toList.map ρc)) :=
  ⟨hx f (by simp [ho, Op.operands, Call.operands]), R.mkL (C := C) (ρ := ρ) (ρc := ρc) args.toList fun x hxx => hx x (by simp [ho, Op.operands, Call.operands]; exact .inr (by simpa using hxx))⟩

/-- By a contract. -/
theorem con_does {C : Ctx} {M : Mem} {c : CSpec} {fid : FuncId} {s : Sem Next} {vals : List Value} {l : V} (hs : SR B C M) (hGn : ∀ g, noId (Gl.G g) = true) (hc : CSoundG P fid c)
    (hrun : s.run P C.w = .ok (.enter fid vals.toArray) C.w) (hl : (c.fresh = true ∧ R (C.opened B) l (.list vals)) ∨ R C.pur l (.list vals)) (hp : c.pre (unL l)) :
    Does P s C.w fun val w' => ∃ C', C'.w = w' ∧ R C' (lendR c l) (.val val) ∧ Kp B C C' ∧ SR B C' M ∧ (∀ id, C'.al id → C.al id) := by
  let ok' : World → Bool → Nat → Prop := fun w' u b => (C.ok u b ∨ (u = true ∧ C.ok false b)) ∨ (C.w.heap.size ≤ b ∧ b < w'.heap.size)
  unfold Does
  rw [hrun]
  have fin : ∀ (e' : Ending) (w' : World) (r : Value) (D : Ctx), Below C.w.heap.size C.w w' → e' = .returned r → (c.fresh = true ∨ ∀ u b, D.ok u b → C.ok u b) →
      R { D.pur with w := w', ok := fun u b => (c.fresh = false ∧ ∃ u', D.ok u' b) ∨ (C.w.heap.size ≤ b ∧ b < w'.heap.size) } (c.res (unL l)) (.val r) →
      ∃ v, e' = .returned v ∧ ∃ C', C'.w = w' ∧ R C' (lendR c l) (.val v) ∧ Kp B C C' ∧ SR B C' M ∧ (∀ id, C'.al id → C.al id) := by
    intro e' w' r D hb he hD hr
    obtain ⟨hs2, hk2⟩ := hs.grown hb (ok' w') (fun u b h => .inl (.inl h)) (fun u b h => h)
    refine ⟨r, he, { C with w := w', ok := ok' w' }, rfl, ?_, hk2, hs2, fun id h => h⟩
    unfold lendR
    cases hf : c.fresh with
    | true =>
      refine R.keep (C := { D.pur with w := w', ok := _ }) (C' := { C with w := w', ok := ok' w' }) ⟨fun _ h => h.elim, fun _ h => h.elim, fun _ h => h.elim, ?_, fun _ _ _ => rfl⟩ _ _ hr
      intro u b hb2
      rcases hb2 with ⟨h8, _⟩ | h8
      · rw [hf] at h8; cases h8
      · exact .inr h8
    | false =>
      have hD' : ∀ u b, D.ok u b → C.ok u b := by
        rcases hD with h | h
        · rw [hf] at h; cases h
        · exact h
      have h8 := R.borrow (ok' := ok' w') _ (C := { D.pur with w := w', ok := _ }) ?_ hr
      · exact R.keep (C := { D.pur with w := w', ok := ok' w' }) (C' := { C with w := w', ok := ok' w' }) ⟨fun _ h => h.elim, fun _ h => h.elim, fun _ h => h.elim, fun _ _ h => h, fun _ _ _ => rfl⟩ _ _ h8
      · intro u b hb2
        rcases hb2 with ⟨_, u', h9⟩ | h9
        · cases u'
          · exact .inl (.inr ⟨rfl, hD' _ _ h9⟩)
          · exact .inl (.inl (hD' _ _ h9))
        · exact .inr h9
  rcases hl with ⟨hf, hl⟩ | hl
  · refine (hc.2 (C.opened B) (unL l) _ ?_ (fun g => R.keep (Keep.opened C B) _ _ (R.pure_of _ (hGn g) (hs.gl g))) (unL_list hl) hp).mono fun e' w' ⟨hb, r, he, hr⟩ => fin e' w' r (C.opened B) hb he (.inl hf) hr
    intro u b hb
    rcases hb with hb | hb
    · exact hs.okLt u b hb
    · exact hb.2
  · exact (hc.2 C.pur (unL l) _ hs.okLt (fun g => R.pure_of _ (hGn g) (R.pure_of _ (hGn g) (hs.gl g))) (unL_list hl) hp).mono fun e' w' ⟨hb, r, he, hr⟩ => fin e' w' r C.pur hb he (.inr fun _ _ h => h) hr

theorem seqC_odoes (hE : Env P ct) {o : Oper} {f : Operand} {args : Array Operand} {ts : Array TypeId} {tm : Tm} {zm : Zm} {nx : Nat} {K : KT} {fid : FuncId} {caps : V} {c : CSpec} (ho : o.op = .call ⟨.value f, args, ts⟩) (hf : ev Gl.G tm f = .fn fid caps)
    (hc : CSoundG P fid c) (h : seqC c zm nx (appL (args.toList.map (ev Gl.G tm)) caps) K) : ∃ v, K v zm nx [] [] ∧ ODoes P B o tm zm nx v zm nx := by
  obtain ⟨fn, hfn, hname, hbody⟩ := hc.1
  have key : ∀ l : V, c.pre (unL l) → (∀ (H : Nat) (C : Ctx) (M : Mem) (vals : List Value), YR B H C M zm nx → R C (appL (args.toList.map (ev Gl.G tm)) caps) (.list vals) → (c.fresh = true ∧ R (C.opened B) l (.list vals)) ∨ R C.pur l (.list vals)) → ODoes P B o tm zm nx (lendR c l) zm nx := by
    intro l hp hl H C M ρc hH hz hx
    obtain ⟨h0, h3⟩ := call_args ho hx
    rw [hf] at h0
    obtain ⟨cs, h1, h2⟩ := h0
    have h1' : ρc f = .func (.func fid) #[] cs := h1
    refine (con_does hz.sr hE.gn hc (enter_run ho h1' hfn hname hbody) (hl H C M _ hz (appL_mk _ h3 h2)) hp).mono ?_
    rintro val w' ⟨C', hw, hR, hk, hs, hal⟩
    exact ⟨C', M, hw, hR, ⟨hs, hz.sub, fun id h1 h2 h3 => hz.al id h1 h2 (hal id h3)⟩, ⟨hk, fun id h => .inl (hal id h), fun _ _ h => ⟨rfl, h⟩⟩⟩
  unfold seqC at h
  cases hfr : c.fresh with
  | true =>
    rw [hfr] at h
    obtain ⟨hp, hk⟩ := cnd_iff.1 (show cnd _ _ from h)
    have hv : lendR c (frz (gm zm) 12 (appL (args.toList.map (ev Gl.G tm)) caps)) = c.res (unL (frz (gm zm) 12 (appL (args.toList.map (ev Gl.G tm)) caps))) := by unfold lendR; rw [hfr]
    refine ⟨_, hk, ?_⟩
    rw [← hv]
    exact key _ hp fun H C M vals hz hr => .inl ⟨hfr, R.frz hz.sr hz.sub 12 _ _ hr⟩
  | false =>
    rw [hfr] at h
    obtain ⟨hnp, hk⟩ := cnd_iff.1 (show cnd _ _ from h)
    obtain ⟨hn, hp⟩ := Bool.and_eq_true_iff.1 hnp
    have hv : lendR c (appL (args.toList.map (ev Gl.G tm)) caps) = borrow (c.res (unL (appL (args.toList.map (ev Gl.G tm)) caps))) := by unfold lendR; rw [hfr]
    refine ⟨_, hk, ?_⟩
    rw [← hv]
    exact key _ hp fun H C M vals hz hr => .inr (R.pure_of _ hn hr)

omit [Gl] in
theorem resM_rd {m : Mem} (v : V) : ∀ {p : Bool} {v' : V} {rd : List Nat}, resM m v = some (p, v', rd) → ∀ id ∈ rd, ∃ b, m id = some b := by
  have pure : ∀ {v : V} {p : Bool} {v' : V} {rd : List Nat}, (if noId v then some (true, v, ([] : List Nat)) else none) = some (p, v', rd) → ∀ id ∈ rd, ∃ b, m id = some b := by
    intro v p v' rd h
    split at h
    · simp only [Option.some.injEq, Prod.mk.injEq] at h
      obtain ⟨_, _, rfl⟩ := h
      intro id hid; cases hid
    · cases h
  have one : ∀ {id : Nat} {blk : Blk} {rd : List Nat}, m id = some blk → [id] = rd → ∀ i ∈ rd, ∃ b, m i = some b := by
    intro id blk rd hb e i hi
    subst e
    simp only [List.mem_singleton] at hi
    subst hi
    exact ⟨_, hb⟩
  induction v with
  | row id e n =>
    intro p v' rd h
    simp only [Y.resM] at h
    split at h
    · rename_i blk hb
      split at h
      · split at h
        · simp only [Option.some.injEq, Prod.mk.injEq] at h; exact one hb h.2.2
        · cases h
      · cases h
    · cases h
  | sl id q e off len cap =>
    intro p v' rd h
    simp only [Y.resM] at h
    split at h
    · rename_i blk hb
      split at h
      · split at h
        · simp only [Option.some.injEq, Prod.mk.injEq] at h; exact one hb h.2.2
        · cases h
      · cases h
    · cases h
  | ptr id q s =>
    intro p v' rd h
    simp only [Y.resM] at h
    split at h
    · rename_i blk hb
      split at h
      · simp only [Option.some.injEq, Prod.mk.injEq] at h; exact one hb h.2.2
      · cases h
    · cases h
  | cons x t ih1 ih2 =>
    intro p v' rd h
    simp only [Y.resM] at h
    split at h
    · rename_i p1 h1 r1 p2 t1 r2 e1 e2
      simp only [Option.some.injEq, Prod.mk.injEq] at h
      obtain ⟨_, _, rfl⟩ := h
      intro id hid
      rcases List.mem_append.1 hid with hid | hid
      · exact ih1 e1 id hid
      · exact ih2 e2 id hid
    · cases h
  | tup l ih =>
    intro p v' rd h
    simp only [Y.resM] at h
    split at h
    · rename_i p1 l1 r1 e1
      simp only [Option.some.injEq, Prod.mk.injEq] at h
      obtain ⟨_, _, rfl⟩ := h
      exact ih e1
    · cases h
  | _ => intro p v' rd h; simp only [Y.resM] at h; exact pure h

theorem isoC_yst (hE : Env P ct) {o : Oper} {f : Operand} {args : Array Operand} {ts : Array TypeId} {tm : Tm} {zm : Zm} {nx : Nat} {K : KT} {fid : FuncId} {caps : V} {c : CSpec} (ho : o.op = .call ⟨.value f, args, ts⟩) (hf : ev Gl.G tm f = .fn fid caps)
    (hc : CSoundG P fid c) (h : isoC c zm nx (appL (args.toList.map (ev Gl.G tm)) caps) K) : ∃ v rd e, K v zm nx [] rd ∧ YSt P B o tm zm zm nx nx v [] rd e := by
  obtain ⟨fn, hfn, hname, hbody⟩ := hc.1
  unfold isoC at h
  split at h
  · rename_i p l rd hres
    obtain ⟨hall, hk⟩ := cnd_iff.1 h
    simp only [Bool.and_eq_true] at hall
    obtain ⟨hcond, hp, hpre⟩ := hall
    refine ⟨_, rd, ⟨lendR c l, [], [], rd⟩, hk, ⟨rfl, rfl, rfl, rfl, (by intro x hx; cases hx), (fun _ _ h => h), ?_, fun _ M hM => by rw [put_pure]; exact hM⟩⟩
    intro M hM C M1 ρc hs hrd _ _ hx
    obtain ⟨h0, h3⟩ := call_args ho hx
    rw [hf] at h0
    obtain ⟨cs, h1, h2⟩ := h0
    have h1' : ρc f = .func (.func fid) #[] cs := h1
    have h4 := appL_mk _ h3 h2
    have hrd' : ∀ id ∈ rd, M1 id = gm zm id := fun id hid => by
      obtain ⟨b, hb⟩ := resM_rd _ hres id hid
      rw [hrd id hid, hM _ _ hb, hb]
    have hl : (c.fresh = true ∧ R (C.opened B) l (.list (args.toList.map ρc ++ cs.toList))) ∨ R C.pur l (.list (args.toList.map ρc ++ cs.toList)) := by
      simp only [Bool.or_eq_true, List.isEmpty_iff] at hcond
      rcases hcond with h9 | h9
      · exact .inl ⟨h9, R.resM hs _ hres hp hrd' h4⟩
      · exact .inr (R.resM0 _ hres h9 h4)
    refine (con_does hs hE.gn hc (enter_run ho h1' hfn hname hbody) hl hpre).mono ?_
    rintro val w' ⟨C', hw, hR, hk, hs, hal⟩
    exact ⟨C', hw, hR, hk, by rw [put_pure]; exact hs, fun id h => .inl (hal id h)⟩
  · exact h.elim
end
end
end Go.Y
