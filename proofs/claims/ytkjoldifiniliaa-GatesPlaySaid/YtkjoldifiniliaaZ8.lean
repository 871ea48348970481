/- The run is right: temporaries, results, calls. No condition. -/
import Derived.Test.YtkjoldifiniliaaZ7
set_option linter.unusedVariables false
set_option linter.unusedSimpArgs false
set_option linter.constructorNameAsVariable false
namespace Go.Ab
open Go.RowKit
noncomputable section

/-- The temporaries. -/
structure ZT (P : Program) (C : Ctx) (tm : Tr X) (a : Act) (N : Nat) : Prop where
  tv : ∀ t, R C ((get .unk (enc t) tm).toV P) (.val (a.tmps.getD t undef))
  size : a.tmps.size = N
  defers : a.defers = []
  wfs : WFS P tm

theorem ZT.keep {P : Program} {C C' : Ctx} {tm : Tr X} {a : Act} {N : Nat} (h : ZT P C tm a N) (hk : Keep C C') : ZT P C' tm a N := ⟨fun t => R.keep hk _ _ (h.tv t), h.size, h.defers, h.wfs⟩
theorem wfs_set {P : Program} {tm : Tr X} {v : X} {p : Pth} (h : WFS P tm) (hv : WFT P v) : WFS P (set v p tm) := fun q => by
  rw [get_set]; split
  · exact hv
  · exact h q
def putT (d : Option Tmp) (v : X) (tm : Tr X) : Tr X := match d with | some d => set v (enc d) tm | none => tm
theorem ZT.put {P : Program} {C : Ctx} {tm : Tr X} {a : Act} {N : Nat} (h : ZT P C tm a N) {d : Option Tmp} {v : X} {val : Value} (hd : dOk N d = true) (hr : R C (v.toV P) (.val val)) (hv : WFT P v) : ZT P C (putT d v tm) (a.put d val) N := by
  cases d with
  | none => exact ⟨h.tv, h.size, h.defers, h.wfs⟩
  | some d =>
    have hd' : d < N := by simpa [dOk] using hd
    refine ⟨fun t => ?_, ?_, h.defers, wfs_set h.wfs hv⟩
    · rw [put_getD h.size hd']
      by_cases hdt : d = t
      · subst hdt
        rw [if_pos rfl]
        simp only [putT, get_set_same]; exact hr
      · rw [if_neg hdt]
        have hne : enc t ≠ enc d := fun e => hdt (enc_inj e).symm
        simp only [putT, get_set_ne _ _ _ _ _ hne]; exact h.tv t
    · rw [← h.size]; simp [Act.put]

theorem ZT.operand {P : Program} {C : Ctx} {tm : Tr X} {a : Act} {N : Nat} (h : ZT P C tm a N) (x : Operand) : R C (rho P tm x) (.val (a.eval x)) := by
  cases x with
  | tmp t => exact h.tv t
  | const v => exact R.ofVal C v
  | global g => trivial
  | func f => exact ⟨#[], rfl, rfl⟩

theorem wpOp_do {P : Program} {ops : Array Oper} {Q : Exit → Act → World → Prop} {i : Nat} {K : Act → World → Prop} {a : Act} {w : World} {o : Oper} (hop : ops[i]? = some o) (hw : Region.wanted o (yielded ops a.tmps) = true) (h : o.wp P a w K Q) : wpOp P ops Q i K a w := by
  unfold wpOp; simp only [hop]; rw [if_pos hw]; exact .inl h
theorem wpOp_skip {P : Program} {ops : Array Oper} {Q : Exit → Act → World → Prop} {i : Nat} {K : Act → World → Prop} {a : Act} {w : World} {o : Oper} (hop : ops[i]? = some o) (hw : Region.wanted o (yielded ops a.tmps) = false) (h : K (a.put o.dst undef) w) : wpOp P ops Q i K a w := by
  unfold wpOp; simp only [hop]; rw [if_neg (by rw [hw]; simp)]; exact h

theorem dstAt_eq (ops : Array Oper) (j : Nat) : dstAt ops.toList j = (ops[j]?).bind (·.dst) := by
  unfold dstAt; rw [Array.getElem?_toList]

theorem ZT.same {P : Program} {C : Ctx} {tm tm1 : Tr X} {a : Act} {N : Nat} (h : ZT P C tm a N) (hs : Same P tm tm1) : ZT P C tm1 a N := ⟨fun t => by rw [hs.tv t]; exact h.tv t, h.size, h.defers, hs.wf h.wfs⟩
/-- What a guard says, wherever. -/
theorem grdK_pure {P : Program} {tm : Tr X} {ops : Array Oper} {o : Oper} {y n : Tr X → Prop} (hg : grdK ops.toList o.guard tm y n) :
    ((∀ C a N, ZT P C tm a N → Region.wanted o (yielded ops a.tmps) = true) ∧ (∀ tmv : Nat → V, (∀ t, tmv t = (get .unk (enc t) tm).toV P) → wants ops tmv o false) ∧ ∃ tm1, Same P tm tm1 ∧ y tm1) ∨
    ((∀ C a N, ZT P C tm a N → Region.wanted o (yielded ops a.tmps) = false) ∧ (∀ tmv : Nat → V, (∀ t, tmv t = (get .unk (enc t) tm).toV P) → wants ops tmv o true) ∧ ∃ tm1, Same P tm tm1 ∧ n tm1) := by
  cases hgd : o.guard with
  | none =>
    rw [hgd] at hg
    exact .inl ⟨fun C a N _ => by simp [Region.wanted, hgd], fun tmv _ => by unfold wants; rw [hgd], tm, Same.refl P tm, hg⟩
  | some jw =>
    obtain ⟨j, want⟩ := jw
    rw [hgd] at hg
    have hg1 : @Option.rec Tmp (fun _ => Prop) False (fun d => grdX (get .unk (enc d) tm) want d tm y n) (dstAt ops.toList j) := hg
    rw [dstAt_eq] at hg1
    cases hd : (ops[j]?).bind (·.dst) with
    | none => rw [hd] at hg1; exact False.elim hg1
    | some d =>
      rw [hd] at hg1
      have rd : ∀ {C a N} {b : Bool}, ZT P C tm a N → (get .unk (enc d) tm).toV P = .bool b → a.tmps[d]? = some (.bool b) := by
        intro C a N b ht hx
        have hr := ht.tv d
        rw [hx] at hr
        have hval : a.tmps.getD d undef = .bool b := hr
        rw [Array.getD_eq_getD_getElem?] at hval
        cases hx : a.tmps[d]? with
        | none => rw [hx] at hval; simp [undef] at hval
        | some y => rw [hx] at hval; simpa using hval
      rcases grdX_inv (P := P) hg1 with ⟨hx, hy⟩ | ⟨hx, hn⟩
      · refine .inl ⟨fun C a N ht => by simp [Region.wanted, hgd, yielded, hd, rd ht hx], fun tmv ht => ?_, hy⟩
        unfold wants; rw [hgd]
        exact ⟨d, hd, .inl ⟨by rw [ht, hx], rfl⟩⟩
      · refine .inr ⟨fun C a N ht => ?_, fun tmv ht => ?_, hn⟩
        · rcases hx with hx | hx
          · cases want <;> simp [Region.wanted, hgd, yielded, hd, rd ht hx]
          · have hr := ht.tv d
            rw [hx] at hr
            obtain ⟨cs, h2, h3⟩ := hr
            have h3' : cs.toList = [] := h3
            have hval : a.tmps.getD d undef = .tuple #[] := by rw [h2]; congr; simpa using h3'
            rw [Array.getD_eq_getD_getElem?] at hval
            cases hx : a.tmps[d]? with
            | none => simp [Region.wanted, hgd, yielded, hd, hx]
            | some y => rw [hx] at hval; simp only [Option.getD_some] at hval; subst hval; simp [Region.wanted, hgd, yielded, hd, hx]
        · unfold wants; rw [hgd]
          refine ⟨d, hd, .inr ⟨?_, rfl⟩⟩
          rcases hx with hx | hx
          · exact .inl (by rw [ht, hx])
          · exact .inr (by rw [ht, hx])

/-! ### Results -/
section
variable {P : Program} {B H : Nat} {C : Ctx} {M : Mem} {tm zm : Tr X} {nx : Pth} {a : Act} {N : Nat} {T : Tr TI}
theorem WF.of_plain {x : X} (h : WFT P x) (hp : x.plain = true) : WF P x := h.wf fun l e => by rw [e] at hp; cases hp
theorem rvK_inv (hT : TTok P T) (hwm : WFM P zm) (hws : WFS P tm) {r : ResultVar} {f : X → Prop} (h : rvK T tm zm r f) : ∃ v, WFT P v ∧ f v ∧ ∀ (B H : Nat) (C : Ctx) (M : Mem) (nx : Pth) (a : Act) (N : Nat), ZR P B H C M zm nx → ZT P C tm a N → ∃ val, (rdV a r).run P C.w = .ok val C.w ∧ R C (v.toV P) (.val val) := by
  cases r with
  | tmp t =>
    have h1 : fX (get .unk (enc t) tm) f := h
    rw [fX_eq] at h1
    exact ⟨_, hws _, h1, fun B H C M nx a N hz ht => ⟨_, rfl, ht.tv t⟩⟩
  | cell p t =>
    obtain ⟨c, sc, z, k, hti, h1⟩ := tyK_inv hT (show tyK T t _ from h)
    obtain ⟨id, q, c1, hp, h2⟩ := asPtr_inv h1
    obtain ⟨hc, h3⟩ := ifP_inv h2
    obtain rfl := nbeq hc
    obtain ⟨v, b, hb, hal, hsh, hv, hw, h4⟩ := blkV_inv (P := P) h3
    rw [fX_eq] at h4
    refine ⟨_, .one (WF.pathX q (hw (hwm id))), h4, fun B H C M nx a N hz ht => ?_⟩
    have hr := ht.tv p
    rw [hp] at hr
    obtain ⟨hal', g, off, h5, h6, h7⟩ := hr
    have h7' : a.tmps.getD p undef = .pointer (some ⟨g, off, none⟩) := h7
    have hm : M (num id) = some b := hz.sub _ _ (by rw [zmem_num]; exact hb)
    obtain ⟨h8, _⟩ := BR.at (hz.sr.mem _ b hm) hal h5 h6
    obtain ⟨d, hd⟩ := hti.un
    obtain ⟨val, h9, h10⟩ := run_loadVar_tree hti.sh hd h8
    rw [hv, ← toV_path] at h10
    exact ⟨val, by simp only [rdV, h7']; simpa [asAddr] using h9, h10⟩
theorem rvL_inv (hT : TTok P T) (hwm : WFM P zm) (hws : WFS P tm) : ∀ {l : List ResultVar} {f : List X → Prop}, rvL T tm zm l f → ∃ vs, (∀ y ∈ vs, WF P y) ∧ f vs ∧ ∀ (B H : Nat) (C : Ctx) (M : Mem) (nx : Pth) (a : Act) (N : Nat), ZR P B H C M zm nx → ZT P C tm a N → ∃ xs, (l.mapM (rdV a)).run P C.w = .ok xs C.w ∧ R C (X.toVL P vs) (.list xs) ∧ xs.length = l.length
  | [], f, h => ⟨[], (by intro y hy; cases hy), h, fun B H C M nx a N hz ht => ⟨[], rfl, rfl, rfl⟩⟩
  | r :: l, f, h => by
    obtain ⟨v, h3, h4, hv⟩ := rvK_inv hT hwm hws (show rvK T tm zm r (fun x => fXp x fun x => rvL T tm zm l fun l => f (x :: l)) from h)
    obtain ⟨hp, h5⟩ := fXp_inv h4
    obtain ⟨vs, k4, k5, hvs⟩ := rvL_inv hT hwm hws (l := l) h5
    refine ⟨v :: vs, ?_, k5, fun B H C M nx a N hz ht => ?_⟩
    · intro y hy
      rcases List.mem_cons.1 hy with rfl | hy
      · exact WF.of_plain h3 hp
      · exact k4 y hy
    · obtain ⟨val, h1, h2⟩ := hv B H C M nx a N hz ht
      obtain ⟨xs, k1, k2, k3⟩ := hvs B H C M nx a N hz ht
      refine ⟨val :: xs, ?_, ⟨val, xs, rfl, h2, k2⟩, by simp [k3]⟩
      rw [List.mapM_cons, Sem.run_bind, h1, Result.andThen_ok, Sem.run_bind, k1, Result.andThen_ok, Sem.run_pure]
theorem resK_inv (hT : TTok P T) (hwm : WFM P zm) (hws : WFS P tm) {fn : Func} {f : X → Prop} (h : resK T tm zm fn.results.toList f) : ∃ v, WFT P v ∧ f v ∧ ∀ (B H : Nat) (C : Ctx) (M : Mem) (nx : Pth) (a : Act) (N : Nat), ZR P B H C M zm nx → ZT P C tm a N → ∃ val, (results fn a.tmps).run P C.w = .ok val C.w ∧ R C (v.toV P) (.val val) := by
  have key : ∀ {a : Act} {C : Ctx} {xs : List Value}, (fn.results.toList.mapM (rdV a)).run P C.w = .ok xs C.w → (fn.results.mapM (rdV a)).run P C.w = .ok xs.toArray C.w := by
    intro a C xs h1
    have : fn.results = fn.results.toList.toArray := by simp
    rw [this, List.mapM_toArray, map_eq_pure_bind, Sem.run_bind, h1]; rfl
  cases hr : fn.results.toList with
  | nil =>
    rw [hr] at h
    refine ⟨.tup [], .tup (by intro y hy; cases hy), h, fun B H C M nx a N hz ht => ⟨.tuple #[], ?_, ⟨#[], rfl, rfl⟩⟩⟩
    rw [results_rdV, Sem.run_bind, key (xs := []) (by rw [hr]; rfl)]; rfl
  | cons r l =>
    rw [hr] at h
    cases l with
    | nil =>
      obtain ⟨v, h3, h4, hv⟩ := rvK_inv hT hwm hws (show rvK T tm zm r f from h)
      refine ⟨v, h3, h4, fun B H C M nx a N hz ht => ?_⟩
      obtain ⟨val, h1, h2⟩ := hv B H C M nx a N hz ht
      refine ⟨val, ?_, h2⟩
      rw [results_rdV, Sem.run_bind, key (xs := [val]) (by rw [hr, List.mapM_cons, Sem.run_bind, h1]; rfl)]; rfl
    | cons r2 l =>
      obtain ⟨vs, k4, k5, hvs⟩ := rvL_inv hT hwm hws (show rvL T tm zm (r :: r2 :: l) (fun l => f (.tup l)) from h)
      refine ⟨.tup vs, .tup k4, k5, fun B H C M nx a N hz ht => ?_⟩
      obtain ⟨xs, k1, k2, k3⟩ := hvs B H C M nx a N hz ht
      refine ⟨.tuple xs.toArray, ?_, ⟨xs.toArray, rfl, by simpa using k2⟩⟩
      rw [results_rdV, Sem.run_bind, key (by rw [hr]; exact k1)]
      have h4 : ¬ xs.toArray.size = 1 := by simp [k3]
      rw [Result.andThen_ok, dif_neg h4, Sem.run_pure]

/-! ### Arguments -/
def bindT : List X → Pth → Tr X → Tr X
  | [], _, t => t
  | x :: l, p, t => bindT l (psucc p) (set x p t)
theorem bindK_eq : ∀ (l : List X) (p : Pth) (t : Tr X) (K : Tr X → Prop), bindK l p t K = K (bindT l p t)
  | [], p, t, K => rfl
  | x :: l, p, t, K => by
    show setTK x p t (fun t => bindK l (psucc p) t K) = _
    rw [setTK_eq, bindK_eq l]; rfl
theorem bindT_get : ∀ (l : List X) (p : Pth) (t : Tr X) (q : Pth), get .unk q (bindT l p t) = if num p ≤ num q ∧ num q < num p + l.length then l.getD (num q - num p) .unk else get .unk q t
  | [], p, t, q => by rw [if_neg (by simp only [List.length_nil]; omega)]; rfl
  | x :: l, p, t, q => by
    rw [show bindT (x :: l) p t = bindT l (psucc p) (set x p t) from rfl, bindT_get l, num_psucc]
    by_cases h1 : num p + 1 ≤ num q ∧ num q < num p + 1 + l.length
    · rw [if_pos h1, if_pos (by simp; omega)]
      rw [show num q - num p = (num q - (num p + 1)) + 1 by omega]; rfl
    · rw [if_neg h1]
      by_cases h2 : num q = num p
      · have := num_inj h2
        subst this
        rw [get_set_same, if_pos (by simp)]
        simp
      · rw [get_set_ne _ _ _ _ _ (fun e => h2 (by rw [e])), if_neg (by simp; omega)]
theorem bindT_wfs : ∀ (l : List X) (p : Pth) (t : Tr X), (∀ y ∈ l, WF P y) → WFS P t → WFS P (bindT l p t)
  | [], p, t, _, h => h
  | x :: l, p, t, hl, h => bindT_wfs l _ _ (fun y hy => hl y (by simp [hy])) (wfs_set h (.one (hl x (by simp))))
theorem toVL_list : ∀ {l : List X} {vs : List Value}, R C (X.toVL P l) (.list vs) → l.length = vs.length ∧ ∀ i, i < l.length → R C ((l.getD i .unk).toV P) (.val (vs.getD i undef))
  | [], vs, h => by obtain rfl : vs = [] := h; exact ⟨rfl, fun i hi => by simp at hi⟩
  | x :: l, vs, h => by
    obtain ⟨v, vs', rfl, h1, h2⟩ := h
    obtain ⟨h3, h4⟩ := toVL_list (l := l) h2
    refine ⟨by simp [h3], fun i hi => ?_⟩
    cases i with
    | zero => exact h1
    | succ i => exact h4 i (by simpa using hi)
theorem toVL_app : ∀ {l r : List X} {vs ws : List Value}, R C (X.toVL P l) (.list vs) → R C (X.toVL P r) (.list ws) → R C (X.toVL P (l ++ r)) (.list (vs ++ ws))
  | [], r, vs, ws, h1, h2 => by obtain rfl : vs = [] := h1; exact h2
  | x :: l, r, vs, ws, h1, h2 => by
    obtain ⟨v, vs', rfl, h3, h4⟩ := h1
    exact ⟨v, vs' ++ ws, rfl, h3, toVL_app h4 h2⟩
theorem ZT.enter {l : List X} {vs : List Value} (h : R C (X.toVL P l) (.list vs)) (hl : ∀ y ∈ l, WF P y) (n : Nat) :
    ZT P C (bindT l [] .e) { tmps := vs.toArray ++ Array.replicate (n - vs.toArray.size) undef, defers := [] } (vs.length + (n - vs.length)) := by
  obtain ⟨h1, h2⟩ := toVL_list h
  refine ⟨fun t => ?_, by simp, rfl, bindT_wfs l _ _ hl (fun q => by rw [get_e]; exact .one WF.unk)⟩
  rw [bindT_get]
  simp only [num_enc, num, Nat.zero_le, true_and, Nat.zero_add, Nat.sub_zero]
  by_cases ht : t < l.length
  · rw [if_pos ht]
    have h3 : (vs.toArray ++ Array.replicate (n - vs.toArray.size) undef).getD t undef = vs.getD t undef := by
      rw [Array.getD_eq_getD_getElem?, Array.getElem?_append_left (by simpa [← h1] using ht)]
      simp
    rw [h3]
    exact h2 t ht
  · rw [if_neg ht, get_e]
    trivial
end

/-! ### What is to be shown -/
/-- A contract is right. -/
def CtOK (P : Program) (fid : FuncId) (g : List X → (X → Prop) → Prop) : Prop :=
  ∀ (l : List X) (K : X → Prop), g l K → (∀ y ∈ l, WF P y) → (∃ fn, P.funcs[fid]? = some fn ∧ (fn.name == "runtime.NumGoroutine") = false ∧ fn.body.isNone = false) ∧
    ∃ v, K v ∧ WFT P v ∧ ∀ (C : Ctx) (vals : List Value), (∀ u b, C.ok u b → b < C.w.heap.size) → R C (X.toVL P l) (.list vals) →
      Calls P fid vals.toArray C.w fun e w' => Below C.w.heap.size C.w w' ∧ ∃ r, e = .returned r ∧ ∀ C' : Ctx, R C' (v.toV P) (.val r)
def FTok (P : Program) (FT : FTb) : Prop :=
  (∀ f fn, get none (enc f) FT.ft = some fn → P.funcs[f]? = some fn ∧ (fn.name == "runtime.NumGoroutine") = false ∧ ∀ c, fn.body = some c → codeOk fn.ntmps c = true) ∧
  ∀ f g, get .no (enc f) FT.ct = .ct g → CtOK P f g
/-- What has come of it. -/
structure ZF (P : Program) (B H : Nat) (C : Ctx) (M : Mem) (zm : Tr X) (nx : Pth) (N : Nat) (tm' zm' : Tr X) (nx' : Pth) (C' : Ctx) (M' : Mem) (a' : Act) : Prop where
  zr : ZR P B H C' M' zm' nx'
  zt : ZT P C' tm' a' N
  zc : ZC P B H C M zm nx C' M' zm' nx'
def ZFin (P : Program) (B H : Nat) (C : Ctx) (M : Mem) (zm : Tr X) (nx : Pth) (N : Nat) (e : Exit) (tm' zm' : Tr X) (nx' : Pth) (e' : Exit) (a' : Act) (w' : World) : Prop :=
  e' = e ∧ ∃ C' M', C'.w = w' ∧ ZF P B H C M zm nx N tm' zm' nx' C' M' a'
def Runs (P : Program) (B : Nat) (c : Code) (tm zm : Tr X) (nx : Pth) (N : Nat) (e : Exit) (tm' zm' : Tr X) (nx' : Pth) : Prop :=
  ∀ (H : Nat) (C : Ctx) (M : Mem) (a : Act), num nx' ≤ H → ZR P B H C M zm nx → ZT P C tm a N → c.wp P (ZFin P B H C M zm nx N e tm' zm' nx') a C.w
def RunOK (P : Program) (B : Nat) (r : RUN) : Prop :=
  ∀ (c : Code) (tm zm : Tr X) (nx : Pth) (K : K3) (N : Nat), r c tm zm nx K → codeOk N c = true → WFS P tm → WFM P zm → KB P zm nx →
    ∃ e tm' zm' nx', K e tm' zm' nx' ∧ WFS P tm' ∧ WFM P zm' ∧ KB P zm' nx' ∧ num nx ≤ num nx' ∧ Runs P B c tm zm nx N e tm' zm' nx'

/-- What a call hands on. -/
def ZCall (P : Program) (B : Nat) (fid : FuncId) (l caps : List X) (zm : Tr X) (nx : Pth) (v : X) (zm' : Tr X) (nx' : Pth) : Prop :=
  ∀ (H : Nat) (C : Ctx) (M : Mem) (vals cs : List Value), num nx' ≤ H → ZR P B H C M zm nx → R C (X.toVL P l) (.list vals) → R C (X.toVL P caps) (.list cs) →
    Calls P fid (vals ++ cs).toArray C.w fun e w' => ∃ val, e = .returned val ∧ ∃ C' M', C'.w = w' ∧ R C' (v.toV P) (.val val) ∧ ZR P B H C' M' zm' nx' ∧ ZC P B H C M zm nx C' M' zm' nx'

/-- A call. -/
theorem callZ_inv {P : Program} {B : Nat} {r : RUN} (hr : RunOK P B r) {FT : FTb} (hF : FTok P FT) {T : Tr TI} (hT : TTok P T) {f : X} {l : List X} {zm : Tr X} {nx : Pth} {K : X → Tr X → Pth → Prop} (h : callZ r FT T f l zm nx K)
    (hf : WF P f) (hl : ∀ y ∈ l, WF P y) (hwm : WFM P zm) (hkb : KB P zm nx) : ∃ fid caps fn, f = .fn fid caps ∧ P.funcs[fid]? = some fn ∧ (fn.name == "runtime.NumGoroutine") = false ∧ fn.body.isNone = false ∧
      ∃ v zm' nx', K v zm' nx' ∧ WFT P v ∧ WFM P zm' ∧ KB P zm' nx' ∧ num nx ≤ num nx' ∧ ZCall P B fid l caps zm nx v zm' nx' := by
  obtain ⟨fid, caps, rfl, h00⟩ := asFn_inv h
  cases hct : get .no (enc fid) FT.ct with
  | ct g =>
    rw [hct] at h00
    have h01 : xNil caps (g l fun v => K v zm nx) := h00
    cases caps with
    | cons => exact False.elim h01
    | nil =>
      obtain ⟨⟨fn, c1, c2, c3⟩, v, k1, k2, k3⟩ := hF.2 fid g hct l _ h01 hl
      refine ⟨fid, [], fn, rfl, c1, c2, c3, v, zm, nx, k1, k2, hwm, hkb, Nat.le_refl _, fun H C M vals cs hH hz h4 h5 => ?_⟩
      obtain rfl : cs = [] := h5
      rw [List.append_nil]
      refine (k3 C vals hz.sr.okLt h4).mono ?_
      rintro e w' ⟨hb, r, rfl, hr⟩
      obtain ⟨s1, s2⟩ := hz.sr.grown hb C.ok (fun _ _ h => h) (fun _ _ h => .inl (.inl h))
      exact ⟨r, rfl, { C with w := w', ok := C.ok }, M, rfl, hr _, ⟨s1, hz.sub, hz.al, hz.wfm⟩, ⟨s2, fun _ h => .inl h, fun _ _ h => ⟨rfl, h⟩⟩⟩
  | no =>
  rw [hct] at h00
  have h1 : callB r FT T fid caps l zm nx K := h00
  unfold callB at h1
  cases hg : get none (enc fid) FT.ft with
  | none => rw [hg] at h1; exact False.elim h1
  | some fn =>
    rw [hg] at h1
    obtain ⟨hfn, hname, hcode⟩ := hF.1 fid fn hg
    cases hb : fn.body with
    | none =>
      have h2 : @Option.rec Code (fun _ => Prop) False (fun c => bindK (appX l caps) [] .e fun tm => r c tm zm nx (retK T fn.results.toList K)) fn.body := h1
      rw [hb] at h2; exact False.elim h2
    | some c =>
      have h2 : @Option.rec Code (fun _ => Prop) False (fun c => bindK (appX l caps) [] .e fun tm => r c tm zm nx (retK T fn.results.toList K)) fn.body := h1
      rw [hb] at h2
      have h3 : bindK (appX l caps) [] .e (fun tm => r c tm zm nx (retK T fn.results.toList K)) := h2
      rw [bindK_eq, appX_eq] at h3
      have hcaps : ∀ y ∈ caps, WF P y := by
        cases hf with
        | leaf _ _ _ h4 => exact absurd rfl (h4 _ _)
        | fn h4 => exact h4
      have hall : ∀ y ∈ l ++ caps, WF P y := by
        intro y hy
        rcases List.mem_append.1 hy with hy | hy
        · exact hl y hy
        · exact hcaps y hy
      have hco : codeOk ((l ++ caps).length + (fn.ntmps - (l ++ caps).length)) c = true := codeOk_mono (by omega) (hcode c hb)
      obtain ⟨e, tm', zm', nx', h10, hws', hwm', hkb', hle, hrun⟩ := hr c _ zm nx _ _ h3 hco (bindT_wfs _ _ _ hall (fun q => by rw [get_e]; exact .one WF.unk)) hwm hkb
      have fin : (e = .normal ∨ e = .ret) → resK T tm' zm' fn.results.toList (fun v => K v zm' nx') → ∃ v zm' nx', K v zm' nx' ∧ WFT P v ∧ WFM P zm' ∧ KB P zm' nx' ∧ num nx ≤ num nx' ∧ ZCall P B fid l caps zm nx v zm' nx' := by
        intro he hres
        obtain ⟨v, k1, k2, k3⟩ := resK_inv hT hwm' hws' hres
        refine ⟨v, zm', nx', k2, k1, hwm', hkb', hle, fun H C M vals cs hH hz h4 h5 => ?_⟩
        have h6 := toVL_app h4 h5
        have hent := ZT.enter h6 hall fn.ntmps
        rw [← (toVL_list h6).1] at hent
        refine calls_of_wp hfn hb (wp_mono (hrun H C M _ hH hz hent) ?_)
        rintro e' a w' ⟨rfl, C', M', rfl, hf⟩
        obtain ⟨val, q1, q2⟩ := k3 B H C' M' nx' a _ hf.zr hf.zt
        have q : a.defers = [] ∧ ∃ v, (results fn a.tmps).run P C'.w = .ok v C'.w ∧ (∃ val', Ending.returned v = .returned val' ∧ ∃ C'' M'', C''.w = C'.w ∧ R C'' _ (.val val') ∧ ZR P B H C'' M'' zm' nx' ∧ ZC P B H C M zm nx C'' M'' zm' nx') :=
          ⟨hf.zt.defers, val, q1, val, rfl, C', M', rfl, q2, hf.zr, hf.zc⟩
        rcases he with rfl | rfl
        · exact q
        · exact q
      refine ⟨fid, caps, fn, rfl, hfn, hname, by rw [hb]; rfl, ?_⟩
      cases e with
      | normal => exact fin (.inl rfl) h10
      | ret => exact fin (.inr rfl) h10
      | _ => exact False.elim h10
end
end Go.Ab
