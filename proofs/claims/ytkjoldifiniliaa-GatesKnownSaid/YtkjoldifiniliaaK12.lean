/- The run is right: calls, operations. No condition. -/
import Derived.Test.YtkjoldifiniliaaK11
set_option linter.unusedVariables false
set_option linter.unusedSimpArgs false
set_option linter.constructorNameAsVariable false
namespace Go.K
open Go.Ab Go.RowKit Go.Y
noncomputable section
variable [KGl]

/-! ### What is to be shown -/
structure KFin (lo : Nat) (zm : KZ) (nx mx : Nat) (zm' : KZ) (nx' mx' : Nat) : Prop where
  mb : MB (am zm') nx'
  nx : nx ≤ nx'
  mx : mx ≤ mx'
  low : ∀ id, id < lo → am zm' id = am zm id
omit [KGl] in
theorem KFin.trans {lo nx mx nx' mx' nx2 mx2 : Nat} {zm zm' zm2 : KZ} (h : KFin lo zm nx mx zm' nx' mx') (k : KFin lo zm' nx' mx' zm2 nx2 mx2) : KFin lo zm nx mx zm2 nx2 mx2 :=
  ⟨k.mb, Nat.le_trans h.nx k.nx, Nat.le_trans h.mx k.mx, fun id hid => (k.low id hid).trans (h.low id hid)⟩
def KRunOK (E : KEnv) (B : Nat) (r : RUN) : Prop := ∀ (mask lo : Nat) (c : Code) (tr : KTm) (zm : KZ) (nx mx : Nat) (K : K3) (N : Nat), r mask lo c tr zm nx mx K → cOk N c = true → MB (am zm) nx → lo ≤ nx → INV mask tr →
  ∃ e tr' zm' nx' mx', K e tr' zm' nx' mx' ∧ KFin lo zm nx mx zm' nx' mx' ∧ INV mask tr' ∧ GRuns E.P B c (tv' (tget tr)) (am zm) nx N e (tv' (tget tr')) (am zm') nx' mx'
/-- A contract. -/
def KCS (P : Program) (fid : FuncId) (s : KSpec) : Prop := (∃ fn, P.funcs[fid]? = some fn ∧ (fn.name == "runtime.NumGoroutine") = false ∧ fn.body.isNone = false) ∧
  ∀ (l : List KV) (K : KV → Prop), s l K → ∃ v, K v ∧ ∀ B μ nx mx, GCall P B fid (l.map KV.v) μ nx v.v μ nx mx
structure KOk (E : KEnv) : Prop where
  fns : FnsOk E.P
  ct : ∀ f s, E.ct f = some s → KCS E.P f s
  gn : ∀ g, noId (Gl.G g) = true
  mixed : E.P.follows .mixedOrders = true

section
variable {E : KEnv} {B : Nat} {run : RUN}
omit [KGl] in
theorem fnB_s {P : Program} {fid : FuncId} {x : Code × List ResultVar} (h : fnB P fid = some x) : ∃ fn, P.funcs[fid]? = some fn ∧ fn.body = some x.1 ∧ x.2 = fn.results.toList := by
  unfold fnB at h
  split at h
  · rename_i fn hf
    split at h
    · rename_i c hc
      cases h
      exact ⟨fn, hf, hc, rfl⟩
    · cases h
  · cases h
theorem callR_s (hr : KRunOK E B run) (hE : KOk E) {lo : Nat} {fid : FuncId} {l : List KV} {zm : KZ} {nx mx : Nat} {K : KV → KZ → Nat → Nat → Prop} (h : callR E run lo fid l zm nx mx K) (hmb : MB (am zm) nx) (hlo : lo ≤ nx) :
    (∃ fn, E.P.funcs[fid]? = some fn ∧ (fn.name == "runtime.NumGoroutine") = false ∧ fn.body.isNone = false) ∧ ∃ v zm' nx' mx', K v zm' nx' mx' ∧ KFin lo zm nx mx zm' nx' mx' ∧ GCall E.P B fid (l.map KV.v) (am zm) nx v.v (am zm') nx' mx' := by
  obtain ⟨⟨c, rs⟩, h1, h2⟩ := os_inv h
  obtain ⟨fn, hfn, hb, hrs⟩ := fnB_s h1
  obtain ⟨hname, hcode⟩ := hE.fns.get hfn
  obtain ⟨tr, h3, h4⟩ := bindA_s l 0 .e _ (show bindA (E.km fid) l 0 .e (fun tr => run (E.km fid) lo c tr zm nx mx (retK E.P rs K)) from h2)
  have hinv : INV (E.km fid) tr := fun t ht => by
    rcases h4 t with h | ⟨h, _⟩
    · rw [h, tget_e]
    · rw [ht] at h; cases h
  have hco : cOk ((l.map KV.v).length + (fn.ntmps - (l.map KV.v).length)) c = true := cOk_mono (by omega) (hcode c hb)
  obtain ⟨e, tr', zm', nx', mx', h5, h6, _, h7⟩ := hr _ _ _ _ _ _ _ _ _ h3 hco hmb hlo hinv
  obtain ⟨he, v, h8, h9⟩ := retK_s h5
  refine ⟨⟨fn, hfn, hname, by rw [hb]; rfl⟩, v, zm', nx', mx', h8, h6, GCall.body hfn hb ?_ h7 he (by rw [← hrs]; exact h9)⟩
  intro t x C hx
  show R C (tget tr t).v (.val x)
  rcases h4 t with h | ⟨_, _, h10, h11⟩
  · rw [h, tget_e]; trivial
  · rw [h11, Nat.sub_zero]
    unfold argT at hx
    rw [Nat.zero_add] at h10
    rw [if_pos (by simpa using h10)] at hx
    have : (l.map KV.v).getD t .unk = (l.getD t .unk).v := by
      rw [List.getD_eq_getElem?_getD, List.getD_eq_getElem?_getD, List.getElem?_map, List.getElem?_eq_getElem h10]; rfl
    rw [this] at hx
    exact hx
omit [KGl] in
theorem unLK_s (l : KV) : ∀ (K : List KV → Prop), unLK l K → ∃ r, K r ∧ r.map KV.v = unL l.v := by
  induction l with
  | cons a b ih1 ih2 =>
    intro K h
    obtain ⟨r, h1, h2⟩ := ih2 _ (show unLK b (fun l => K (a :: l)) from h)
    exact ⟨_, h1, by rw [List.map_cons, h2]; rfl⟩
  | _ => intro K h; exact ⟨[], h, rfl⟩
omit [KGl] in
theorem appK_s : ∀ (l r : List KV) (K : List KV → Prop), appK l r K → K (l ++ r)
  | [], r, K, h => h
  | x :: l, r, K, h => appK_s l r _ (show appK l r (fun r => K (x :: r)) from h)
omit [KGl] in
theorem maxN_le (a b : Nat) : a ≤ maxN a b ∧ b ≤ maxN a b := by
  unfold maxN
  cases h : Nat.ble a b with
  | true => have := Nat.le_of_ble_eq_true h; exact ⟨this, Nat.le_refl _⟩
  | false => have : ¬ a ≤ b := fun h1 => by rw [Nat.ble_eq_true_of_le h1] at h; cases h
             exact ⟨Nat.le_refl _, by show b ≤ a; omega⟩

/-! ### Operations in order -/
def SOut (E : KEnv) (B : Nat) (o : Oper) (τ : Nat → KV) (lo : Nat) (zm : KZ) (nx mx : Nat) (K : KO) : Prop :=
  ∃ v zm' nx' mx' up rd al, K v zm' nx' mx' up rd al ∧ KFin lo zm nx mx zm' nx' mx' ∧ GDoes E.P B o (tv' τ) (am zm) nx v.v (am zm') nx' mx'
def DOut (E : KEnv) (B : Nat) (o : Oper) (τ : Nat → KV) (lo : Nat) (zm : KZ) (nx mx : Nat) (K : KO) : Prop :=
  ∃ v zm' nx' mx' up rd al, K v zm' nx' mx' up rd al ∧ KFin lo zm nx mx zm' nx' mx' ∧ ∃ rd' e, GSt E.P B o (tv' τ) (am zm) (am zm') nx nx' v.v up rd' e ∧ (al = false → rd' = rd) ∧ (al = true → ∀ id ∈ rd', id < nx)
omit [KGl] in
theorem put_low {m : Mem} {n lo : Nat} {e : Eff} (h1 : lo ≤ n) (h2 : ∀ id ∈ e.up.map (·.1), lo ≤ id) (id : Nat) (hid : id < lo) : put m n e id = m id := by
  have : touch e n id = none := touch_none (.inl (by omega)) fun x hx e1 => by
    have := h2 x.1 (List.mem_map_of_mem hx)
    omega
  simp only [put, this]
theorem Out.seq {o : Oper} {τ : Nat → KV} {lo : Nat} {zm : KZ} {nx mx : Nat} {K : KO} (h : Out E.P B o τ lo zm nx (sK mx K)) (hmb : MB (am zm) nx) (hlo : lo ≤ nx) : SOut E B o τ lo zm nx mx K := by
  obtain ⟨v, zm', nx', up, rd, e, h1, h2, rfl, rfl, rfl, h6, h7, h8, h9⟩ := h
  have hs := GSt.of h7 h8
  have hm := hs.mb hmb
  rw [← h6] at hm
  refine ⟨v, zm', _, mx, _, _, false, h1, ⟨hm, by omega, Nat.le_refl _, fun id hid => by rw [h6]; exact put_low hlo h9 id hid⟩, ?_⟩
  rw [← h2, h6]
  exact hs.does hmb mx
theorem Out.drw {o : Oper} {τ : Nat → KV} {lo : Nat} {zm : KZ} {nx mx : Nat} {K : KO} (h : Out E.P B o τ lo zm nx (sK mx K)) (hmb : MB (am zm) nx) (hlo : lo ≤ nx) : DOut E B o τ lo zm nx mx K := by
  obtain ⟨v, zm', nx', up, rd, e, h1, h2, rfl, rfl, rfl, h6, h7, h8, h9⟩ := h
  have hs := GSt.of h7 h8
  have hm := hs.mb hmb
  rw [← h6] at hm
  refine ⟨v, zm', _, mx, _, _, false, h1, ⟨hm, by omega, Nat.le_refl _, fun id hid => by rw [h6]; exact put_low hlo h9 id hid⟩, e.rd, e, ?_, fun _ => rfl, fun h => by cases h⟩
  rw [← h2, h6]
  exact hs
/-- A call in order. -/
theorem callB_seq (hr : KRunOK E B run) (hE : KOk E) {lo : Nat} {fid : FuncId} {l : List KV} {zm : KZ} {nx mx : Nat} {K : KO} (h : callB E run false lo fid l zm nx mx K) (hmb : MB (am zm) nx) (hlo : lo ≤ nx) :
    (∃ fn, E.P.funcs[fid]? = some fn ∧ (fn.name == "runtime.NumGoroutine") = false ∧ fn.body.isNone = false) ∧ ∃ v zm' nx' mx' up rd al, K v zm' nx' mx' up rd al ∧ KFin lo zm nx mx zm' nx' mx' ∧ GCall E.P B fid (l.map KV.v) (am zm) nx v.v (am zm') nx' mx' := by
  have h0 : callR E run (@Nat.rec (fun _ => Nat) lo (fun _ _ => nx) (E.md fid)) fid l zm nx mx (callM (E.md fid) zm nx K) := h
  cases hm : E.md fid with
  | zero =>
    rw [hm] at h0
    obtain ⟨hf, v, zm', nx', mx', h1, h2, h3⟩ := callR_s hr hE h0 hmb hlo
    exact ⟨hf, v, zm', nx', mx', [], [], true, h1, h2, h3⟩
  | succ m =>
    rw [hm] at h0
    obtain ⟨hf, v, zm', nx', mx', h1, h2, h3⟩ := callR_s hr hE h0 hmb (Nat.le_refl nx)
    obtain ⟨h4, h5⟩ := chk_inv (show chk (kbel nx v) 173 (fN (maxN nx' mx') fun mx => K v zm nx mx [] [] true) from h1)
    rw [fN_eq] at h5
    have hmax := maxN_le nx' mx'
    exact ⟨hf, v, zm, nx, _, [], [], true, h5, ⟨hmb, Nat.le_refl _, by have := h2.mx; omega, fun _ _ => rfl⟩, h3.reset hE.gn hmb h2.low (kbel_s nx v h4).1 h2.nx hmax.1 hmax.2⟩
theorem call_name {P : Program} {fid : FuncId} {μ μ' : Mem} {nx nx' mx' : Nat} {o : Oper} {f : Operand} {args : Array Operand} {ts : Array TypeId} {τ : Nat → V} {caps v : V} (ho : o.op = .call ⟨.value f, args, ts⟩) (hf : opv Gl.G τ f = .fn fid caps)
    (hfn : ∃ fn, P.funcs[fid]? = some fn ∧ (fn.name == "runtime.NumGoroutine") = false ∧ fn.body.isNone = false) (h : GCall P B fid (args.toList.map (opv Gl.G τ) ++ unL caps) μ nx v μ' nx' mx') : GDoes P B o τ μ nx v μ' nx' mx' := by
  obtain ⟨fn, h1, h2, h3⟩ := hfn
  exact GCall.does ho hf h1 h2 h3 h
theorem args_v {τ : Nat → KV} {args : Array Operand} {cs : List KV} {caps : KV} (hc : cs.map KV.v = unL caps.v) : ((args.toList.map (kev τ)) ++ cs).map KV.v = args.toList.map (opv Gl.G (tv' τ)) ++ unL caps.v := by
  rw [List.map_append, map_kev, hc]
theorem callF_seq (hr : KRunOK E B run) (hE : KOk E) {o : Oper} {f : Operand} {args : Array Operand} {ts : Array TypeId} {τ : Nat → KV} {lo : Nat} {fid : FuncId} {caps : KV} {zm : KZ} {nx mx : Nat} {K : KO} (ho : o.op = .call ⟨.value f, args, ts⟩) (hf : kev τ f = .fn fid caps)
    (h : callF E run false lo (args.toList.map (kev τ)) zm nx mx K fid caps) (hmb : MB (am zm) nx) (hlo : lo ≤ nx) : SOut E B o τ lo zm nx mx K := by
  obtain ⟨cs, h1, h2⟩ := unLK_s caps _ h
  have h3 := appK_s _ _ _ h1
  have hfv : opv Gl.G (tv' τ) f = .fn fid caps.v := by rw [← kev_v, hf]; rfl
  have h4 : @Option.rec KSpec (fun _ => Prop) (callB E run false lo fid (args.toList.map (kev τ) ++ cs) zm nx mx K) (fun s => s (args.toList.map (kev τ) ++ cs) fun v => fV v fun v => K v zm nx mx [] [] false) (E.ct fid) := h3
  cases hc : E.ct fid with
  | none =>
    rw [hc] at h4
    obtain ⟨hfn, v, zm', nx', mx', up, rd, al, h5, h6, h7⟩ := callB_seq hr hE h4 hmb hlo
    rw [args_v h2] at h7
    exact ⟨v, zm', nx', mx', up, rd, al, h5, h6, call_name ho hfv hfn h7⟩
  | some s =>
    rw [hc] at h4
    obtain ⟨hfn, hs⟩ := hE.ct fid s hc
    obtain ⟨v, h5, h6⟩ := hs _ _ h4
    rw [fV_eq] at h5
    have h7 := h6 B (am zm) nx mx
    rw [args_v h2] at h7
    exact ⟨v, zm, nx, mx, [], [], false, h5, ⟨hmb, Nat.le_refl _, Nat.le_refl _, fun _ _ => rfl⟩, call_name ho hfv hfn h7⟩

/-! ### Operations in whatever order -/
omit [KGl] in
theorem emptyB (nx : Nat) : MB (fun _ => none) nx := fun _ _ => rfl
/-- What looks at nothing may be done beside whatever. -/
theorem GSt.iso {P : Program} {o : Oper} {τ : Nat → V} {μ μ1 μ' : Mem} {nx nx' : Nat} {v : V} {e : Eff} (h : GSt P B o τ (fun _ => none) μ1 nx nx' v [] [] e) (h1 : ∀ id, (id < nx ∨ nx' ≤ id) → μ id = none → μ' id = none)
    (h2 : MB μ nx → ∀ id b, μ' id = some b → (nx ≤ id ∧ id < nx' ∧ μ1 id = some b) ∨ (¬ (nx ≤ id ∧ id < nx') ∧ μ id = some b)) : GSt P B o τ μ μ' nx nx' v [] [] e := by
  have hup : e.up = [] := by
    have := h.ups
    cases hu : e.up with
    | nil => rfl
    | cons x l => rw [hu] at this; cases this
  refine ⟨h.val, h.nxt, h.ups, h.rds, (by rw [hup]; intro x hx; cases hx), h1, fun M _ => h.sem M (fun id b hb => by cases hb), fun hmb M hM id b hb => ?_⟩
  rcases h2 hmb id b hb with ⟨q1, q2, q3⟩ | ⟨q1, q2⟩
  · exact h.sub (emptyB nx) M (fun id b hb => by cases hb) id b q3
  · have hn := h.nxt
    have : touch e nx id = none := touch_none (by omega) (by rw [hup]; intro x hx; cases hx)
    simp only [put, this]
    exact hM id b q2
omit [KGl] in
theorem mergeK_s {zm1 : KZ} : ∀ (n i : Nat) (zm : KZ) (K : KZ → Prop), mergeK zm1 n i zm K → ∃ zm', K zm' ∧ ∀ id, am zm' id = if i ≤ id ∧ id < i + n then am zm1 id else am zm id
  | 0, i, zm, K, h => ⟨zm, h, fun id => by rw [if_neg (by omega)]⟩
  | n + 1, i, zm, K, h => by
    have h0 : setTK (kb zm1 i) (enc i) zm (fun zm => forceN (Nat.succ i) fun i => mergeK zm1 n i zm K) := h
    rw [setTK_eq, forceN_eq] at h0
    obtain ⟨zm', h1, h2⟩ := mergeK_s n (i + 1) _ K h0
    refine ⟨zm', h1, fun id => ?_⟩
    rw [h2]
    by_cases hi : i + 1 ≤ id ∧ id < i + 1 + n
    · rw [if_pos hi, if_pos (by omega)]
    · rw [if_neg hi]
      have hs : am (set (kb zm1 i) (enc i) zm) id = if id = i then am zm1 id else am zm id := by
        unfold am
        rw [kb_set]
        by_cases h3 : id = i
        · subst h3; simp
        · rw [if_neg h3, if_neg h3]
      rw [hs]
      by_cases h3 : id = i
      · rw [if_pos h3, if_pos (by omega)]
      · rw [if_neg h3, if_neg (by omega)]
theorem callF_drw (hr : KRunOK E B run) (hE : KOk E) {o : Oper} {f : Operand} {args : Array Operand} {ts : Array TypeId} {τ : Nat → KV} {lo : Nat} {fid : FuncId} {caps : KV} {zm : KZ} {nx mx : Nat} {K : KO} (ho : o.op = .call ⟨.value f, args, ts⟩) (hf : kev τ f = .fn fid caps)
    (h : callF E run true lo (args.toList.map (kev τ)) zm nx mx K fid caps) (hmb : MB (am zm) nx) (hlo : lo ≤ nx) : DOut E B o τ lo zm nx mx K := by
  obtain ⟨cs, h1, h2⟩ := unLK_s caps _ h
  have h3 := appK_s _ _ _ h1
  have hfv : opv Gl.G (tv' τ) f = .fn fid caps.v := by rw [← kev_v, hf]; rfl
  have h4 : @Option.rec KSpec (fun _ => Prop) (callB E run true lo fid (args.toList.map (kev τ) ++ cs) zm nx mx K) (fun s => s (args.toList.map (kev τ) ++ cs) fun v => fV v fun v => K v zm nx mx [] [] false) (E.ct fid) := h3
  generalize hl : args.toList.map (kev τ) ++ cs = l at h4
  have hargs : l.map KV.v = args.toList.map (opv Gl.G (tv' τ)) ++ unL caps.v := by rw [← hl]; exact args_v h2
  cases hc : E.ct fid with
  | some s =>
    rw [hc] at h4
    obtain ⟨hfn, hs⟩ := hE.ct fid s hc
    obtain ⟨v, h5, h6⟩ := hs _ _ h4
    rw [fV_eq] at h5
    have h7 := h6 B (fun _ => none) nx 0
    rw [hargs] at h7
    have h8 := (call_name ho hfv hfn h7).st (emptyB nx) (emptyB nx) (fun _ _ => rfl) (Nat.le_refl _) (Nat.zero_le _)
    have hd : dom (fun _ => none) nx = [] := by simp [dom]
    rw [hd] at h8
    exact ⟨v, zm, nx, mx, [], [], false, h5, ⟨hmb, Nat.le_refl _, Nat.le_refl _, fun _ _ => rfl⟩, [], _, h8.iso (fun _ _ h => h) (fun _ id b hb => .inr ⟨by omega, hb⟩), fun _ => rfl, fun h => by cases h⟩
  | none =>
    rw [hc] at h4
    have h5 : @Bool.rec (fun _ => Prop) (callR E run nx fid l zm nx mx (callD (E.md fid) zm K)) (callR E run nx fid l .e nx mx (callI (E.md fid) zm nx K)) (allBel l) := h4
    cases hb : allBel l with
    | false =>
      rw [hb] at h5
      obtain ⟨hfn, v, zm', nx1, mx1, h6, h7, h8⟩ := callR_s hr hE h5 hmb (Nat.le_refl nx)
      have h9 : fN (maxN nx1 mx1) (fun nx => @Nat.rec (fun _ => Prop) (K v zm' nx nx [] [] true) (fun _ _ => K v zm nx nx [] [] true) (E.md fid)) := h6
      rw [fN_eq] at h9
      have hmax := maxN_le nx1 mx1
      generalize maxN nx1 mx1 = nx2 at h9 hmax
      rw [hargs] at h8
      have h10 := (call_name ho hfv hfn h8).imp (Imp.refl _) (MImp.refl _) hmax.1 (mx2 := nx2) hmax.2
      have hmb2 : MB (am zm') nx2 := fun id hid => h7.mb id (by omega)
      have h11 := h10.st hmb hmb2 h7.low (by have := h7.nx; omega) (Nat.le_refl _)
      have hle : nx ≤ nx2 ∧ mx ≤ nx2 := ⟨by have := h7.nx; omega, by have := h7.mx; omega⟩
      cases hm : E.md fid with
      | zero =>
        rw [hm] at h9
        exact ⟨v, zm', nx2, nx2, [], [], true, h9, ⟨hmb2, hle.1, hle.2, fun id hid => h7.low id (by omega)⟩, _, _, h11, (fun h => by cases h), fun _ id hid => dom_lt hid⟩
      | succ m =>
        rw [hm] at h9
        have h12 : GSt E.P B o (tv' τ) (am zm) (am zm) nx nx2 v.v [] (dom (am zm) nx) ⟨v.v, [], newL (am zm') nx nx2, dom (am zm) nx⟩ := by
          refine ⟨h11.val, h11.nxt, h11.ups, h11.rds, h11.upk, fun _ _ h => h, h11.sem, fun hm1 M hM id b hb' => ?_⟩
          have hid : id < nx := by
            rcases Nat.lt_or_ge id nx with q | q
            · exact q
            · rw [hm1 id q] at hb'; cases hb'
          exact h11.sub hm1 M hM id b (by rw [h7.low id hid]; exact hb')
        exact ⟨v, zm, nx2, nx2, [], [], true, h9, ⟨fun id hid => hmb id (by omega), hle.1, hle.2, fun _ _ => rfl⟩, _, _, h12, (fun h => by cases h), fun _ id hid => dom_lt hid⟩
    | true =>
      rw [hb] at h5
      have hme : MB (am (.e : KZ)) nx := by rw [am_e]; exact emptyB nx
      obtain ⟨hfn, v, zm', nx1, mx1, h6, h7, h8⟩ := callR_s hr hE h5 hme (Nat.le_refl nx)
      have h9 : fN (maxN nx1 mx1) (fun nx' => @Nat.rec (fun _ => Prop) (mergeK zm' (Nat.sub nx' nx) nx zm fun zm => K v zm nx' nx' [] [] false) (fun _ _ => K v zm nx' nx' [] [] false) (E.md fid)) := h6
      rw [fN_eq] at h9
      have hmax := maxN_le nx1 mx1
      generalize maxN nx1 mx1 = nx2 at h9 hmax
      rw [hargs] at h8
      have h10 := (call_name ho hfv hfn h8).imp (Imp.refl _) (MImp.refl _) hmax.1 (mx2 := nx2) hmax.2
      have hmb2 : MB (am zm') nx2 := fun id hid => h7.mb id (by omega)
      have hle : nx ≤ nx2 ∧ mx ≤ nx2 := ⟨by have := h7.nx; omega, by have := h7.mx; omega⟩
      have h11 := h10.st hme hmb2 h7.low hle.1 (Nat.le_refl _)
      rw [am_e] at h11
      have hd : dom (fun _ => none) nx = [] := by simp [dom]
      rw [hd] at h11
      cases hm : E.md fid with
      | zero =>
        rw [hm] at h9
        obtain ⟨zm2, h12, h13⟩ := mergeK_s _ _ _ _ (show mergeK zm' (nx2 - nx) nx zm (fun zm => K v zm nx2 nx2 [] [] false) from h9)
        have h14 : ∀ id, am zm2 id = if nx ≤ id ∧ id < nx2 then am zm' id else am zm id := fun id => by
          rw [h13]
          by_cases hi : nx ≤ id ∧ id < nx2
          · rw [if_pos hi, if_pos (by omega)]
          · rw [if_neg hi, if_neg (by omega)]
        refine ⟨v, zm2, nx2, nx2, [], [], false, h12, ⟨fun id hid => ?_, hle.1, hle.2, fun id hid => ?_⟩, [], _, h11.iso (fun id hid hn => ?_) (fun _ id b hb' => ?_), fun _ => rfl, fun h => by cases h⟩
        · rw [h14, if_neg (by omega)]; exact hmb id (by omega)
        · rw [h14, if_neg (by omega)]
        · rw [h14, if_neg (by omega)]; exact hn
        · rw [h14] at hb'
          by_cases hi : nx ≤ id ∧ id < nx2
          · rw [if_pos hi] at hb'; exact .inl ⟨hi.1, hi.2, hb'⟩
          · rw [if_neg hi] at hb'; exact .inr ⟨hi, hb'⟩
      | succ m =>
        rw [hm] at h9
        refine ⟨v, zm, nx2, nx2, [], [], false, h9, ⟨fun id hid => hmb id (by omega), hle.1, hle.2, fun _ _ => rfl⟩, [], _, h11.iso (fun id hid hn => hn) (fun hm1 id b hb' => ?_), fun _ => rfl, fun h => by cases h⟩
        refine .inr ⟨fun hc => ?_, hb'⟩
        rw [hm1 id hc.1] at hb'; cases hb'
end
end
end Go.K
