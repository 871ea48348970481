/- The run is right: calls, operations. No condition. -/
import Derived.Test.YtfpmealbbibhpaaGreatDoorK10
set_option linter.unusedVariables false
set_option linter.unusedSimpArgs false
set_option linter.constructorNameAsVariable false
namespace Go.K
open Go.Ab Go.RowKit Go.Y
noncomputable section
variable [KGl]
structure KFin (lo : Nat) (zm : KZ) (nx mx : Nat) (zm' : KZ) (nx' mx' : Nat) : Prop where
  mb : MB (am zm') nx'
  nx : nx ≤ nx'
  mx : mx ≤ mx'
  low : ∀ id, id < lo → am zm' id = am zm id
omit [KGl] in
theorem KFin.trans {lo nx mx nx' mx' nx2 mx2 : Nat} {zm zm' zm2 : KZ} (h : KFin lo zm nx mx zm' nx' mx') (k : KFin lo zm' nx' mx' zm2 nx2 mx2) : KFin lo zm nx mx zm2 nx2 mx2 :=
  ⟨k.mb, Nat.le_trans h.nx k.nx, Nat.le_trans h.mx k.mx, fun id hid => (k.low id hid).trans (h.low id hid)⟩
def KRunOK (E : KEnv) (B : Nat) (r : RUN) : Prop := ∀ (mask lo : Nat) (c : Code) (tr : KTm) (zm : KZ) (nx mx : Nat) (K : K3) (N : Nat), r mask lo c tr zm nx mx K → cOk N c = true → MB (am zm) nx → lo ≤ nx → INV mask tr →
  ∃ e tr' zm' nx' mx', K e tr' zm' nx' mx' ∧ KFin lo zm nx mx zm' nx' mx' ∧ INV mask tr' ∧ GRuns E.P B c (tv' (tget tr)) (am zm) nx N e (tv' (tget tr')) (am zm') nx' mx'
def KCS (P : Program) (fid : FuncId) (s : KSpec) : Prop := (∃ fn, P.funcs[fid]? = some fn ∧ (fn.name == "runtime.NumGoroutine") = false ∧ fn.body.isNone = false) ∧
  ∀ (l : List KV) (K : KV → Prop), s l K → ∃ v, K v ∧ ∀ B μ nx mx l0, Lend B μ l0 (l.map KV.v) → GCall P B fid l0 μ nx v.v μ nx mx
def KCSb (P : Program) (fid : FuncId) (s : KSpec) : Prop := (∃ fn, P.funcs[fid]? = some fn ∧ (fn.name == "runtime.NumGoroutine") = false ∧ fn.body.isNone = false) ∧
  ∀ (l : List KV) (K : KV → Prop), s l K → ∃ v, K v ∧ (allBel l = true → ∀ B μ nx mx, GCall P B fid (l.map KV.v) μ nx v.v μ nx mx)
def AsOk (P : Program) (f T PT : Nat) : Prop := (∃ fn, P.funcs[f]? = some fn ∧ (fn.name == "runtime.NumGoroutine") = false ∧ fn.body.isNone = false) ∧
  ∀ (B : Nat) (μ : Mem) (nx mx id : Nat) (s : Shape) (x y : V), μ id = some ⟨.box T, s, y⟩ → tshape P T = some s → x.fits s = true → x.known = true →
    GCall P B f [.fn (T + 2147483649) (.cons x .nl), .fn (PT + 2147483649) (.cons (.ptr id [] s) .nl)] μ nx (.bool true) (upd μ id (some ⟨.box T, s, x⟩)) nx mx
structure KOk (E : KEnv) : Prop where
  fns : FnsOk E.P
  ct : ∀ f s, E.ct f = some s → KCS E.P f s
  gn : ∀ g, noId (Gl.G g) = true
  mixed : E.P.follows .mixedOrders = true
  ex : ∀ f, E.ex f = true → NoEsc E.P f
  cb : ∀ f s, E.cb f = some s → KCSb E.P f s := by intro f s h; cases h
  as : ∀ f T PT, E.as f = some (T, PT) → AsOk E.P f T PT := by intro f T PT h; cases h
section
variable {E : KEnv} {B : Nat} {run : RUN}
omit [KGl] in
theorem fnB_s {P : Program} {fid : FuncId} {x : Code × List ResultVar} (h : fnB P fid = some x) : ∃ fn, P.funcs[fid]? = some fn ∧ fn.body = some x.1 ∧ x.2 = fn.results.toList := by
  unfold fnB at h
  split at h
  · rename_i fn hf
    split at h
    · rename_i c hc
      cases h
      exact ⟨fn, hf, hc, rfl⟩
    · cases h
  · cases h
theorem callR_s (hr : KRunOK E B run) (hE : KOk E) {lo : Nat} {fid : FuncId} {l : List KV} {zm : KZ} {nx mx : Nat} {K : KV → KZ → Nat → Nat → Prop} (h : callR E run lo fid l zm nx mx K) (hmb : MB (am zm) nx) (hlo : lo ≤ nx) :
    (∃ fn, E.P.funcs[fid]? = some fn ∧ (fn.name == "runtime.NumGoroutine") = false ∧ fn.body.isNone = false) ∧ ∃ v zm' nx' mx', K v zm' nx' mx' ∧ KFin lo zm nx mx zm' nx' mx' ∧ GCall E.P B fid (l.map KV.v) (am zm) nx v.v (am zm') nx' mx' := by
  obtain ⟨⟨c, rs⟩, h1, h2⟩ := os_inv h
  obtain ⟨fn, hfn, hb, hrs⟩ := fnB_s h1
  obtain ⟨hname, hcode⟩ := hE.fns.get hfn
  obtain ⟨tr, h3, h4⟩ := bindA_s l 0 .e _ (show bindA (E.km fid) l 0 .e (fun tr => run (E.km fid) lo c tr zm nx mx (retK E.P rs K)) from h2)
  have hinv : INV (E.km fid) tr := fun t ht => by
    rcases h4 t with h | ⟨h, _⟩
    · rw [h, tget_e]; rfl
    · rw [ht] at h; cases h
  have hco : cOk ((l.map KV.v).length + (fn.ntmps - (l.map KV.v).length)) c = true := cOk_mono (by omega) (hcode c hb)
  obtain ⟨e, tr', zm', nx', mx', h5, h6, _, h7⟩ := hr _ _ _ _ _ _ _ _ _ h3 hco hmb hlo hinv
  obtain ⟨he, v, h8, h9⟩ := retK_s h5
  refine ⟨⟨fn, hfn, hname, by rw [hb]; rfl⟩, v, zm', nx', mx', h8, h6, GCall.body hfn hb ?_ h7 he (by rw [← hrs]; exact h9)⟩
  intro t x C hx
  show R C (tget tr t).v (.val x)
  rcases h4 t with h | ⟨_, _, h10, h11⟩
  · rw [h, tget_e]; trivial
  · rw [h11, Nat.sub_zero]
    unfold argT at hx
    rw [Nat.zero_add] at h10
    rw [if_pos (by simpa using h10)] at hx
    have : (l.map KV.v).getD t .unk = (l.getD t .unk).v := by
      rw [List.getD_eq_getElem?_getD, List.getD_eq_getElem?_getD, List.getElem?_map, List.getElem?_eq_getElem h10]; rfl
    rw [this] at hx
    exact hx
omit [KGl] in
theorem unLK_s (l : KV) : ∀ (K : List KV → Prop), unLK l K → ∃ r, K r ∧ r.map KV.v = unL l.v := by
  induction l with
  | cons a b ih1 ih2 =>
    intro K h
    obtain ⟨r, h1, h2⟩ := ih2 _ (show unLK b (fun l => K (a :: l)) from h)
    exact ⟨_, h1, by rw [List.map_cons, h2]; rfl⟩
  | _ => intro K h; exact ⟨[], h, rfl⟩
omit [KGl] in
theorem appK_s : ∀ (l r : List KV) (K : List KV → Prop), appK l r K → K (l ++ r)
  | [], r, K, h => h
  | x :: l, r, K, h => appK_s l r _ (show appK l r (fun r => K (x :: r)) from h)
omit [KGl] in
theorem maxN_le (a b : Nat) : a ≤ maxN a b ∧ b ≤ maxN a b := by
  unfold maxN
  cases h : Nat.ble a b with
  | true => have := Nat.le_of_ble_eq_true h; exact ⟨this, Nat.le_refl _⟩
  | false => have : ¬ a ≤ b := fun h1 => by rw [Nat.ble_eq_true_of_le h1] at h; cases h
             exact ⟨Nat.le_refl _, by show b ≤ a; omega⟩
def SOut (E : KEnv) (B : Nat) (o : Oper) (τ : Nat → KV) (lo : Nat) (zm : KZ) (nx mx : Nat) (K : KO) : Prop :=
  ∃ v zm' nx' mx' up rd al, K v zm' nx' mx' up rd al ∧ KFin lo zm nx mx zm' nx' mx' ∧ GOp E.P B o (tv' τ) (am zm) nx v.v (am zm') nx' mx'
def DOut (E : KEnv) (B : Nat) (o : Oper) (τ : Nat → KV) (lo : Nat) (zm : KZ) (nx mx : Nat) (K : KO) : Prop :=
  ∃ v zm' nx' mx' up rd al, K v zm' nx' mx' up rd al ∧ KFin lo zm nx mx zm' nx' mx' ∧ ∃ rd' e, GSt E.P B o (tv' τ) (am zm) (am zm') nx nx' v.v up rd' e ∧ (al = false → rd' = rd) ∧ (al = true → ∀ id ∈ rd', id < nx)
omit [KGl] in
theorem put_low {m : Mem} {n lo : Nat} {e : Eff} (h1 : lo ≤ n) (h2 : ∀ id ∈ e.up.map (·.1), lo ≤ id) (id : Nat) (hid : id < lo) : put m n e id = m id := by
  have : touch e n id = none := touch_none (.inl (by omega)) fun x hx e1 => by
    have := h2 x.1 (List.mem_map_of_mem hx)
    omega
  simp only [put, this]
theorem Out.seq {o : Oper} {τ : Nat → KV} {lo : Nat} {zm : KZ} {nx mx : Nat} {K : KO} (h : Out E.P B o τ lo zm nx (sK mx K)) (hmb : MB (am zm) nx) (hlo : lo ≤ nx) : SOut E B o τ lo zm nx mx K := by
  obtain ⟨v, zm', nx', up, rd, e, h1, h2, rfl, rfl, rfl, h6, h7, h8, h9⟩ := h
  have hs := GSt.of h7 h8
  have hm := hs.mb hmb
  rw [← h6] at hm
  refine ⟨v, zm', _, mx, _, _, false, h1, ⟨hm, by omega, Nat.le_refl _, fun id hid => by rw [h6]; exact put_low hlo h9 id hid⟩, ?_⟩
  rw [← h2, h6]
  exact (hs.does hmb mx).op
theorem Out.drw {o : Oper} {τ : Nat → KV} {lo : Nat} {zm : KZ} {nx mx : Nat} {K : KO} (h : Out E.P B o τ lo zm nx (sK mx K)) (hmb : MB (am zm) nx) (hlo : lo ≤ nx) : DOut E B o τ lo zm nx mx K := by
  obtain ⟨v, zm', nx', up, rd, e, h1, h2, rfl, rfl, rfl, h6, h7, h8, h9⟩ := h
  have hs := GSt.of h7 h8
  have hm := hs.mb hmb
  rw [← h6] at hm
  refine ⟨v, zm', _, mx, _, _, false, h1, ⟨hm, by omega, Nat.le_refl _, fun id hid => by rw [h6]; exact put_low hlo h9 id hid⟩, e.rd, e, ?_, fun _ => rfl, fun h => by cases h⟩
  rw [← h2, h6]
  exact hs
theorem callB_seq (hr : KRunOK E B run) (hE : KOk E) {lo : Nat} {fid : FuncId} {l : List KV} {zm : KZ} {nx mx : Nat} {K : KO} (h : callB E run false lo fid l zm nx mx K) (hmb : MB (am zm) nx) (hlo : lo ≤ nx) :
    (∃ fn, E.P.funcs[fid]? = some fn ∧ (fn.name == "runtime.NumGoroutine") = false ∧ fn.body.isNone = false) ∧ ∃ v zm' nx' mx' up rd al, K v zm' nx' mx' up rd al ∧ KFin lo zm nx mx zm' nx' mx' ∧ GCall E.P B fid (l.map KV.v) (am zm) nx v.v (am zm') nx' mx' := by
  have h0 : callR E run (@Nat.rec (fun _ => Nat) lo (fun _ _ => nx) (m0 (E.md fid))) fid l zm nx mx (callM (m0 (E.md fid)) zm nx K) := h
  cases hm : m0 (E.md fid) with
  | zero =>
    rw [hm] at h0
    obtain ⟨hf, v, zm', nx', mx', h1, h2, h3⟩ := callR_s hr hE h0 hmb hlo
    exact ⟨hf, v, zm', nx', mx', [], [], true, h1, h2, h3⟩
  | succ m =>
    rw [hm] at h0
    obtain ⟨hf, v, zm', nx', mx', h1, h2, h3⟩ := callR_s hr hE h0 hmb (Nat.le_refl nx)
    obtain ⟨h4, h5⟩ := chk_inv (show chk (kbel nx v) 173 (fN (maxN nx' mx') fun mx => K v zm nx mx [] [] true) from h1)
    rw [fN_eq] at h5
    have hmax := maxN_le nx' mx'
    exact ⟨hf, v, zm, nx, _, [], [], true, h5, ⟨hmb, Nat.le_refl _, by have := h2.mx; omega, fun _ _ => rfl⟩, h3.reset hE.gn hmb h2.low (kbel_s nx v h4).1 h2.nx hmax.1 hmax.2⟩
theorem call_name {P : Program} {fid : FuncId} {μ μ' : Mem} {nx nx' mx' : Nat} {o : Oper} {f : Operand} {args : Array Operand} {ts : Array TypeId} {τ : Nat → V} {L : List V} {v : V} (ho : o.op = .call ⟨.value f, args, ts⟩) (hf : FnArgs τ f args fid L)
    (hfn : ∃ fn, P.funcs[fid]? = some fn ∧ (fn.name == "runtime.NumGoroutine") = false ∧ fn.body.isNone = false) (h : GCall P B fid L μ nx v μ' nx' mx') : GDoes P B o τ μ nx v μ' nx' mx' := by
  obtain ⟨fn, h1, h2, h3⟩ := hfn
  exact GCall.does ho hf h1 h2 h3 h
theorem args_v {τ : Nat → KV} {args : Array Operand} {cs : List KV} {caps : KV} (hc : cs.map KV.v = unL caps.v) : ((args.toList.map (kev τ)) ++ cs).map KV.v = args.toList.map (opv Gl.G (tv' τ)) ++ unL caps.v := by
  rw [List.map_append, map_kev, hc]
omit [KGl] in
theorem R.bel0 {C : Ctx} {B : Nat} {v : V} {m : M} (hb : v.bel 0) (h : R C v m) : R (C.opened B) v m :=
  R.keep (C := C.cut 0) (C' := C.opened B) ⟨fun id h => absurd h.2 (Nat.not_lt_zero _), fun id h => absurd h.2 (Nat.not_lt_zero _), fun id h => absurd h.2 (Nat.not_lt_zero _), fun _ _ h => .inl h, fun _ _ _ => rfl⟩ _ _ (R.cut v hb h)
omit [KGl] in
theorem capB_eq (cap : Option Nat) (len : Nat) : capB cap len = capIs cap len := by cases cap <;> rfl
omit [KGl] in
theorem arZ_s {c : KV} {n : Nat} {f : Nat → V} (h : arK c = true) (hv : c.v = .arr n f) : arZ c = n := by
  unfold arK at h
  unfold arZ
  split at h
  · rw [v_pk] at hv; cases hv; rfl
  · rw [v_ar] at hv; cases hv; rfl
  · cases h
theorem lendX_s {zm : KZ} {x : KV} {K : KV → Prop} (h : lendX zm x K) : ∃ y, K y ∧ ∀ (B : Nat) (C : Ctx) (M : Mem) (m : Ab.M), SR B C M → Sub (am zm) M → R C x.v m → R (C.opened B) y.v m := by
  rcases onSl_inv h with ⟨id, p, e, off, len, cap, rfl, h1⟩ | ⟨_, h1⟩
  · obtain ⟨kd, sh, v, hb, h2⟩ := oB_inv h1
    rw [fV_eq] at h2
    obtain ⟨h3, h4⟩ := chk_inv h2
    simp only [nd_iff] at h3
    obtain ⟨q1, q2, q3, hpo, q4⟩ := h3
    obtain ⟨n, f, hf, hf'⟩ := arK_s q2
    have hn := arZ_s q2 hf
    rw [hn] at q4
    have q4 := Nat.le_of_ble_eq_true q4
    have hbel := (kbel_s 0 _ q3).1
    rw [hf] at hbel
    refine ⟨_, h4, fun B C M m hs hsub hr => ?_⟩
    rw [kpath_v p v hpo] at hf
    have hz := R.sl_ro (B := B) (g := fun v => v) hs (hsub _ _ (am_some hb)) (by rw [KBlk.b, isAl_eq]; exact q1) hf (fun i hi md hr => R.bel0 (hbel (off + i) (by have : Nat.add off len = off + len := rfl; omega)) hr) hr
    rw [v_ro, capB_eq]
    have : (fun i => (kpath p v).v.step (.idx (off + i))) = fun i => f (off + i) := by
      funext i
      rw [hf', kidx_v]
    rw [this]
    exact hz
  rcases onRow_inv h1 with ⟨id, e, len, rfl, g1⟩ | ⟨_, h1⟩
  · obtain ⟨kd, sh, v, hb, h2⟩ := oB_inv g1
    obtain ⟨h3, h4⟩ := chk_inv h2
    simp only [nd_iff] at h3
    obtain ⟨q1, q2, q3, q4⟩ := h3
    obtain ⟨n, f, hf, hf'⟩ := arK_s q2
    have hn := arZ_s q2 hf
    rw [hn] at q4
    have q4 := Nat.le_of_ble_eq_true q4
    have hbel := (kbel_s 0 _ q3).1
    rw [hf] at hbel
    refine ⟨_, h4, fun B C M m hs hsub hr => ?_⟩
    have hz := R.row_ro (B := B) (g := fun v => v) hs (hsub _ _ (am_some hb)) (by rw [KBlk.b, isAl_eq]; exact q1) (by rw [KBlk.b]; exact hf) (fun i hi md hr => R.bel0 (hbel i (by omega)) hr) hr
    rw [v_ro]
    have : (fun i => v.v.step (.idx (0 + i))) = fun i => f i := by
      funext i
      rw [hf', kidx_v, Nat.zero_add]
    rw [this]
    exact hz
  rcases onPtr_inv h1 with ⟨id, p, s, rfl, g1⟩ | ⟨_, h1⟩
  · obtain ⟨kd, sh, v, hb, h2⟩ := oB_inv g1
    rw [fV_eq] at h2
    obtain ⟨h3, h4⟩ := chk_inv h2
    simp only [nd_iff] at h3
    obtain ⟨q1, hpo, q3⟩ := h3
    have hbel := (kbel_s 0 _ q3).1
    rw [kpath_v p v hpo] at hbel
    refine ⟨_, h4, fun B C M m hs hsub hr => ?_⟩
    have hz := R.ptr_ref (B := B) (g := fun v => v) hs (hsub _ _ (am_some hb)) (by rw [KBlk.b, isAl_eq]; exact q1) (fun md hr => R.bel0 hbel hr) hr
    show R (C.opened B) (.ref false s (kpath p v).v) m
    rw [kpath_v p v hpo]
    exact hz
  · exact h1.elim
omit [KGl] in
theorem R.cons_mapL {C D : Ctx} {a b a' b' : V} (h1 : ∀ m, R C a m → R D a' m) (h2 : ∀ m, R C b m → R D b' m) {m : Ab.M} (h : R C (.cons a b) m) : R D (.cons a' b') m := by
  cases m with
  | cel s g off => obtain ⟨a, b, q1, q2, q3⟩ := h; exact ⟨a, b, q1, h1 _ q2, h2 _ q3⟩
  | val v => obtain ⟨cs, a, b, q1, q2, q3, q4⟩ := h; exact ⟨cs, a, b, q1, q2, h1 _ q3, h2 _ q4⟩
  | list l => obtain ⟨y, ys, q1, q2, q3⟩ := h; exact ⟨y, ys, q1, h1 _ q2, h2 _ q3⟩
theorem lendN_s {zm : KZ} : ∀ (k : Nat) (x : KV) {K : KV → Prop}, lendN zm k x K → ∃ y, K y ∧ ∀ (B : Nat) (C : Ctx) (M : Mem) (m : Ab.M), SR B C M → Sub (am zm) M → R C x.v m → R (C.opened B) y.v m
  | 0, x, K, h => (show BadN 224 from h).elim
  | k + 1, x, K, h => by
    have h0 : @Bool.rec (fun _ => Prop) (onCons (fun a b => lendN zm k a fun a => lendN zm k b fun b => K (.cons a b)) (lendX zm x K) x) (K x) (kbel 0 x) := h
    cases hx : kbel 0 x with
    | true =>
      rw [hx] at h0
      exact ⟨x, h0, fun B C M m _ _ hr => R.bel0 (kbel_s 0 _ hx).1 hr⟩
    | false =>
      rw [hx] at h0
      rcases onCons_inv h0 with ⟨a, b, rfl, h1⟩ | ⟨_, h1⟩
      · obtain ⟨a', h2, h3⟩ := lendN_s k a h1
        obtain ⟨b', h4, h5⟩ := lendN_s k b h2
        exact ⟨_, h4, fun B C M m hs hsub hr => R.cons_mapL (fun m h => h3 B C M m hs hsub h) (fun m h => h5 B C M m hs hsub h) hr⟩
      · exact lendX_s h1
theorem lendL_s {zm : KZ} : ∀ (l : List KV) {K : List KV → Prop}, lendL zm l K → ∃ r, K r ∧ ∀ B, Lend B (am zm) (l.map KV.v) (r.map KV.v)
  | [], K, h => ⟨[], h, fun B C M vals _ _ hr => by rw [show vals = [] from hr]; exact rfl⟩
  | x :: l, K, h => by
    have h0 : @Bool.rec (fun _ => Prop) (lendN zm 60 x fun x => lendL zm l fun l => K (x :: l)) (lendL zm l fun l => K (x :: l)) (kbel 0 x) := h
    cases hx : kbel 0 x with
    | true =>
      rw [hx] at h0
      obtain ⟨r, h1, h2⟩ := lendL_s l (show lendL zm l fun l => K (x :: l) from h0)
      refine ⟨_, h1, fun B C M vals hs hsub hr => ?_⟩
      obtain ⟨v, vs, rfl, h3, h4⟩ := hr
      exact ⟨v, vs, rfl, R.bel0 (kbel_s 0 _ hx).1 h3, h2 B C M vs hs hsub h4⟩
    | false =>
      rw [hx] at h0
      obtain ⟨y, h5, h6⟩ := lendN_s 60 x (show lendN zm 60 x fun x => lendL zm l fun l => K (x :: l) from h0)
      obtain ⟨r, h1, h2⟩ := lendL_s l h5
      refine ⟨_, h1, fun B C M vals hs hsub hr => ?_⟩
      obtain ⟨v, vs, rfl, h3, h4⟩ := hr
      exact ⟨v, vs, rfl, h6 B C M _ hs hsub h3, h2 B C M vs hs hsub h4⟩
theorem lend_bel : ∀ (l : List KV), allBel l = true → ∀ B μ, Lend B μ (l.map KV.v) (l.map KV.v)
  | [], _, B, μ => fun C M vals _ _ hr => by rw [show vals = [] from hr]; exact rfl
  | x :: l, h, B, μ => fun C M vals hs hsub hr => by
    obtain ⟨q1, q2⟩ := nd_iff.1 (show nd (kbel 0 x) (allBel l) = true from h)
    obtain ⟨v, vs, rfl, h3, h4⟩ := hr
    exact ⟨v, vs, rfl, R.bel0 (kbel_s 0 _ q1).1 h3, lend_bel l q2 B μ C M vs hs hsub h4⟩
theorem callF_inv {dr : Bool} {f : Operand} {args : Array Operand} {τ : Nat → KV} {lo : Nat} {fid : FuncId} {caps : KV} {zm : KZ} {nx mx : Nat} {K : KO} (hf : kev τ f = .fn fid caps)
    (h : callF E run dr lo (args.toList.map (kev τ)) zm nx mx K fid caps) : ∃ fid l, FnArgs (tv' τ) f args fid (l.map KV.v) ∧ callL E run dr lo fid l zm nx mx K := by
  have hfv : opv Gl.G (tv' τ) f = .fn fid caps.v := by rw [← kev_v, hf]; rfl
  have h0 : @Bool.rec (fun _ => Prop) (chk (Nat.blt fid 2147483648) 247 <| onCons (fun x rest => onTup (fun first => unLK first fun fs => unLK rest fun cs => appK (args.toList.map (kev τ)) cs fun l => appK fs l fun l => fN (Nat.mod fid 1073741824) fun fid => callL E run dr lo fid l zm nx mx K) (BadN 248) x) (BadN 249) caps)
    (unLK caps fun cs => appK (args.toList.map (kev τ)) cs fun l => callL E run dr lo fid l zm nx mx K) (Nat.blt fid 1073741824) := h
  cases hb : Nat.blt fid 1073741824 with
  | true =>
    rw [hb] at h0
    rw [Nat.blt_eq] at hb
    obtain ⟨cs, h1, h2⟩ := unLK_s caps _ h0
    have h3 := appK_s _ _ _ h1
    refine ⟨fid, _, ?_, h3⟩
    rw [args_v h2]
    exact FnArgs.plain hfv hb
  | false =>
    rw [hb] at h0
    have hb : ¬ fid < 1073741824 := fun h => by
      have : Nat.blt fid 1073741824 = true := by rw [Nat.blt_eq]; exact h
      rw [this] at hb; cases hb
    obtain ⟨hb2, h0⟩ := chk_inv h0
    rw [Nat.blt_eq] at hb2
    obtain ⟨x, rest, rfl, h1⟩ := (onCons_inv h0).resolve_right fun h => (show BadN 249 from h.2).elim
    obtain ⟨first, rfl, h2⟩ := (onTup_inv h1).resolve_right fun h => (show BadN 248 from h.2).elim
    obtain ⟨fs, h3, h4⟩ := unLK_s first _ h2
    obtain ⟨cs, h5, h6⟩ := unLK_s rest _ h3
    have h7 := appK_s _ _ _ (appK_s _ _ _ h5)
    rw [fN_eq] at h7
    refine ⟨_, _, ?_, h7⟩
    rw [List.map_append, h4, args_v h6]
    exact FnArgs.meth hfv hb hb2
theorem callF_seq (hr : KRunOK E B run) (hE : KOk E) {o : Oper} {f : Operand} {args : Array Operand} {ts : Array TypeId} {τ : Nat → KV} {lo : Nat} {fid : FuncId} {caps : KV} {zm : KZ} {nx mx : Nat} {K : KO} (ho : o.op = .call ⟨.value f, args, ts⟩) (hf : kev τ f = .fn fid caps)
    (h : callF E run false lo (args.toList.map (kev τ)) zm nx mx K fid caps) (hmb : MB (am zm) nx) (hlo : lo ≤ nx) : SOut E B o τ lo zm nx mx K := by
  obtain ⟨fid, l, hfv, h3⟩ := callF_inv hf h
  have h4 : @Option.rec KSpec (fun _ => Prop) (@Option.rec KSpec (fun _ => Prop) (callB E run false lo fid l zm nx mx K) (callC l zm nx mx K) (ctU E fid l)) (callN l zm nx mx K) (ctB E fid l) := h3
  cases hcb : ctB E fid l with
  | some s =>
    rw [hcb] at h4
    obtain ⟨hq, hbl⟩ := ctB_s hcb
    obtain ⟨hfn, hs⟩ := hE.cb fid s hq
    obtain ⟨v, h5, h6⟩ := hs _ _ (show s l (fun v => fV v fun v => K v zm nx mx [] [] false) from h4)
    rw [fV_eq] at h5
    exact ⟨v, zm, nx, mx, [], [], false, h5, ⟨hmb, Nat.le_refl _, Nat.le_refl _, fun _ _ => rfl⟩, (call_name ho hfv hfn (h6 hbl B (am zm) nx mx)).op⟩
  | none =>
  rw [hcb] at h4
  replace h4 : @Option.rec KSpec (fun _ => Prop) (callB E run false lo fid l zm nx mx K) (callC l zm nx mx K) (ctU E fid l) := h4
  cases hc : ctU E fid l with
  | none =>
    rw [hc] at h4
    obtain ⟨hfn, v, zm', nx', mx', up, rd, al, h5, h6, h7⟩ := callB_seq hr hE h4 hmb hlo
    exact ⟨v, zm', nx', mx', up, rd, al, h5, h6, (call_name ho hfv hfn h7).op⟩
  | some s =>
    rw [hc] at h4
    obtain ⟨hfn, hs⟩ := hE.ct fid s (ctU_s hc)
    have h4 : @Bool.rec (fun _ => Prop) (lendL zm l fun l => s l fun v => fV v fun v => K v zm nx mx [] [] true) (s l fun v => fV v fun v => K v zm nx mx [] [] false) (allBel l) := h4
    cases hbl : allBel l with
    | true =>
      rw [hbl] at h4
      obtain ⟨v, h5, h6⟩ := hs _ _ h4
      rw [fV_eq] at h5
      have h7 := h6 B (am zm) nx mx _ (lend_bel _ hbl B (am zm))
      exact ⟨v, zm, nx, mx, [], [], false, h5, ⟨hmb, Nat.le_refl _, Nat.le_refl _, fun _ _ => rfl⟩, (call_name ho hfv hfn h7).op⟩
    | false =>
      rw [hbl] at h4
      obtain ⟨l', h41, h42⟩ := lendL_s _ h4
      obtain ⟨v, h5, h6⟩ := hs _ _ h41
      rw [fV_eq] at h5
      have h7 := h6 B (am zm) nx mx _ (h42 B)
      exact ⟨v, zm, nx, mx, [], [], true, h5, ⟨hmb, Nat.le_refl _, Nat.le_refl _, fun _ _ => rfl⟩, (call_name ho hfv hfn h7).op⟩
omit [KGl] in
theorem cOk_ex (c : Code) : ∃ n, cOk n c = true := by
  have hd : ∀ l : List Oper, ∃ n, (l.all fun o => dOk n o.dst) = true := by
    intro l
    induction l with
    | nil => exact ⟨0, rfl⟩
    | cons o l ih =>
      obtain ⟨n, hn⟩ := ih
      have hm : ∀ m, n ≤ m → (l.all fun o => dOk m o.dst) = true := fun m hm => List.all_eq_true.2 fun x hx => by
        have := List.all_eq_true.1 hn x hx
        cases hxd : x.dst with
        | none => rfl
        | some d => rw [hxd] at this; simp only [dOk, decide_eq_true_eq] at this ⊢; exact Nat.lt_of_lt_of_le this hm
      cases ho : o.dst with
      | none => exact ⟨n, by rw [List.all_cons, ho, hn]; rfl⟩
      | some d => exact ⟨n + d + 1, by rw [List.all_cons, ho, hm _ (Nat.le_trans (Nat.le_add_right n d) (Nat.le_succ _)), Bool.and_true]; exact decide_eq_true (Nat.lt_succ_of_le (Nat.le_add_left d n))⟩
  induction c with
  | region id ops draw => exact hd ops.toList
  | seq a b ih1 ih2 =>
    obtain ⟨n, hn⟩ := ih1; obtain ⟨m, hm⟩ := ih2
    exact ⟨n + m, by simp only [cOk, Bool.and_eq_true]; exact ⟨cOk_mono (by omega) hn, cOk_mono (by omega) hm⟩⟩
  | cond t a b ih1 ih2 =>
    obtain ⟨n, hn⟩ := ih1; obtain ⟨m, hm⟩ := ih2
    exact ⟨n + m, by simp only [cOk, Bool.and_eq_true]; exact ⟨cOk_mono (by omega) hn, cOk_mono (by omega) hm⟩⟩
  | block id c ih => exact ih
  | loop c ih => exact ih
  | scope c ih => exact ih
  | rangeFunc f ps a b ih1 ih2 =>
    obtain ⟨n, hn⟩ := ih1; obtain ⟨m, hm⟩ := ih2
    obtain ⟨k, hk⟩ : ∃ k, ∀ p ∈ ps.toList, p < k := by
      generalize ps.toList = l
      induction l with
      | nil => exact ⟨0, fun p hp => by cases hp⟩
      | cons q l ih =>
        obtain ⟨k, hk⟩ := ih
        refine ⟨k + q + 1, fun p hp => ?_⟩
        rcases List.mem_cons.1 hp with rfl | hp
        · exact Nat.lt_succ_of_le (Nat.le_add_left _ _)
        · exact Nat.lt_of_lt_of_le (hk p hp) (Nat.le_trans (Nat.le_add_right k q) (Nat.le_succ _))
    refine ⟨n + m + k, ?_⟩
    simp only [cOk, Bool.and_eq_true, List.all_eq_true, decide_eq_true_eq]
    exact ⟨fun p hp => Nat.lt_of_lt_of_le (hk p hp) (Nat.le_add_left _ _), cOk_mono (by omega) hn, cOk_mono (by omega) hm⟩
  | _ => exact ⟨0, rfl⟩
omit [KGl] in
theorem okR_nd (ps : Array Tmp) (a b : Code) : okR ps a b (ndR ps a b) := by
  obtain ⟨n, hn⟩ := cOk_ex (.rangeFunc (.tmp 0) ps a b)
  simp only [cOk, Bool.and_eq_true] at hn
  exact (ndR_s (n := n) ⟨hn.1, hn.2.1, hn.2.2⟩).2
omit [KGl] in
theorem toKV_v (p : Pth) (tr : KTm) : (toKV tr).atv p .unk = (get .unk p tr).v := by
  induction p generalizing tr with
  | nil => cases tr <;> rfl
  | cons g p ih =>
    cases tr with
    | e => rfl
    | m a b c d => cases g <;> exact ih _
    | n x a b c d => cases g <;> exact ih _
omit [KGl] in
theorem frKV_v : ∀ (p : Pth) (t : KV), (get .unk p (frKV t)).v = t.atv p .unk
  | [], t => by cases t <;> rfl
  | g :: p, t => by
    have ih := frKV_v p
    cases t with
    | tb a b c d => cases g <;> exact ih _
    | tn x a b c d => cases g <;> exact ih _
    | _ => rfl
omit [KGl] in
theorem unkB_s {d : KV} (h : unkB d = true) : d = .unk := by cases d <;> first | rfl | cases h
omit [KGl] in
theorem exK_s {e : Exit} {f : KV → Bool → Prop} (h : exK e f) : ∃ st b, f st b ∧ StE st.v e ∧ (b = true ↔ e = .normal) := by
  cases e with
  | normal => exact ⟨.nl, true, h, .inl ⟨rfl, rfl⟩, by simp⟩
  | ret => exact ⟨.bool true, false, h, .inr (.inl ⟨rfl, rfl⟩), by simp⟩
  | exit i => exact ⟨.int .i64 (.ofNat i), false, h, .inr (.inr ⟨i, rfl, rfl⟩), by simp⟩
  | _ => exact (show BadN 201 from h).elim
omit [KGl] in
theorem stK_s {st : KV} {f : Exit → Prop} (h : stK st f) : ∃ e, f e ∧ StE st.v e := by
  rcases onNl_inv h with ⟨rfl, h1⟩ | ⟨_, h1⟩
  · exact ⟨_, h1, .inl ⟨rfl, rfl⟩⟩
  · rcases onBool_inv h1 with ⟨b, rfl, h2⟩ | ⟨_, h2⟩
    · cases b with
      | true => exact ⟨_, h2, .inr (.inl ⟨rfl, rfl⟩)⟩
      | false => exact (show BadN 204 from h2).elim
    · rcases onInt_inv h2 with ⟨k, i, rfl, h3⟩ | ⟨_, h3⟩
      · obtain ⟨h4, h5⟩ := chk_inv h3
        obtain rfl := ikEq_eq h4
        cases i with
        | ofNat n => exact ⟨_, h5, .inr (.inr ⟨n, rfl, rfl⟩)⟩
        | negSucc n => exact (show BadN 206 from h5).elim
      · exact h3.elim
omit [KGl] in
theorem am_none {zm : KZ} {id : Nat} : am (set none (enc id) zm) = upd (am zm) id none := by
  funext i
  unfold am
  rw [kb_set]
  by_cases h : i = id
  · subst h; rw [if_pos rfl, upd_same]; rfl
  · rw [if_neg h, upd_other _ _ h]
theorem parsK_s {mask : Nat} : ∀ (ps : List Tmp) (l : List KV) (tr : KTm) (K : KTm → Prop), parsK mask ps l tr K → INV mask tr → ∃ tr', K tr' ∧ INV mask tr' ∧ parsR ps (l.map KV.v) (tv' (tget tr)) (tv' (tget tr')) ∧ l.length = ps.length
  | [], [], tr, K, h, hi => ⟨tr, h, hi, fun _ => rfl, rfl⟩
  | [], _ :: _, tr, K, h, hi => (show BadN 198 from h).elim
  | _ :: _, [], tr, K, h, hi => (show BadN 199 from h).elim
  | p :: ps, v :: l, tr, K, h, hi => by
    have h0 : @Bool.rec (fun _ => Prop) (parsK mask ps l tr K) (fV v fun v => setTK v (enc p) tr fun tr => parsK mask ps l tr K) (keepB mask p) := h
    cases hk : keepB mask p with
    | false =>
      rw [hk] at h0
      obtain ⟨tr', h1, h2, h3, h4⟩ := parsK_s ps l tr K h0 hi
      exact ⟨tr', h1, h2, ⟨tv' (tget tr), fun t => by
        by_cases e : t = p
        · subst e; exact .inl ⟨rfl, .inr (hi t hk)⟩
        · exact .inr ⟨e, rfl⟩, h3⟩, by simp [h4]⟩
    | true =>
      rw [hk] at h0
      have h0 : fV v (fun v => setTK v (enc p) tr fun tr => parsK mask ps l tr K) := h0
      rw [fV_eq, setTK_eq] at h0
      obtain ⟨tr', h1, h2, h3, h4⟩ := parsK_s ps l _ K h0 (fun t ht => by
        rw [tget_set]
        by_cases e : t = p
        · subst e; rw [hk] at ht; cases ht
        · rw [if_neg e]; exact hi t ht)
      refine ⟨tr', h1, h2, ⟨_, fun t => ?_, h3⟩, by simp [h4]⟩
      show (t = p ∧ ((tget (set v (enc p) tr) t).v = v.v ∨ _)) ∨ (t ≠ p ∧ (tget (set v (enc p) tr) t).v = _)
      rw [tget_set]
      by_cases e : t = p
      · subst e; rw [if_pos rfl]; exact .inl ⟨rfl, .inl rfl⟩
      · rw [if_neg e]; exact .inr ⟨e, rfl⟩
omit [KGl] in
theorem am_setS {zm : KZ} {b : KBlk} {id : Nat} : am (set (some b) (enc id) zm) = upd (am zm) id (some b.b) := am_set
omit [KGl] in
theorem invT_s {mask : Nat} : ∀ (p : Pth) (tr : KTm) (i w : Nat), invT mask tr i w = true → keepB mask (i + w * num p) = false → (get .unk p tr).v = .unk
  | [], tr, i, w, h, hk => by
    cases tr with
    | e => rfl
    | m a b c d => rfl
    | n x a b c d =>
      obtain ⟨h1, _⟩ := nd_iff.1 (show nd (@Bool.rec (fun _ => Bool) (unkB x) true (keepB mask i)) _ = true from h)
      rw [show i + w * num [] = i from by simp [num]] at hk
      rw [hk] at h1
      rw [show get .unk [] (Tr.n x a b c d) = x from rfl, unkB_s h1]; rfl
  | g :: p, tr, i, w, h, hk => by
    have hi : ∀ k, g.n = k → i + w * num (g :: p) = (i + (k + 1) * w) + 4 * w * num p := by
      rintro k rfl
      show i + w * (4 * num p + g.n + 1) = _
      rw [Nat.mul_add, Nat.mul_add, Nat.add_mul, ← Nat.mul_assoc, Nat.mul_comm w 4, Nat.mul_comm g.n w]; omega
    have four : ∀ {a b c d : KTm}, nd (invT mask a (Nat.add i w) (Nat.mul 4 w)) (nd (invT mask b (Nat.add i (Nat.mul 2 w)) (Nat.mul 4 w)) (nd (invT mask c (Nat.add i (Nat.mul 3 w)) (Nat.mul 4 w)) (invT mask d (Nat.add i (Nat.mul 4 w)) (Nat.mul 4 w)))) = true → (get .unk p (pick4 g a b c d)).v = .unk := by
      intro a b c d h
      simp only [nd_iff] at h
      obtain ⟨h1, h2, h3, h4⟩ := h
      cases g
      · exact invT_s p a _ _ h1 (by rw [hi 0 rfl] at hk; simpa using hk)
      · exact invT_s p b _ _ h2 (by rw [hi 1 rfl] at hk; simpa using hk)
      · exact invT_s p c _ _ h3 (by rw [hi 2 rfl] at hk; simpa using hk)
      · exact invT_s p d _ _ h4 (by rw [hi 3 rfl] at hk; simpa using hk)
    cases tr with
    | e => exact congrArg KV.v (get_e _ _)
    | m a b c d => exact four h
    | n x a b c d => exact four (nd_iff.1 (show nd (@Bool.rec (fun _ => Bool) (unkB x) true (keepB mask i)) _ = true from h)).2
omit [KGl] in
theorem INV.of {mask : Nat} {tr : KTm} (h : invT mask tr 0 1 = true) : INV mask tr := fun t ht => invT_s (enc t) tr 0 1 h (by rw [num_enc]; simpa using ht)
theorem callYl_seq (hr : KRunOK E B run) {o : Oper} {f : Operand} {args : Array Operand} {ts : Array TypeId} {τ : Nat → KV} {lo id : Nat} {zm : KZ} {nx mx : Nat} {K : KO} (ho : o.op = .call ⟨.value f, args, ts⟩) (hf : kev τ f = .yld id)
    (h : callYl run false lo (args.toList.map (kev τ)) zm nx mx K id) (hmb : MB (am zm) nx) (hlo : lo ≤ nx) : SOut E B o τ lo zm nx mx K := by
  have hfv : opv Gl.G (tv' τ) f = .yld id := by rw [← kev_v, hf]; rfl
  obtain ⟨h1, h2⟩ := chk_inv (show chk (nd (Nat.ble lo id) (Nat.blt id nx)) 192 _ from h)
  obtain ⟨h3, h4⟩ := nd_iff.1 h1
  have h3 := Nat.le_of_ble_eq_true h3
  have h4 := nblt.1 h4
  obtain ⟨kd, sh, v, hb, h5⟩ := oB_inv h2
  cases kd with
  | box => exact (show BadN 193 from h5).elim
  | row e => exact (show BadN 193 from h5).elim
  | dead => exact (show BadN 193 from h5).elim
  | mp => exact (show BadN 193 from h5).elim
  | lp mask ps x y =>
    obtain ⟨st, w, rfl, h6⟩ := (onCons_inv h5).resolve_right fun h => (show BadN 197 from h.2).elim
    obtain ⟨rfl, h7⟩ := (onNl_inv h6).resolve_right fun h => (show BadN 196 from h.2).elim
    obtain ⟨k0, d, t, rfl, h8⟩ := (onAr_inv h7).resolve_right fun h => (show BadN 195 from h.2).elim
    obtain ⟨h9, h10⟩ := chk_inv h8
    obtain rfl := unkB_s h9
    obtain ⟨h11, h12⟩ := chk_inv (show chk (invT mask (frKV t) 0 1) 209 _ from h10)
    obtain ⟨tr1, h13, h14, h15, h16⟩ := parsK_s _ _ _ _ h12 (INV.of h11)
    rw [setTK_eq] at h13
    have hmb0 : MB (am (set none (enc id) zm)) nx := fun i hi => by
      rw [am_none]
      by_cases e : i = id
      · subst e; rw [upd_same]
      · rw [upd_other _ _ e]; exact hmb i hi
    have hok := okR_nd ps x y
    obtain ⟨e1, tr2, zm2, nx2, mx2, q1, q2, q3, q4⟩ := hr _ _ _ _ _ _ _ _ (ndR ps x y) h13 hok.2.1 hmb0 hlo h14
    obtain ⟨q5, q6⟩ := chk_inv q1
    obtain rfl : e1 = .normal := by cases e1 <;> first | rfl | cases q5
    have hn2 := q2.nx
    obtain ⟨e2, tr3, zm3, nx3, mx3, r1, r2, r3, r4⟩ := hr _ _ _ _ _ _ _ _ (ndR ps x y) q6 hok.2.2 q2.mb (by omega) q3
    have hn3 := r2.nx
    obtain ⟨st', b, s1, s2, s3⟩ := exK_s r1
    rw [setTK_eq] at s1
    have hτc : tv' (tget (frKV t)) = fun i => t.atv (enc i) .unk := by funext i; exact frKV_v (enc i) t
    have hμ : am zm id = some ⟨.lp mask ps x y, sh, .cons .nl (.arr k0 fun i => t.atv (enc i) .unk)⟩ := by rw [am_some hb]; rfl
    refine ⟨.bool b, _, nx3, mx3, [], [], false, s1, ⟨fun i hi => ?_, by omega, by have := q2.mx; have := r2.mx; omega, fun i hi => ?_⟩, ?_⟩
    · rw [am_setS, upd_other _ _ (by omega)]; exact r2.mb i hi
    · rw [am_setS, upd_other _ _ (by omega), r2.low i hi, q2.low i hi, am_none, upd_other _ _ (by omega)]
    · rw [am_setS]
      rw [am_none] at q4
      rw [hτc] at h15
      refine GOp.yield (τc := fun i => t.atv (enc i) .unk) (τp := tv' (tget tr1)) ho hfv h4 hμ ?_ (by simpa using h16) q4 r4 hn2 hn3 r2.mx s2 s3
      rw [← map_kev]
      exact h15
omit [KGl] in
theorem emptyB (nx : Nat) : MB (fun _ => none) nx := fun _ _ => rfl
theorem GSt.iso {P : Program} {o : Oper} {τ : Nat → V} {μ μ1 μ' : Mem} {nx nx' : Nat} {v : V} {e : Eff} (h : GSt P B o τ (fun _ => none) μ1 nx nx' v [] [] e) (h1 : ∀ id, (id < nx ∨ nx' ≤ id) → μ id = none → μ' id = none)
    (h2 : MB μ nx → ∀ id b, μ' id = some b → (nx ≤ id ∧ id < nx' ∧ μ1 id = some b) ∨ (¬ (nx ≤ id ∧ id < nx') ∧ μ id = some b)) : GSt P B o τ μ μ' nx nx' v [] [] e := by
  have hup : e.up = [] := by
    have := h.ups
    cases hu : e.up with
    | nil => rfl
    | cons x l => rw [hu] at this; cases this
  refine ⟨h.val, h.nxt, h.ups, h.rds, (by rw [hup]; intro x hx; cases hx), h1, fun M _ => h.sem M (fun id b hb => by cases hb), fun hmb M hM id b hb => ?_⟩
  rcases h2 hmb id b hb with ⟨q1, q2, q3⟩ | ⟨q1, q2⟩
  · exact h.sub (emptyB nx) M (fun id b hb => by cases hb) id b q3
  · have hn := h.nxt
    have : touch e nx id = none := touch_none (by omega) (by rw [hup]; intro x hx; cases hx)
    simp only [put, this]
    exact hM id b q2
omit [KGl] in
theorem mergeK_s {zm1 : KZ} : ∀ (n i : Nat) (zm : KZ) (K : KZ → Prop), mergeK zm1 n i zm K → ∃ zm', K zm' ∧ ∀ id, am zm' id = if i ≤ id ∧ id < i + n then am zm1 id else am zm id
  | 0, i, zm, K, h => ⟨zm, h, fun id => by rw [if_neg (by omega)]⟩
  | n + 1, i, zm, K, h => by
    have h0 : setTK (kb zm1 i) (enc i) zm (fun zm => forceN (Nat.succ i) fun i => mergeK zm1 n i zm K) := h
    rw [setTK_eq, forceN_eq] at h0
    obtain ⟨zm', h1, h2⟩ := mergeK_s n (i + 1) _ K h0
    refine ⟨zm', h1, fun id => ?_⟩
    rw [h2]
    by_cases hi : i + 1 ≤ id ∧ id < i + 1 + n
    · rw [if_pos hi, if_pos (by omega)]
    · rw [if_neg hi]
      have hs : am (set (kb zm1 i) (enc i) zm) id = if id = i then am zm1 id else am zm id := by
        unfold am
        rw [kb_set]
        by_cases h3 : id = i
        · subst h3; simp
        · rw [if_neg h3, if_neg h3]
      rw [hs]
      by_cases h3 : id = i
      · rw [if_pos h3, if_pos (by omega)]
      · rw [if_neg h3, if_neg (by omega)]
theorem callW_s (hr : KRunOK E B run) (hE : KOk E) {o : Oper} {f : Operand} {args : Array Operand} {ts : Array TypeId} {τ : Nat → KV} {lo : Nat} {fid : FuncId} {l : List KV} {zm : KZ} {nx mx : Nat} {K : KO} (ho : o.op = .call ⟨.value f, args, ts⟩) (hfv : FnArgs (tv' τ) f args fid (l.map KV.v))
    (h : callW E run lo fid l zm nx mx K) (hmb : MB (am zm) nx) (hlo : lo ≤ nx) : DOut E B o τ lo zm nx mx K := by
  unfold callW at h
  rw [fN_eq] at h
  generalize @Bool.rec (fun _ => Nat) (maxN lo (minP nx l)) lo (Nat.ble 3 (E.md fid)) = lo' at h
  obtain ⟨h0, h5⟩ := chk_inv h
  obtain ⟨h00, h0⟩ := nd_iff.1 h0
  have hm0 := Nat.le_of_ble_eq_true h00
  have hlo' := Nat.le_of_ble_eq_true h0
  obtain ⟨hfn, v, zm', nx1, mx1, h6, h7, h8⟩ := callR_s hr hE h5 hmb hlo'
  rw [fN_eq] at h6
  have hmax := maxN_le nx1 mx1
  generalize maxN nx1 mx1 = nx2 at h6 hmax
  obtain ⟨U, h9, hU1, hU2⟩ := diffK_s _ _ h6
  have hsub : lo' + Nat.sub nx lo' = nx := by show lo' + (nx - lo') = nx; omega
  rw [hsub] at hU1
  have h10 := (call_name ho hfv hfn h8).imp (Imp.refl _) (MImp.refl _) hmax.1 (mx2 := nx2) hmax.2
  have hmb2 : MB (am zm') nx2 := fun id hid => h7.mb id (by omega)
  have hle : nx ≤ nx2 ∧ mx ≤ nx2 := ⟨by have := h7.nx; omega, by have := h7.mx; omega⟩
  have h11 := h10.stW (U := U) hmb hmb2 (fun id hid hn => by
    rcases Nat.lt_or_ge id lo' with q | q
    · exact h7.low id q
    · unfold am; rw [hU1 id q hid hn]) (fun id hid => by obtain ⟨_, a, b⟩ := hU2 id hid; rw [hsub] at a; exact ⟨a, b⟩) hle.1 (Nat.le_refl _)
  exact ⟨v, zm', nx2, nx2, U, [], true, h9, ⟨hmb2, hle.1, hle.2, fun id hid => h7.low id (by omega)⟩, _, _, h11, (fun h => by cases h), fun _ id hid => dom_lt hid⟩
theorem callF_drw (hr : KRunOK E B run) (hE : KOk E) {o : Oper} {f : Operand} {args : Array Operand} {ts : Array TypeId} {τ : Nat → KV} {lo : Nat} {fid : FuncId} {caps : KV} {zm : KZ} {nx mx : Nat} {K : KO} (ho : o.op = .call ⟨.value f, args, ts⟩) (hf : kev τ f = .fn fid caps)
    (h : callF E run true lo (args.toList.map (kev τ)) zm nx mx K fid caps) (hmb : MB (am zm) nx) (hlo : lo ≤ nx) : DOut E B o τ lo zm nx mx K := by
  obtain ⟨fid, l, hfv, h3⟩ := callF_inv hf h
  have h4 : @Option.rec KSpec (fun _ => Prop) (@Option.rec KSpec (fun _ => Prop) (callB E run true lo fid l zm nx mx K) (callC l zm nx mx K) (ctU E fid l)) (callN l zm nx mx K) (ctB E fid l) := h3
  cases hcb : ctB E fid l with
  | some s =>
    rw [hcb] at h4
    obtain ⟨hq, hbl⟩ := ctB_s hcb
    obtain ⟨hfn, hs⟩ := hE.cb fid s hq
    obtain ⟨v, h5, h6⟩ := hs _ _ (show s l (fun v => fV v fun v => K v zm nx mx [] [] false) from h4)
    rw [fV_eq] at h5
    have h7 := h6 hbl B (fun _ => none) nx 0
    have h8 := (call_name ho hfv hfn h7).st (emptyB nx) (emptyB nx) (fun _ _ => rfl) (Nat.le_refl _) (Nat.zero_le _)
    have hd : dom (fun _ => none) nx = [] := by simp [dom]
    rw [hd] at h8
    exact ⟨v, zm, nx, mx, [], [], false, h5, ⟨hmb, Nat.le_refl _, Nat.le_refl _, fun _ _ => rfl⟩, [], _, h8.iso (fun _ _ h => h) (fun _ id b hb => .inr ⟨by omega, hb⟩), fun _ => rfl, fun h => by cases h⟩
  | none =>
  rw [hcb] at h4
  replace h4 : @Option.rec KSpec (fun _ => Prop) (callB E run true lo fid l zm nx mx K) (callC l zm nx mx K) (ctU E fid l) := h4
  cases hc : ctU E fid l with
  | some s =>
    rw [hc] at h4
    obtain ⟨hfn, hs⟩ := hE.ct fid s (ctU_s hc)
    have h4 : @Bool.rec (fun _ => Prop) (lendL zm l fun l => s l fun v => fV v fun v => K v zm nx mx [] [] true) (s l fun v => fV v fun v => K v zm nx mx [] [] false) (allBel l) := h4
    cases hbl : allBel l with
    | true =>
      rw [hbl] at h4
      obtain ⟨v, h5, h6⟩ := hs _ _ h4
      rw [fV_eq] at h5
      have h7 := h6 B (fun _ => none) nx 0 _ (lend_bel _ hbl B _)
      have h8 := (call_name ho hfv hfn h7).st (emptyB nx) (emptyB nx) (fun _ _ => rfl) (Nat.le_refl _) (Nat.zero_le _)
      have hd : dom (fun _ => none) nx = [] := by simp [dom]
      rw [hd] at h8
      exact ⟨v, zm, nx, mx, [], [], false, h5, ⟨hmb, Nat.le_refl _, Nat.le_refl _, fun _ _ => rfl⟩, [], _, h8.iso (fun _ _ h => h) (fun _ id b hb => .inr ⟨by omega, hb⟩), fun _ => rfl, fun h => by cases h⟩
    | false =>
      rw [hbl] at h4
      obtain ⟨l', h41, h42⟩ := lendL_s _ h4
      obtain ⟨v, h5, h6⟩ := hs _ _ h41
      rw [fV_eq] at h5
      have h7 := h6 B (am zm) nx 0 _ (h42 B)
      have h8 := (call_name ho hfv hfn h7).st hmb hmb (fun _ _ => rfl) (Nat.le_refl _) (Nat.zero_le _)
      exact ⟨v, zm, nx, mx, [], [], true, h5, ⟨hmb, Nat.le_refl _, Nat.le_refl _, fun _ _ => rfl⟩, _, _, h8, (fun h => by cases h), fun _ id hid => dom_lt hid⟩
  | none =>
    rw [hc] at h4
    have h4 : @Bool.rec (fun _ => Prop) (@Bool.rec (fun _ => Prop) (callR E run nx fid l zm nx mx (callD (E.md fid) zm K)) (callR E run nx fid l .e nx mx (callI (E.md fid) zm nx K)) (allBel l)) (callW E run lo fid l zm nx mx K) (isW (E.md fid)) := h4
    cases hw : isW (E.md fid) with
    | true =>
      rw [hw] at h4
      exact callW_s hr hE ho hfv h4 hmb hlo
    | false =>
    rw [hw] at h4
    have h5 : @Bool.rec (fun _ => Prop) (callR E run nx fid l zm nx mx (callD (E.md fid) zm K)) (callR E run nx fid l .e nx mx (callI (E.md fid) zm nx K)) (allBel l) := h4
    cases hb : allBel l with
    | false =>
      rw [hb] at h5
      obtain ⟨hfn, v, zm', nx1, mx1, h6, h7, h8⟩ := callR_s hr hE h5 hmb (Nat.le_refl nx)
      have h9 : fN (maxN nx1 mx1) (fun nx => @Nat.rec (fun _ => Prop) (K v zm' nx nx [] [] true) (fun _ _ => K v zm nx nx [] [] true) (E.md fid)) := h6
      rw [fN_eq] at h9
      have hmax := maxN_le nx1 mx1
      generalize maxN nx1 mx1 = nx2 at h9 hmax
      have h10 := (call_name ho hfv hfn h8).imp (Imp.refl _) (MImp.refl _) hmax.1 (mx2 := nx2) hmax.2
      have hmb2 : MB (am zm') nx2 := fun id hid => h7.mb id (by omega)
      have h11 := h10.st hmb hmb2 h7.low (by have := h7.nx; omega) (Nat.le_refl _)
      have hle : nx ≤ nx2 ∧ mx ≤ nx2 := ⟨by have := h7.nx; omega, by have := h7.mx; omega⟩
      cases hm : E.md fid with
      | zero =>
        rw [hm] at h9
        exact ⟨v, zm', nx2, nx2, [], [], true, h9, ⟨hmb2, hle.1, hle.2, fun id hid => h7.low id (by omega)⟩, _, _, h11, (fun h => by cases h), fun _ id hid => dom_lt hid⟩
      | succ m =>
        rw [hm] at h9
        have h12 : GSt E.P B o (tv' τ) (am zm) (am zm) nx nx2 v.v [] (dom (am zm) nx) ⟨v.v, [], newL (am zm') nx nx2, dom (am zm) nx⟩ := by
          refine ⟨h11.val, h11.nxt, h11.ups, h11.rds, h11.upk, fun _ _ h => h, h11.sem, fun hm1 M hM id b hb' => ?_⟩
          have hid : id < nx := by
            rcases Nat.lt_or_ge id nx with q | q
            · exact q
            · rw [hm1 id q] at hb'; cases hb'
          exact h11.sub hm1 M hM id b (by rw [h7.low id hid]; exact hb')
        exact ⟨v, zm, nx2, nx2, [], [], true, h9, ⟨fun id hid => hmb id (by omega), hle.1, hle.2, fun _ _ => rfl⟩, _, _, h12, (fun h => by cases h), fun _ id hid => dom_lt hid⟩
    | true =>
      rw [hb] at h5
      have hme : MB (am (.e : KZ)) nx := by rw [am_e]; exact emptyB nx
      obtain ⟨hfn, v, zm', nx1, mx1, h6, h7, h8⟩ := callR_s hr hE h5 hme (Nat.le_refl nx)
      have h9 : fN (maxN nx1 mx1) (fun nx' => @Nat.rec (fun _ => Prop) (mergeK zm' (Nat.sub nx' nx) nx zm fun zm => K v zm nx' nx' [] [] false) (fun _ _ => K v zm nx' nx' [] [] false) (E.md fid)) := h6
      rw [fN_eq] at h9
      have hmax := maxN_le nx1 mx1
      generalize maxN nx1 mx1 = nx2 at h9 hmax
      have h10 := (call_name ho hfv hfn h8).imp (Imp.refl _) (MImp.refl _) hmax.1 (mx2 := nx2) hmax.2
      have hmb2 : MB (am zm') nx2 := fun id hid => h7.mb id (by omega)
      have hle : nx ≤ nx2 ∧ mx ≤ nx2 := ⟨by have := h7.nx; omega, by have := h7.mx; omega⟩
      have h11 := h10.st hme hmb2 h7.low hle.1 (Nat.le_refl _)
      rw [am_e] at h11
      have hd : dom (fun _ => none) nx = [] := by simp [dom]
      rw [hd] at h11
      cases hm : E.md fid with
      | zero =>
        rw [hm] at h9
        obtain ⟨zm2, h12, h13⟩ := mergeK_s _ _ _ _ (show mergeK zm' (nx2 - nx) nx zm (fun zm => K v zm nx2 nx2 [] [] false) from h9)
        have h14 : ∀ id, am zm2 id = if nx ≤ id ∧ id < nx2 then am zm' id else am zm id := fun id => by
          rw [h13]
          by_cases hi : nx ≤ id ∧ id < nx2
          · rw [if_pos hi, if_pos (by omega)]
          · rw [if_neg hi, if_neg (by omega)]
        refine ⟨v, zm2, nx2, nx2, [], [], false, h12, ⟨fun id hid => ?_, hle.1, hle.2, fun id hid => ?_⟩, [], _, h11.iso (fun id hid hn => ?_) (fun _ id b hb' => ?_), fun _ => rfl, fun h => by cases h⟩
        · rw [h14, if_neg (by omega)]; exact hmb id (by omega)
        · rw [h14, if_neg (by omega)]
        · rw [h14, if_neg (by omega)]; exact hn
        · rw [h14] at hb'
          by_cases hi : nx ≤ id ∧ id < nx2
          · rw [if_pos hi] at hb'; exact .inl ⟨hi.1, hi.2, hb'⟩
          · rw [if_neg hi] at hb'; exact .inr ⟨hi, hb'⟩
      | succ m =>
        rw [hm] at h9
        refine ⟨v, zm, nx2, nx2, [], [], false, h9, ⟨fun id hid => hmb id (by omega), hle.1, hle.2, fun _ _ => rfl⟩, [], _, h11.iso (fun id hid hn => hn) (fun hm1 id b hb' => ?_), fun _ => rfl, fun h => by cases h⟩
        refine .inr ⟨fun hc => ?_, hb'⟩
        rw [hm1 id hc.1] at hb'; cases hb'
end
end
end Go.K
