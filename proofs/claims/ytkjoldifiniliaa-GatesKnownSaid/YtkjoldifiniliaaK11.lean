/- The run is right: temporaries, guards, results, calls. No condition. -/
import Derived.Test.YtkjoldifiniliaaK10
set_option linter.unusedVariables false
set_option linter.unusedSimpArgs false
set_option linter.constructorNameAsVariable false
namespace Go.K
open Go.Ab Go.RowKit Go.Y
noncomputable section
variable [KGl]

/-! ### Temporaries -/
omit [KGl] in
theorem tget_set {tr : KTm} {v : KV} {t d : Nat} : tget (set v (enc d) tr) t = if t = d then v else tget tr t := get_set_n _ _ _ _ _
omit [KGl] in
theorem tget_e (t : Nat) : tget .e t = .unk := get_e _ _
def INV (mask : Nat) (tr : KTm) : Prop := ∀ t, keepB mask t = false → tget tr t = .unk
theorem flush_s {mask : Nat} {τ : Nat → KV} : ∀ (ops : List Oper) (tr : KTm) (K : KTm → Prop), flush mask τ ops tr K → ∃ tr', K tr' ∧ (∀ t, tget tr' t = tget tr t ∨ (keepB mask t = true ∧ tget tr' t = τ t)) ∧ ∀ o ∈ ops, ∀ d, o.dst = some d → keepB mask d = true → tget tr' d = τ d
  | [], tr, K, h => ⟨tr, h, fun t => .inl rfl, by intro o ho; cases ho⟩
  | o :: ops, tr, K, h => by
    have h0 : @Option.rec Tmp (fun _ => Prop) (flush mask τ ops tr K) (fun d => @Bool.rec (fun _ => Prop) (flush mask τ ops tr K) (fV (τ d) fun v => setTK v (enc d) tr fun tr => flush mask τ ops tr K) (keepB mask d)) o.dst := h
    cases hd : o.dst with
    | none =>
      rw [hd] at h0
      obtain ⟨tr', h1, h2, h3⟩ := flush_s ops tr K h0
      refine ⟨tr', h1, h2, fun o' ho' d hd' hk => ?_⟩
      rcases List.mem_cons.1 ho' with rfl | ho'
      · rw [hd] at hd'; cases hd'
      · exact h3 o' ho' d hd' hk
    | some d =>
      rw [hd] at h0
      have h1 : @Bool.rec (fun _ => Prop) (flush mask τ ops tr K) (fV (τ d) fun v => setTK v (enc d) tr fun tr => flush mask τ ops tr K) (keepB mask d) := h0
      cases hk : keepB mask d with
      | false =>
        rw [hk] at h1
        obtain ⟨tr', h2, h3, h4⟩ := flush_s ops tr K h1
        refine ⟨tr', h2, h3, fun o' ho' d' hd' hk' => ?_⟩
        rcases List.mem_cons.1 ho' with rfl | ho'
        · rw [hd] at hd'; cases hd'; rw [hk] at hk'; cases hk'
        · exact h4 o' ho' d' hd' hk'
      | true =>
        rw [hk] at h1
        have h1 : fV (τ d) (fun v => setTK v (enc d) tr fun tr => flush mask τ ops tr K) := h1
        rw [fV_eq, setTK_eq] at h1
        obtain ⟨tr', h2, h3, h4⟩ := flush_s ops _ K h1
        have hdd : tget tr' d = τ d := by
          rcases h3 d with h | ⟨_, h⟩
          · rw [h, tget_set, if_pos rfl]
          · exact h
        refine ⟨tr', h2, fun t => ?_, fun o' ho' d' hd' hk' => ?_⟩
        · by_cases ht : t = d
          · subst ht; exact .inr ⟨hk, hdd⟩
          · rcases h3 t with h | h
            · left; rw [h, tget_set, if_neg ht]
            · exact .inr h
        · rcases List.mem_cons.1 ho' with rfl | ho'
          · rw [hd] at hd'; cases hd'; exact hdd
          · exact h4 o' ho' d' hd' hk'
/-- What a list of operations leaves of the temporaries. -/
def Left (ops : List Oper) (tr : KTm) (τ : Nat → KV) : Prop := ∀ t, (∃ o ∈ ops, o.dst = some t) ∨ (τ t).v = (tget tr t).v
theorem flush_t {mask : Nat} {τ : Nat → KV} {ops : List Oper} {tr : KTm} {K : KTm → Prop} (h : flush mask τ ops tr K) (hi : INV mask tr) (hl : Left ops tr τ) : ∃ tr', K tr' ∧ INV mask tr' ∧ TImp (tv' τ) (tv' (tget tr')) := by
  obtain ⟨tr', h1, h2, h3⟩ := flush_s ops tr K h
  refine ⟨tr', h1, fun t ht => ?_, fun t x C hr => ?_⟩
  · rcases h2 t with h | ⟨h, _⟩
    · rw [h]; exact hi t ht
    · rw [ht] at h; cases h
  · show R C (tget tr' t).v (.val x)
    replace hr : R C (τ t).v (.val x) := hr
    cases hk : keepB mask t with
    | false =>
      rcases h2 t with h | ⟨h, _⟩
      · rw [h, hi t hk]; trivial
      · rw [hk] at h; cases h
    | true =>
      rcases hl t with ⟨o, ho, hd⟩ | hl
      · rw [h3 o ho t hd hk]; exact hr
      · rcases h2 t with h | ⟨_, h⟩
        · rw [h, ← hl]; exact hr
        · rw [h]; exact hr
theorem putK_s {d : Option Tmp} {v : KV} {τ : Nat → KV} {K : (Nat → KV) → Prop} (h : putK d v τ K) : ∃ τ', K τ' ∧ tv' τ' = putF d v.v (tv' τ) ∧ ∀ t, d = some t ∨ τ' t = τ t := by
  cases d with
  | none => exact ⟨τ, h, rfl, fun t => .inr rfl⟩
  | some d =>
    have h0 : fV v (fun v => K fun t => @Bool.rec (fun _ => KV) (τ t) v (Nat.beq t d)) := h
    rw [fV_eq] at h0
    refine ⟨_, h0, ?_, fun t => ?_⟩
    · funext t
      show (@Bool.rec (fun _ => KV) (τ t) v (Nat.beq t d)).v = if t = d then v.v else (τ t).v
      by_cases ht : t = d
      · subst ht; rw [Nat.beq_refl, if_pos rfl]
      · have : Nat.beq t d = false := by rw [← Bool.not_eq_true, Nat.beq_eq]; exact ht
        rw [this, if_neg ht]
    · by_cases ht : t = d
      · subst ht; exact .inl rfl
      · have : Nat.beq t d = false := by rw [← Bool.not_eq_true, Nat.beq_eq]; exact ht
        right
        show @Bool.rec (fun _ => KV) (τ t) v (Nat.beq t d) = τ t
        rw [this]

/-! ### Tests -/
theorem kalt_s {b : Bool} {y n y' n' : Prop} (h : kalt b y n y' n') : (b = true ∧ (y ∨ y')) ∨ (b = false ∧ (n ∨ n')) := by
  unfold kalt at h
  cases hc : clB <;> cases b <;> rw [hc] at h
  · exact .inr ⟨rfl, .inr h⟩
  · exact .inl ⟨rfl, .inr h⟩
  · exact .inr ⟨rfl, .inl h⟩
  · exact .inl ⟨rfl, .inl h⟩
omit [KGl] in
theorem putC_same {d : Nat} {v : KV} {τ : Nat → KV} (h : τ d = v) : putC d v τ = τ := by
  funext t
  unfold putC
  by_cases ht : t = d
  · subst ht; rw [Nat.beq_refl]; exact h.symm
  · have : Nat.beq t d = false := by rw [← Bool.not_eq_true, Nat.beq_eq]; exact ht
    rw [this]
theorem gV_s {want : Bool} {d : Nat} {τ : Nat → KV} {y n : (Nat → KV) → Prop} (h : gV (τ d) want d τ y n) : (τ d = .bool want ∧ y τ) ∨ ((τ d = .bool (!want) ∨ τ d = .tup .nl) ∧ n τ) := by
  rcases onBool_inv h with ⟨b, hb, h1⟩ | ⟨_, h1⟩
  · cases want with
    | true =>
      have h2 : kalt b (y τ) (n τ) (y (putC d (.bool true) τ)) (n (putC d (.bool false) τ)) := h1
      rcases kalt_s h2 with ⟨rfl, h3⟩ | ⟨rfl, h3⟩
      · rw [putC_same hb, or_self] at h3; exact .inl ⟨hb, h3⟩
      · rw [putC_same hb, or_self] at h3; exact .inr ⟨.inl hb, h3⟩
    | false =>
      have h2 : kalt b (n τ) (y τ) (n (putC d (.bool true) τ)) (y (putC d (.bool false) τ)) := h1
      rcases kalt_s h2 with ⟨rfl, h3⟩ | ⟨rfl, h3⟩
      · rw [putC_same hb, or_self] at h3; exact .inr ⟨.inl hb, h3⟩
      · rw [putC_same hb, or_self] at h3; exact .inl ⟨hb, h3⟩
  · rcases onTup_inv h1 with ⟨l, hl, h2⟩ | ⟨_, h2⟩
    · rcases onNl_inv h2 with ⟨rfl, h3⟩ | ⟨_, h3⟩
      · exact .inr ⟨.inr hl, h3⟩
      · exact h3.elim
    · exact h2.elim
theorem kgrd_s {ops : Array Oper} {o : Oper} {τ : Nat → KV} {y n : (Nat → KV) → Prop} (h : kgrd ops.toList o.guard τ y n) : (GWants (tv' τ) ops o true ∧ y τ) ∨ (GWants (tv' τ) ops o false ∧ n τ) := by
  cases hgd : o.guard with
  | none =>
    rw [hgd] at h
    exact .inl ⟨⟨fun C a N _ => by simp [Region.wanted, hgd], by unfold wants; rw [hgd]; rfl⟩, h⟩
  | some jw =>
    obtain ⟨j, want⟩ := jw
    rw [hgd] at h
    obtain ⟨d, hd0, hg⟩ := os_inv (show os 4 (fun d => gV (τ d) want d τ y n) (dstAt ops.toList j) from h)
    have hd : (ops[j]?).bind (·.dst) = some d := by rw [← dstAt_eq]; exact hd0
    have rd : ∀ {C a N} {b : Bool}, GT C (tv' τ) a N → τ d = .bool b → a.tmps[d]? = some (.bool b) := by
      intro C a N b ht hx
      have hr := ht.tv d
      have hval : a.tmps.getD d undef = .bool b := by
        have : tv' τ d = .bool b := by show (τ d).v = _; rw [hx]; rfl
        rw [this] at hr; exact hr
      rw [Array.getD_eq_getD_getElem?] at hval
      cases hx : a.tmps[d]? with
      | none => rw [hx] at hval; simp [undef] at hval
      | some y => rw [hx] at hval; simpa using hval
    rcases gV_s hg with ⟨hx, hy⟩ | ⟨hx, hn⟩
    · refine .inl ⟨⟨fun C a N ht => by simp [Region.wanted, hgd, yielded, hd, rd ht hx], ?_⟩, hy⟩
      unfold wants; rw [hgd]
      exact ⟨d, hd, .inl ⟨by show (τ d).v = _; rw [hx]; rfl, rfl⟩⟩
    · refine .inr ⟨⟨fun C a N ht => ?_, ?_⟩, hn⟩
      · rcases hx with hx | hx
        · cases want <;> simp [Region.wanted, hgd, yielded, hd, rd ht hx]
        · have hr := ht.tv d
          have : tv' τ d = .tup .nl := by show (τ d).v = _; rw [hx]; rfl
          rw [this] at hr
          obtain ⟨cs, h2, h3⟩ := hr
          have h3' : cs.toList = [] := h3
          have hval : a.tmps.getD d undef = .tuple #[] := by rw [h2]; congr; simpa using h3'
          rw [Array.getD_eq_getD_getElem?] at hval
          cases hx : a.tmps[d]? with
          | none => simp [Region.wanted, hgd, yielded, hd, hx]
          | some y => rw [hx] at hval; simp only [Option.getD_some] at hval; subst hval; simp [Region.wanted, hgd, yielded, hd, hx]
      · unfold wants; rw [hgd]
        refine ⟨d, hd, .inr ⟨?_, rfl⟩⟩
        rcases hx with hx | hx
        · left; show (τ d).v = _; rw [hx]; rfl
        · right; show (τ d).v = _; rw [hx]; rfl
theorem kcond_s {c : Operand} {tr : KTm} {f : Bool → KTm → Prop} (h : kcond c tr f) : ∃ b tr', opv Gl.G (tv' (tget tr)) c = .bool b ∧ f b tr' ∧ ∀ t, tget tr' t = tget tr t := by
  have key : ∀ v : KV, condO v tr f → ∃ b, v = .bool b ∧ f b tr := fun v h => by
    rcases onBool_inv h with ⟨b, hb, h1⟩ | ⟨_, h1⟩
    · cases b
      · exact ⟨false, hb, h1⟩
      · exact ⟨true, hb, h1⟩
    · exact h1.elim
  cases c with
  | tmp t =>
    rcases onBool_inv (show onBool _ (BadN 2) (tget tr t) from h) with ⟨b, hb, h1⟩ | ⟨_, h1⟩
    · have hv : opv Gl.G (tv' (tget tr)) (.tmp t) = .bool b := by show (tget tr t).v = _; rw [hb]; rfl
      have hsame : ∀ t', tget (set (.bool b) (enc t) tr) t' = tget tr t' := fun t' => by
        rw [tget_set]
        by_cases ht : t' = t
        · subst ht; rw [if_pos rfl, hb]
        · rw [if_neg ht]
      rcases kalt_s h1 with ⟨rfl, h3⟩ | ⟨rfl, h3⟩
      · rcases h3 with h3 | h3
        · exact ⟨true, tr, hv, h3, fun _ => rfl⟩
        · rw [setTK_eq] at h3; exact ⟨true, _, hv, h3, hsame⟩
      · rcases h3 with h3 | h3
        · exact ⟨false, tr, hv, h3, fun _ => rfl⟩
        · rw [setTK_eq] at h3; exact ⟨false, _, hv, h3, hsame⟩
    · exact h1.elim
  | const v => obtain ⟨b, hb, h1⟩ := key _ h; exact ⟨b, tr, by rw [← kev_v (tget tr) (.const v)]; show (kofVal v).v = _; rw [hb]; rfl, h1, fun _ => rfl⟩
  | global g => obtain ⟨b, hb, h1⟩ := key _ h; exact ⟨b, tr, by show (KGl.g g).v = _; rw [hb]; rfl, h1, fun _ => rfl⟩
  | func g => exact (show BadN 3 from h).elim

/-! ### Results -/
section
variable {P : Program}
theorem rvO_s {τ : Nat → KV} {zm : KZ} {r : ResultVar} {K : KV → Prop} (h : rvO P τ zm r K) : ∃ v, K v ∧ RVal P (tv' τ) (am zm) r v.v := by
  cases r with
  | tmp t => exact ⟨τ t, h, rfl⟩
  | cell a t =>
    obtain ⟨s, h1, h2⟩ := os_inv (show os 172 (fun s => rvC s (τ a) zm K) (ldS P t) from h)
    obtain ⟨hs, d, hd⟩ := ldS_s h1
    rcases onPtr_inv h2 with ⟨id, p, s', hp, h3⟩ | ⟨_, h3⟩
    · obtain ⟨k, sh, v, hb, h4⟩ := oB_inv h3
      obtain ⟨h5, h6⟩ := chk_inv h4
      rw [fV_eq] at h6
      rw [nd_iff] at h5
      obtain rfl := Shape.eq_of_beq h5.2
      exact ⟨_, h6, s', d, id, p, _, hs, hd, by show (τ a).v = _; rw [hp]; rfl, am_some hb, by show (Blk.mk k sh v.v).alive = true; rw [isAl_eq]; exact h5.1, (kpath_v p v).symm⟩
    · exact h3.elim
theorem rvL_s {τ : Nat → KV} {zm : KZ} : ∀ (l : List ResultVar) (K : KV → Prop), rvL P τ zm l K → ∃ v, K v ∧ RVals P (tv' τ) (am zm) l v.v
  | [], K, h => ⟨.nl, h, rfl⟩
  | r :: l, K, h => by
    obtain ⟨x, h1, h2⟩ := rvO_s (show rvO P τ zm r (fun x => rvL P τ zm l fun w => K (.cons x w)) from h)
    obtain ⟨w, h3, h4⟩ := rvL_s l _ h1
    exact ⟨_, h3, x.v, w.v, rfl, h2, h4⟩
theorem rvA_s {τ : Nat → KV} {zm : KZ} {l : List ResultVar} {K : KV → Prop} (h : rvA P τ zm l K) : ∃ v, K v ∧ RAll P (tv' τ) (am zm) l v.v := by
  unfold rvA at h
  split at h
  · exact rvO_s h
  · rename_i hne
    obtain ⟨w, h1, h2⟩ := rvL_s _ _ h
    refine ⟨_, h1, ?_⟩
    unfold RAll
    split
    · exact (hne _ rfl).elim
    · exact ⟨w.v, rfl, h2⟩
theorem retK_s {rs : List ResultVar} {K : KV → KZ → Nat → Nat → Prop} {e : Exit} {tr : KTm} {zm : KZ} {nx mx : Nat} (h : retK P rs K e tr zm nx mx) : (e = .normal ∨ e = .ret) ∧ ∃ v, K v zm nx mx ∧ RAll P (tv' (tget tr)) (am zm) rs v.v := by
  cases e with
  | normal => exact ⟨.inl rfl, rvA_s h⟩
  | ret => exact ⟨.inr rfl, rvA_s h⟩
  | _ => exact (show BadN 6 from h).elim
end
omit [KGl] in
theorem bindA_s {mask : Nat} : ∀ (l : List KV) (i : Nat) (tr : KTm) (K : KTm → Prop), bindA mask l i tr K → ∃ tr', K tr' ∧ ∀ t, tget tr' t = tget tr t ∨ (keepB mask t = true ∧ i ≤ t ∧ t < i + l.length ∧ tget tr' t = l.getD (t - i) .unk)
  | [], i, tr, K, h => ⟨tr, h, fun t => .inl rfl⟩
  | x :: l, i, tr, K, h => by
    have h0 : @Bool.rec (fun _ => Prop) (bindA mask l (Nat.succ i) tr K) (setTK x (enc i) tr fun t => bindA mask l (Nat.succ i) t K) (keepB mask i) := h
    cases hk : keepB mask i with
    | false =>
      rw [hk] at h0
      obtain ⟨tr', h1, h2⟩ := bindA_s l (i + 1) tr K h0
      refine ⟨tr', h1, fun t => (h2 t).imp id ?_⟩
      rintro ⟨q1, q2, q3, q4⟩
      refine ⟨q1, by omega, by simp only [List.length_cons]; omega, ?_⟩
      rw [q4, show t - i = (t - (i + 1)) + 1 by omega]; rfl
    | true =>
      rw [hk] at h0
      have h0 : setTK x (enc i) tr (fun t => bindA mask l (Nat.succ i) t K) := h0
      rw [setTK_eq] at h0
      obtain ⟨tr', h1, h2⟩ := bindA_s l (i + 1) _ K h0
      refine ⟨tr', h1, fun t => ?_⟩
      rcases h2 t with h | ⟨q1, q2, q3, q4⟩
      · rw [tget_set] at h
        by_cases ht : t = i
        · subst ht
          rw [if_pos rfl] at h
          exact .inr ⟨hk, Nat.le_refl _, by simp, by rw [h, Nat.sub_self]; rfl⟩
        · rw [if_neg ht] at h; exact .inl h
      · refine .inr ⟨q1, by omega, by simp only [List.length_cons]; omega, ?_⟩
        rw [q4, show t - i = (t - (i + 1)) + 1 by omega]; rfl
omit [KGl] in
theorem kbel_s (n : Nat) (v : KV) : kbel n v = true → v.v.bel n ∧ ∀ (p : Pth) (z : V), z.bel n → (v.atv p z).bel n := by
  induction v with
  | cons a b ih1 ih2 =>
    intro h
    obtain ⟨h1, h2⟩ := nd_iff.1 (show nd (kbel n a) (kbel n b) = true from h)
    exact ⟨⟨(ih1 h1).1, (ih2 h2).1⟩, fun p z hz => hz⟩
  | ar m d t ih1 ih2 =>
    intro h
    obtain ⟨h1, h2⟩ := nd_iff.1 (show nd (kbel n d) (kbel n t) = true from h)
    exact ⟨fun i _ => (ih2 h2).2 _ _ (ih1 h1).1, fun p z hz => hz⟩
  | tb a b c d ih1 ih2 ih3 ih4 =>
    intro h
    have h0 : nd (kbel n a) (nd (kbel n b) (nd (kbel n c) (kbel n d))) = true := h
    simp only [nd_iff] at h0
    refine ⟨trivial, fun p z hz => ?_⟩
    cases p with
    | nil => exact hz
    | cons g p =>
      cases g
      · exact (ih1 h0.1).2 p z hz
      · exact (ih2 h0.2.1).2 p z hz
      · exact (ih3 h0.2.2.1).2 p z hz
      · exact (ih4 h0.2.2.2).2 p z hz
  | tn x a b c d ih0 ih1 ih2 ih3 ih4 =>
    intro h
    have h0 : nd (kbel n x) (nd (kbel n a) (nd (kbel n b) (nd (kbel n c) (kbel n d)))) = true := h
    simp only [nd_iff] at h0
    refine ⟨trivial, fun p z hz => ?_⟩
    cases p with
    | nil => exact (ih0 h0.1).1
    | cons g p =>
      cases g
      · exact (ih1 h0.2.1).2 p z hz
      · exact (ih2 h0.2.2.1).2 p z hz
      · exact (ih3 h0.2.2.2.1).2 p z hz
      · exact (ih4 h0.2.2.2.2).2 p z hz
  | ptr id p s => intro h; exact ⟨nblt.1 (show Nat.blt id n = true from h), fun p z hz => hz⟩
  | row id s k => intro h; exact ⟨nblt.1 (show Nat.blt id n = true from h), fun p z hz => hz⟩
  | sl id p s off len cap => intro h; exact ⟨nblt.1 (show Nat.blt id n = true from h), fun p z hz => hz⟩
  | fn f c ih => intro h; exact ⟨(ih h).1, fun p z hz => hz⟩
  | tup l ih => intro h; exact ⟨(ih h).1, fun p z hz => hz⟩
  | pk k m x => intro h; exact ⟨fun i _ => trivial, fun p z hz => hz⟩
  | _ => intro h; exact ⟨trivial, fun p z hz => hz⟩
end
end Go.K
