/- Single operations: parts, lengths, slices, conversions. No condition. Single operations: values of interfaces. No condition. -/
import Derived.Test.YtfpmealbbibhpaaGreatDoorK3
set_option linter.unusedVariables false
set_option linter.unusedSimpArgs false
namespace Go.K
open Go.Ab Go.RowKit Go.Y
noncomputable section
variable [KGl]
section
variable {P : Program} {B : Nat} {o : Oper} {τ : Nat → KV} {lo : Nat} {zm : KZ} {nx : Nat} {K : KT}
def knth (k : Nat) : KV → (KV → Prop) → Prop := @Nat.rec (fun _ => KV → (KV → Prop) → Prop) (fun l K => onCons (fun h _ => K h) (BadN 80) l) (fun _ ih l K => onCons (fun _ t => ih t K) (BadN 80) l) k
omit [KGl] in
theorem knth_s : ∀ (k : Nat) (l : KV) (K : KV → Prop), knth k l K → ∃ v, K v ∧ l.v.nth k = some v.v
  | 0, l, K, h => by
    rcases onCons_inv (show onCons (fun h _ => K h) (BadN 80) l from h) with ⟨a, b, rfl, h1⟩ | ⟨_, h1⟩
    · exact ⟨a, h1, rfl⟩
    · exact h1.elim
  | k + 1, l, K, h => by
    rcases onCons_inv (show onCons (fun _ t => knth k t K) (BadN 80) l from h) with ⟨a, b, rfl, h1⟩ | ⟨_, h1⟩
    · exact knth_s k b K h1
    · exact h1.elim
def kExtract (x : KV) (k : Nat) (zm : KZ) (nx : Nat) (K : KT) : Prop := onTup (fun l => knth k l fun v => K v zm nx [] []) (BadN 81) x
theorem kExtract_s {x : Operand} {k : Nat} (ho : o.op = .extract x k) (h : kExtract (kev τ x) k zm nx K) : Out P B o τ lo zm nx K := by
  have hx := kev_v τ x
  rcases onTup_inv h with ⟨l, hl, h1⟩ | ⟨_, h1⟩
  · obtain ⟨v, h2, h3⟩ := knth_s k l _ h1
    rw [hl] at hx
    exact Out.pure h2 (yExtract_s (e := pureE v.v) ho (by rw [← hx]; show (yExtract (.tup l.v) k).is _; simp only [yExtract, h3]; rfl)) (EImp.refl _)
  · exact h1.elim
def kPick (c a b : KV) (zm : KZ) (nx : Nat) (K : KT) : Prop := onBool (fun t => alt t (K a zm nx [] []) (K b zm nx [] [])) (BadN 82) c
theorem kPick_s {c a b : Operand} (ho : o.op = .pick c a b) (h : kPick (kev τ c) (kev τ a) (kev τ b) zm nx K) : Out P B o τ lo zm nx K := by
  have hx := kev_v τ c
  rcases onBool_inv h with ⟨t, ht, h1⟩ | ⟨_, h1⟩
  · rw [ht] at hx
    cases t with
    | true => exact Out.pure (v := kev τ a) h1 (yPick_s (e := pureE (kev τ a).v) ho (by rw [← hx, ← kev_v, ← kev_v]; show (okE (V.ite true _ _)).is _; rw [V.ite_true]; rfl)) (EImp.refl _)
    | false => exact Out.pure (v := kev τ b) h1 (yPick_s (e := pureE (kev τ b).v) ho (by rw [← hx, ← kev_v, ← kev_v]; show (okE (V.ite false _ _)).is _; rw [V.ite_false]; rfl)) (EImp.refl _)
  · exact h1.elim
def kmkL (l : List KV) : KV := @List.rec KV (fun _ => KV) .nl (fun x _ ih => .cons x ih) l
omit [KGl] in
theorem kmkL_v : ∀ (l : List KV), (kmkL l).v = mkL (l.map KV.v)
  | [] => rfl
  | x :: l => by show V.cons x.v (kmkL l).v = V.cons x.v (mkL (l.map KV.v)); rw [kmkL_v l]
def isFn0 (f : Fn) : Option FuncId := match f with
  | .func f => some f
  | _ => none
theorem sem_makeMap {P : Program} {B : Nat} {o : Oper} {ρ : Operand → V} {m : Mem} {n : Nat} {t : TypeId} (ho : o.op = .makeMap t none) : OpSem P B o ρ m n (pureE .unk) := by
  intro C M ρc hsr _ _ hn hrel
  have hrun : (execOp ρc o).run P C.w = .ok (.value (.map (some C.w.heap.size))) (C.w.alloc (.map #[] 0)) := by
    simp only [execOp, ho]
    rfl
  unfold Does
  rw [hrun]
  obtain ⟨h1, h2⟩ := hsr.grown (w' := C.w.alloc (.map #[] 0)) ((Below.refl _ C.w).alloc (Nat.le_refl _) _) C.ok (fun u b h => h) (fun u b h => .inl (.inl h))
  exact ⟨_, rfl, trivial, h2, by rw [put_pure]; exact h1, fun id h => .inl h⟩
def kMakeMap (r : Option Operand) (zm : KZ) (nx : Nat) (K : KT) : Prop := @Option.rec Operand (fun _ => Prop) (K .unk zm nx [] []) (fun _ => BadN 260) r
theorem kMakeMap_s {t : TypeId} {r : Option Operand} (ho : o.op = .makeMap t r) (h : kMakeMap r zm nx K) : Out P B o τ lo zm nx K := by
  cases r with
  | none => exact Out.pure (v := .unk) h ⟨sem_makeMap ho, UpIn.nil⟩ (EImp.refl _)
  | some _ => exact (show BadN 260 from h).elim
def kMakeFunc (f : Fn) (a : List KV) (caps : List KV) (zm : KZ) (nx : Nat) (K : KT) : Prop := os 83 (fun f => chk (Nat.blt f 1073741824) 246 (@List.rec KV (fun _ => Prop) (K (.fn f (kmkL caps)) zm nx [] []) (fun x r _ => fN (Nat.add f 1073741824) fun f => K (.fn f (.cons (.tup (kmkL (x :: r))) (kmkL caps))) zm nx [] []) a)) (isFn0 f)
theorem map_kev (τ : Nat → KV) (l : List Operand) : (l.map (kev τ)).map KV.v = l.map (opv Gl.G (tv' τ)) := by
  rw [List.map_map]; exact List.map_congr_left fun x _ => kev_v τ x
theorem kMakeFunc_s {f : Fn} {a cap : Array Operand} (ho : o.op = .makeFunc f a cap) (h : kMakeFunc f (a.toList.map (kev τ)) (cap.toList.map (kev τ)) zm nx K) : Out P B o τ lo zm nx K := by
  obtain ⟨g, h1, h20⟩ := os_inv h
  obtain ⟨hlt, h2⟩ := chk_inv h20
  clear h20
  rw [Nat.blt_eq] at hlt
  obtain rfl : f = .func g := by
    unfold isFn0 at h1
    split at h1
    · cases h1; rfl
    · cases h1
  cases ha : a.toList.map (kev τ) with
  | nil =>
    rw [ha] at h2
    obtain rfl : a = #[] := by
      have : a.toList = [] := by simpa using ha
      simpa using this
    exact Out.pure (e := pureE (.fn g (mkL (cap.toList.map (opv Gl.G (tv' τ)))))) (show K (.fn g (kmkL (cap.toList.map (kev τ)))) zm nx [] [] from h2) ⟨sem_makeFunc ho hlt, UpIn.nil⟩ (by rw [v_fn, kmkL_v, map_kev]; exact EImp.refl _)
  | cons x r =>
    have h3 : fN (Nat.add g 1073741824) fun f => K (.fn f (.cons (.tup (kmkL (a.toList.map (kev τ)))) (kmkL (cap.toList.map (kev τ))))) zm nx [] [] := by
      rw [ha] at h2 ⊢
      exact h2
    rw [fN_eq] at h3
    exact Out.pure h3 ⟨sem_makeMeth ho hlt, UpIn.nil⟩ (by
      show EImp _ ⟨.fn (g + 1073741824) (.cons (.tup (kmkL (a.toList.map (kev τ))).v) (kmkL (cap.toList.map (kev τ))).v), [], [], []⟩
      rw [kmkL_v, kmkL_v, map_kev, map_kev]; exact EImp.refl _)
inductive LnS where
  | sli
  | str
  | arr (k : Nat)
  | bad
def lnS (P : Program) (t : TypeId) : LnS := match P.underlying t with
  | some (.slice _) => .sli
  | some .string => .str
  | some (.array k _) => .arr k
  | _ => .bad
def kSlen (x : KV) (K : Nat → Prop) : Prop := onSl (fun _ _ _ _ len _ => K len) (onRow (fun _ _ n => K n) (onRo (fun _ _ _ _ len _ => K len) (onNils (K 0) (BadN 84) x) x) x) x
omit [KGl] in
theorem kSlen_s {x : KV} {K : Nat → Prop} (h : kSlen x K) : ∃ n, x.v.len = some n ∧ K n := by
  rcases onSl_inv h with ⟨_, _, _, _, len, _, rfl, h1⟩ | ⟨_, h1⟩
  · exact ⟨_, rfl, h1⟩
  rcases onRow_inv h1 with ⟨_, _, n, rfl, h1⟩ | ⟨_, h1⟩
  · exact ⟨_, rfl, h1⟩
  rcases onRo_inv h1 with ⟨_, _, _, _, len, _, rfl, h1⟩ | ⟨_, h1⟩
  · exact ⟨_, rfl, h1⟩
  rcases onNils_inv h1 with ⟨rfl, h1⟩ | ⟨_, h1⟩
  · exact ⟨_, rfl, h1⟩
  · exact h1.elim
def kLenV (x : KV) (zm : KZ) (nx : Nat) (K : KT) (s : LnS) : Prop := @LnS.rec (fun _ => Prop) (kSlen x fun n => fN n fun n => K (.int .i64 (.ofNat n)) zm nx [] []) (onStr (fun n _ => fN n fun n => K (.int .i64 (.ofNat n)) zm nx [] []) (BadN 85) x) (fun k => K (.int .i64 (.ofNat k)) zm nx [] []) (BadN 86) s
def kLen (P : Program) (t : TypeId) (x : KV) (zm : KZ) (nx : Nat) (K : KT) : Prop := kLenV x zm nx K (lnS P t)
theorem kLen_s {t : TypeId} {x : Operand} (ho : o.op = .call ⟨.builtin .len, #[x], #[t]⟩) (h : kLen P t (kev τ x) zm nx K) : Out P B o τ lo zm nx K := by
  have hx := kev_v τ x
  unfold kLen lnS at h
  split at h
  · rename_i e hu
    obtain ⟨n, h1, h2⟩ := kSlen_s (show kSlen (kev τ x) _ from h)
    rw [fN_eq] at h2
    exact Out.pure h2 (yLen_s (e := pureE (.int .i64 n)) ho (by rw [← hx]; unfold yLen; simp only [hu, h1]; rfl)) (EImp.refl _)
  · rename_i hu
    rcases onStr_inv (show onStr (fun n _ => fN n fun n => K (.int .i64 (.ofNat n)) zm nx [] []) (BadN 85) (kev τ x) from h) with ⟨n, s, hs, h1⟩ | ⟨_, h1⟩
    · rw [fN_eq] at h1
      rw [hs] at hx
      have hsz : (bytesOf n s).size = n := by show ((List.range n).map _).length = n; simp
      exact Out.pure h1 (yLen_s (e := pureE (.int .i64 ((bytesOf n s).size : Nat))) ho (by rw [← hx]; unfold yLen; simp only [hu, v_str]; rfl)) (by rw [hsz]; exact EImp.refl _)
    · exact h1.elim
  · rename_i k e hu
    exact Out.pure (v := .int .i64 (.ofNat k)) h (yLen_s (e := pureE (.int .i64 k)) ho (by unfold yLen; simp only [hu]; rfl)) (EImp.refl _)
  · exact (show BadN 86 from h).elim
def isSliT (P : Program) (t : TypeId) : Bool := match P.underlying t with | some (.slice _) => true | _ => false
omit [KGl] in
theorem isSliT_s {t : TypeId} (h : isSliT P t = true) : ∃ e, P.underlying t = some (.slice e) := by
  unfold isSliT at h
  split at h
  · exact ⟨_, ‹_›⟩
  · cases h
def kCap (P : Program) (t : TypeId) (x : KV) (zm : KZ) (nx : Nat) (K : KT) : Prop := chk (isSliT P t) 87
  (onSl (fun _ _ _ _ _ cap => os 88 (fun n => fN n fun n => K (.int .i64 (.ofNat n)) zm nx [] []) cap) (onRo (fun _ clip _ _ len _ => chk clip 89 (fN len fun n => K (.int .i64 (.ofNat n)) zm nx [] [])) (onNils (K (.int .i64 0) zm nx [] []) (BadN 90) x) x) x)
theorem kCap_s {t : TypeId} {x : Operand} (ho : o.op = .call ⟨.builtin .cap, #[x], #[t]⟩) (h : kCap P t (kev τ x) zm nx K) : Out P B o τ lo zm nx K := by
  have hx := kev_v τ x
  obtain ⟨h0, h1⟩ := chk_inv h
  obtain ⟨e, hu⟩ := isSliT_s h0
  rcases onSl_inv h1 with ⟨_, _, _, _, _, cap, hp, h1⟩ | ⟨_, h1⟩
  · obtain ⟨n, rfl, h2⟩ := os_inv h1
    rw [fN_eq] at h2
    rw [hp] at hx
    exact Out.pure h2 (yCap_s (e := pureE (.int .i64 n)) ho (by rw [← hx]; unfold yCap; simp only [hu, v_sl, V.cap]; rfl)) (EImp.refl _)
  rcases onRo_inv h1 with ⟨_, clip, _, _, len, _, hp, h1⟩ | ⟨_, h1⟩
  · obtain ⟨rfl, h2⟩ := chk_inv h1
    rw [fN_eq] at h2
    rw [hp] at hx
    exact Out.pure h2 (yCap_s (e := pureE (.int .i64 len)) ho (by rw [← hx]; unfold yCap; simp only [hu, v_ro, V.cap]; rfl)) (EImp.refl _)
  rcases onNils_inv h1 with ⟨hp, h1⟩ | ⟨_, h1⟩
  · rw [hp] at hx
    exact Out.pure h1 (yCap_s (e := pureE (.int .i64 (0 : Nat))) ho (by rw [← hx]; unfold yCap; simp only [hu, v_nils, V.cap]; rfl)) (EImp.refl _)
  · exact h1.elim
def kMin (x y : KV) (zm : KZ) (nx : Nat) (K : KT) : Prop := onInt (fun k a => onInt (fun _ b => fI (bif ltI b a then b else a) fun r => K (.int k r) zm nx [] []) (BadN 91) y) (BadN 92) x
theorem kMin_s {ts : Array TypeId} {x y : Operand} (ho : o.op = .call ⟨.builtin .min, #[x, y], ts⟩) (h : kMin (kev τ x) (kev τ y) zm nx K) : Out P B o τ lo zm nx K := by
  have hx := kev_v τ x
  have hy := kev_v τ y
  rcases onInt_inv h with ⟨k, a, ha, h1⟩ | ⟨_, h1⟩
  · rcases onInt_inv h1 with ⟨k', b, hb, h2⟩ | ⟨_, h2⟩
    · rw [fI_eq] at h2
      rw [ha] at hx; rw [hb] at hy
      exact Out.pure h2 (yMin_s (e := pureE (minV k a b)) ho (by rw [← hx, ← hy]; rfl)) (EImp.refl _)
    · exact h2.elim
  · exact h1.elim
theorem sem_max {P : Program} {B : Nat} {o : Oper} {ρ : Operand → V} {m : Mem} {n : Nat} {ts : Array TypeId} {x y : Operand} {k k' : IntKind} {a b : Int} (ho : o.op = .call ⟨.builtin .max, #[x, y], ts⟩) (hx : ρ x = .int k a) (hy : ρ y = .int k' b) : OpSem P B o ρ m n (pureE (.int k (bif ltI a b then b else a))) :=
  OpSem.pure fun C M ρc _ _ hrel => by
    obtain ⟨rx, ry⟩ := two_rel (ρ := ρ) ho hrel
    rw [hx] at rx; rw [hy] at ry
    have rx' : ρc x = .int k a := rx
    have ry' : ρc y = .int k' b := ry
    refine ⟨.int k (if b > a then b else a), by simp [execOp, ho, resolve, invoke, builtin, rx', ry', Builtin.max_, Builtin.max2], ?_⟩
    show Value.int k _ = Value.int k _
    rw [ltI_eq]
    by_cases h : a < b <;> simp [h]
def kMax (x y : KV) (zm : KZ) (nx : Nat) (K : KT) : Prop := onInt (fun k a => onInt (fun _ b => fI (bif ltI a b then b else a) fun r => K (.int k r) zm nx [] []) (BadN 91) y) (BadN 92) x
theorem kMax_s {ts : Array TypeId} {x y : Operand} (ho : o.op = .call ⟨.builtin .max, #[x, y], ts⟩) (h : kMax (kev τ x) (kev τ y) zm nx K) : Out P B o τ lo zm nx K := by
  have hx := kev_v τ x
  have hy := kev_v τ y
  rcases onInt_inv h with ⟨k, a, ha, h1⟩ | ⟨_, h1⟩
  · rcases onInt_inv h1 with ⟨k', b, hb, h2⟩ | ⟨_, h2⟩
    · rw [fI_eq] at h2
      rw [ha] at hx; rw [hb] at hy
      exact Out.pure h2 ⟨sem_max ho (by rw [← hx]; rfl) (by rw [← hy]; rfl), UpIn.nil⟩ (EImp.refl _)
    · exact h2.elim
  · exact h1.elim
def arN (c : KV) (n : Nat) : Bool := match c with
  | .pk _ m _ => Nat.beq m n
  | .ar m _ _ => Nat.beq m n
  | _ => false
omit [KGl] in
theorem arN_s {c : KV} {n : Nat} (h : arN c n = true) : ∃ f, c.v = .arr n f := by
  unfold arN at h
  split at h
  · rw [← beqE h]; exact ⟨_, rfl⟩
  · rw [← beqE h]; exact ⟨_, rfl⟩
  · cases h
def kBnd (d : Nat) (x : Option KV) (K : Int → Prop) : Prop := @Option.rec KV (fun _ => Prop) (K (.ofNat d)) (fun v => onInt (fun _ n => K n) (BadN 93) v) x
omit [KGl] in
theorem kBnd_s {d : Nat} {x : Option KV} {K : Int → Prop} (h : kBnd d x K) : ∃ n, V.bnd d (x.map KV.v) = some n ∧ K n := by
  cases x with
  | none => exact ⟨_, rfl, h⟩
  | some v =>
    rcases onInt_inv (show onInt (fun _ n => K n) (BadN 93) v from h) with ⟨k, n, rfl, h1⟩ | ⟨_, h1⟩
    · exact ⟨n, rfl, h1⟩
    · exact h1.elim
def kMx (x : Option KV) (K : Option Int → Prop) : Prop := @Option.rec KV (fun _ => Prop) (K none) (fun v => onInt (fun _ n => K (some n)) (BadN 94) v) x
omit [KGl] in
theorem kMx_s {x : Option KV} {K : Option Int → Prop} (h : kMx x K) : ∃ mv, V.mxb (x.map KV.v) = some mv ∧ K mv := by
  cases x with
  | none => exact ⟨_, rfl, h⟩
  | some v =>
    rcases onInt_inv (show onInt (fun _ n => K (some n)) (BadN 94) v from h) with ⟨k, n, rfl, h1⟩ | ⟨_, h1⟩
    · exact ⟨_, rfl, h1⟩
    · exact h1.elim
inductive SlS where
  | sli (z : Nat)
  | arr (n z : Nat)
  | str
  | bad
def slS (P : Program) (t : TypeId) : SlS := match P.underlying t with
  | some (.slice el) => match P.info? el with
    | some i => .sli i.size
    | none => .bad
  | some (.array n el) => match P.info? el with
    | some i => .arr n i.size
    | none => .bad
  | some .string => .str
  | _ => .bad
def fO (c : Option Nat) (K : Option Nat → Prop) : Prop := @Option.rec Nat (fun _ => Prop) (K none) (fun n => fN n fun n => K (some n)) c
theorem fO_eq (c : Option Nat) (K : Option Nat → Prop) : fO c K = K c := by
  cases c with
  | none => rfl
  | some n => exact fN_eq n fun n => K (some n)
def kSlO (id : Nat) (p : List Step) (e : Shape) (off : Nat) (cap : Option Nat) (l h : Int) (mv : Option Int) (zm : KZ) (nx : Nat) (rd : List Nat) (K : KT) : Prop :=
  fN (Nat.add off (natI l)) fun o => fN (Nat.sub (natI h) (natI l)) fun n => fO (subO (natI l) cap mv) fun c => K (.sl id p e o n c) zm nx [] rd
def kSlL (z : Nat) (l : Int) (hi : Option KV) (mv : Option Int) (zm : KZ) (nx : Nat) (K : KT) (id : Nat) (p : List Step) (e : Shape) (off len : Nat) (cap : Option Nat) : Prop :=
  kBnd len hi fun h => chk (Nat.beq z e.size) 95 (cnd (slB l h len mv) (kSlO id p e off cap l h mv zm nx [] K))
def kSlW (z : Nat) (l : Int) (hi : Option KV) (mv : Option Int) (zm : KZ) (nx : Nat) (K : KT) (id : Nat) (e : Shape) (len : Nat) : Prop :=
  oB zm id fun k _ _ => kBnd len hi fun h => chk (nd (isAl k) (Nat.beq z e.size)) 96 (cnd (slB l h len mv) (kSlO id [] e 0 none l h mv zm nx [id] K))
def kSlR (z : Nat) (l : Int) (hi : Option KV) (mv : Option Int) (zm : KZ) (nx : Nat) (K : KT) (u clip : Bool) (e : Shape) (off len : Nat) (c : KV) : Prop :=
  kBnd len hi fun h => chk (Nat.beq z e.size) 97 (cnd (slB l h len mv) (fN (Nat.add off (natI l)) fun o => fN (Nat.sub (natI h) (natI l)) fun n => fB (clipV clip len h mv) fun cl => K (.ro u cl e o n c) zm nx [] []))
def kSlN (l : Int) (hi : Option KV) (mv : Option Int) (zm : KZ) (nx : Nat) (K : KT) : Prop := kBnd 0 hi fun h => cnd (slB l h 0 mv) (K .nils zm nx [] [])
def kSl (z : Nat) (x : KV) (l : Int) (hi : Option KV) (mv : Option Int) (zm : KZ) (nx : Nat) (K : KT) : Prop :=
  onSl (kSlL z l hi mv zm nx K) (onRow (kSlW z l hi mv zm nx K) (onRo (kSlR z l hi mv zm nx K) (onNils (kSlN l hi mv zm nx K) (BadN 99) x) x) x) x
def kSaP (n z : Nat) (l : Int) (hi : Option KV) (mv : Option Int) (zm : KZ) (nx : Nat) (K : KT) (id : Nat) (p : List Step) (s : Shape) : Prop :=
  shA s (fun n' e => kBnd n hi fun h => chk (nd (Nat.beq n' n) (Nat.beq z e.size)) 100 (cnd (slB l h n mv) (kSlO id p e 0 (some n) l h mv zm nx [] K))) (BadN 101)
def kSaR (n z : Nat) (l : Int) (hi : Option KV) (mv : Option Int) (zm : KZ) (nx : Nat) (K : KT) (u : Bool) (s : Shape) (c : KV) : Prop :=
  shA s (fun n' e => kBnd n hi fun h => chk (nd (Nat.beq n' n) (nd (Nat.beq z e.size) (arN c n))) 102 (cnd (slB l h n mv) (fN (natI l) fun o => fN (Nat.sub (natI h) (natI l)) fun m => fB (clipV true n h mv) fun cl => K (.ro u cl e o m c) zm nx [] []))) (BadN 103)
def kSa (n z : Nat) (x : KV) (l : Int) (hi : Option KV) (mv : Option Int) (zm : KZ) (nx : Nat) (K : KT) : Prop :=
  onPtr (kSaP n z l hi mv zm nx K) (onRef (kSaR n z l hi mv zm nx K) (BadN 104) x) x
def kSs (x : KV) (l : Int) (hi : Option KV) (mv : Option Int) (zm : KZ) (nx : Nat) (K : KT) : Prop :=
  onStr (fun n s => @Option.rec Int (fun _ => Prop) (kBnd n hi fun h => cnd (slB l h n none) (fN (Nat.sub (natI h) (natI l)) fun m => fN (pkx .u8 s (natI l) m) fun y => K (.str m y) zm nx [] [])) (fun _ => BadN 105) mv) (BadN 106) x
def opB (mx hi : Option KV) : Bool := mx.isNone || hi.isSome
def kSlice (P : Program) (t : TypeId) (x : KV) (low hi mx : Option KV) (zm : KZ) (nx : Nat) (K : KT) : Prop :=
  chk (opB mx hi) 107 (kBnd 0 low fun l => kMx mx fun mv => @SlS.rec (fun _ => Prop) (fun z => kSl z x l hi mv zm nx K) (fun n z => kSa n z x l hi mv zm nx K) (kSs x l hi mv zm nx K) (BadN 108) (slS P t))
omit [KGl] in
theorem bytes_extract {n x l h : Nat} (h1 : l ≤ h) (h2 : h ≤ n) : (bytesOf n x).extract l h = bytesOf (h - l) (pkx .u8 x l (h - l)) := by
  apply ByteArray.ext
  apply Array.ext'
  show (((bytesOf n x).extract l h).data).toList = (List.range (h - l)).map _
  rw [ByteArray.data_extract, Array.toList_extract]
  show List.extract ((List.range n).map fun i => UInt8.ofNat (pkr .u8 x i)) l h = _
  rw [List.extract_eq_take_drop]
  apply List.ext_getElem?
  intro i
  rw [List.getElem?_take, List.getElem?_map, List.getElem?_drop, List.getElem?_map]
  by_cases hi : i < h - l
  · rw [if_pos hi, List.getElem?_range (by omega), List.getElem?_range hi, Option.map_some, Option.map_some, pkr_pkx hi]
  · rw [if_neg hi, List.getElem?_eq_none (by simp; omega)]; rfl
theorem map_ov {x : Option Operand} : (x.map (kev τ)).map KV.v = x.map (opv Gl.G (tv' τ)) := by
  cases x with
  | none => rfl
  | some y => exact congrArg some (kev_v τ y)
theorem opB_v {x y : Option Operand} (h : opB (x.map (kev τ)) (y.map (kev τ)) = true) : ((x.map (opv Gl.G (tv' τ))).isNone || (y.map (opv Gl.G (tv' τ))).isSome) = true := by
  unfold opB at h
  revert h
  cases x <;> cases y <;> intro h <;> first | rfl | exact h
theorem kSlO_s {id : Nat} {p : List Step} {e : Shape} {off : Nat} {cap : Option Nat} {l h : Int} {mv : Option Int} {rd : List Nat} (hk : kSlO id p e off cap l h mv zm nx rd K) :
    K (.sl id p e (off + l.toNat) (h.toNat - l.toNat) (subO l.toNat cap mv)) zm nx [] rd := by
  unfold kSlO at hk
  rw [fN_eq, fN_eq, fO_eq, natI_eq, natI_eq] at hk
  exact hk
theorem kSlice_s {t : TypeId} {x : Operand} {low hi mx : Option Operand} (ho : o.op = .slice t x low hi mx) (h : kSlice P t (kev τ x) (low.map (kev τ)) (hi.map (kev τ)) (mx.map (kev τ)) zm nx K) : Out P B o τ lo zm nx K := by
  have hx := kev_v τ x
  obtain ⟨h0, h1⟩ := chk_inv h
  have hob := opB_v h0
  obtain ⟨l, h2, h3⟩ := kBnd_s h1
  obtain ⟨mv, h4, h5⟩ := kMx_s h3
  rw [map_ov] at h2 h4
  replace h2 : V.bnd 0 (low.map (opv Gl.G (tv' τ))) = some l := h2
  have fin : ∀ {v : KV} {rd : List Nat} {w : V}, K v zm nx [] rd → (ySlice P t (opv Gl.G (tv' τ) x) (low.map (opv Gl.G (tv' τ))) (hi.map (opv Gl.G (tv' τ))) (mx.map (opv Gl.G (tv' τ))) (am zm)).is ⟨w, [], [], rd⟩ → w = v.v → Out P B o τ lo zm nx K := fun hk hy hw =>
    Out.pure hk (ySlice_s ho hy) (by rw [hw]; exact EImp.refl _)
  unfold slS at h5
  split at h5
  · rename_i el hu
    split at h5
    · rename_i i hinf
      have h6 : kSl i.size (kev τ x) l (hi.map (kev τ)) mv zm nx K := h5
      rcases onSl_inv h6 with ⟨id, p, e, off, len, cap, hp, h7⟩ | ⟨_, h7⟩
      · obtain ⟨h, h8, h9⟩ := kBnd_s h7
        rw [map_ov] at h8
        obtain ⟨h10, h11⟩ := chk_inv h9
        obtain ⟨h12, h13⟩ := cnd_iff.1 h11
        rw [hp] at hx
        refine fin (kSlO_s h13) ?_ rfl
        unfold ySlice
        rw [if_pos hob, h2, h4, hu, ← hx]
        simp only [ySl, hinf, v_sl, beqE h10, if_true, h8]
        exact tstE h12
      rcases onRow_inv h7 with ⟨id, e, len, hp, h7⟩ | ⟨_, h7⟩
      · obtain ⟨k, sh, v, hb, h7⟩ := oB_inv h7
        obtain ⟨h, h8, h9⟩ := kBnd_s h7
        rw [map_ov] at h8
        obtain ⟨h10, h11⟩ := chk_inv h9
        obtain ⟨h12, h13⟩ := cnd_iff.1 h11
        rw [nd_iff] at h10
        rw [hp] at hx
        refine fin (w := .sl id [] e l.toNat (h.toNat - l.toNat) (subO l.toNat none mv)) (kSlO_s h13) ?_ (by rw [Nat.zero_add]; rfl)
        unfold ySlice
        rw [if_pos hob, h2, h4, hu, ← hx]
        simp only [ySl, hinf, v_row, am_some hb, KBlk.b, isAl_eq, h10.1, beqE h10.2, and_self, if_true, h8]
        exact tstE h12
      rcases onRo_inv h7 with ⟨u, clip, e, off, len, c, hp, h7⟩ | ⟨_, h7⟩
      · obtain ⟨h, h8, h9⟩ := kBnd_s h7
        rw [map_ov] at h8
        obtain ⟨h10, h11⟩ := chk_inv h9
        obtain ⟨h12, h13⟩ := cnd_iff.1 h11
        rw [fN_eq, fN_eq, fB_eq, natI_eq, natI_eq] at h13
        rw [hp] at hx
        refine fin (w := .ro u (clipV clip len h mv) e (h.toNat - l.toNat) fun j => c.v.step (.idx (off + (l.toNat + j)))) h13 ?_ (by
          rw [v_ro]
          congr 1
          funext j
          rw [show Nat.add off l.toNat + j = off + (l.toNat + j) from Nat.add_assoc _ _ _])
        unfold ySlice
        rw [if_pos hob, h2, h4, hu, ← hx]
        simp only [ySl, hinf, v_ro, beqE h10, if_true, h8]
        exact tstE h12
      rcases onNils_inv h7 with ⟨hp, h7⟩ | ⟨_, h7⟩
      · obtain ⟨h, h8, h9⟩ := kBnd_s h7
        rw [map_ov] at h8
        rw [hp] at hx
        obtain ⟨h12, h13⟩ := cnd_iff.1 (show cnd (slB l h 0 mv) (K .nils zm nx [] []) from h9)
        refine fin h13 ?_ rfl
        unfold ySlice
        rw [if_pos hob, h2, h4, hu, ← hx]
        simp only [ySl, hinf, v_nils, h8]
        exact tstE h12
      · exact h7.elim
    · exact (show BadN 108 from h5).elim
  · rename_i n el hu
    split at h5
    · rename_i i hinf
      have h6 : kSa n i.size (kev τ x) l (hi.map (kev τ)) mv zm nx K := h5
      rcases onPtr_inv h6 with ⟨id, p, s, hp, h7⟩ | ⟨_, h7⟩
      · obtain ⟨n', e, rfl, hq⟩ := shA_inv h7
        obtain ⟨h, h8, h9⟩ := kBnd_s hq
        rw [map_ov] at h8
        obtain ⟨h10, h11⟩ := chk_inv h9
        obtain ⟨h12, h13⟩ := cnd_iff.1 h11
        rw [nd_iff] at h10
        rw [hp] at hx
        refine fin (w := .sl id p e l.toNat (h.toNat - l.toNat) (subO l.toNat (some n) mv)) (kSlO_s h13) ?_ (by rw [Nat.zero_add]; rfl)
        unfold ySlice
        rw [if_pos hob, h2, h4, hu, ← hx]
        simp only [ySla, hinf, v_ptr, beqE h10.1, beqE h10.2, and_self, if_true, h8]
        exact tstE h12
      rcases onRef_inv h7 with ⟨u, s, c, hp, h7⟩ | ⟨_, h7⟩
      · obtain ⟨n', e, rfl, hq⟩ := shA_inv h7
        obtain ⟨h, h8, h9⟩ := kBnd_s hq
        rw [map_ov] at h8
        obtain ⟨h10, h11⟩ := chk_inv h9
        obtain ⟨h12, h13⟩ := cnd_iff.1 h11
        rw [fN_eq, fN_eq, fB_eq, natI_eq, natI_eq] at h13
        simp only [nd_iff] at h10
        obtain ⟨q1, q2, q3⟩ := h10
        obtain ⟨f, hf⟩ := arN_s q3
        obtain rfl := beqE q1
        rw [hp] at hx
        refine fin (w := .ro u (clipV true n' h mv) e (h.toNat - l.toNat) fun j => f (l.toNat + j)) h13 ?_ (by rw [v_ro, hf]; rfl)
        unfold ySlice
        rw [if_pos hob, h2, h4, hu, ← hx]
        simp only [ySla, hinf, v_ref, hf, beqE q2, and_self, if_true, h8]
        exact tstE h12
      · exact h7.elim
    · exact (show BadN 108 from h5).elim
  · rename_i hu
    have h6 : kSs (kev τ x) l (hi.map (kev τ)) mv zm nx K := h5
    rcases onStr_inv h6 with ⟨n, s, hp, h7⟩ | ⟨_, h7⟩
    · cases mv with
      | some _ => exact (show BadN 105 from h7).elim
      | none =>
        have h7 : kBnd n (hi.map (kev τ)) (fun h => cnd (slB l h n none) (fN (Nat.sub (natI h) (natI l)) fun m => fN (pkx .u8 s (natI l) m) fun y => K (.str m y) zm nx [] [])) := h7
        obtain ⟨h, h8, h9⟩ := kBnd_s h7
        rw [map_ov] at h8
        obtain ⟨h12, h13⟩ := cnd_iff.1 h9
        rw [fN_eq, fN_eq, natI_eq, natI_eq] at h13
        rw [hp] at hx
        have hsz : (bytesOf n s).size = n := by show ((List.range n).map _).length = n; simp
        have hb : l.toNat ≤ h.toNat ∧ h.toNat ≤ n := by
          unfold slB at h12
          simp only [Bool.and_eq_true, leI_eq, decide_eq_true_eq, Int.ofNat_eq_natCast] at h12
          omega
        refine fin (w := .str ((bytesOf n s).extract l.toNat h.toNat)) h13 ?_ (by rw [bytes_extract hb.1 hb.2]; rfl)
        unfold ySlice
        rw [if_pos hob, h2, h4, hu, ← hx]
        simp only [v_str, hsz, h8]
        exact tstE h12
    · exact h7.elim
  · exact (show BadN 108 from h5).elim
end
end
end Go.K
namespace Go.Ab
open Go.RowKit
theorem FC.v_nil (c : FC 2147483648) : c.v = .nilIface := by
  unfold FC.v
  rw [if_neg (by decide)]
  split
  · rw [if_pos rfl]
  · rfl
theorem FC.v_if {f : FuncId} (h : 2147483648 < f) (c : FC f) : ∃ x, c.v = .iface (f - 2147483649) x ∧ c.l = [x] := by
  have h1 := c.one h
  have h2 : ¬ f < 2147483648 := Nat.not_lt.2 (Nat.le_of_lt h)
  have h3 : ¬ f < 1073741824 := fun q => h2 (Nat.lt_trans q (by decide))
  have h4 : f ≠ 2147483648 := fun q => by rw [q] at h; exact absurd h (Nat.lt_irrefl _)
  obtain ⟨x, hx⟩ := Array.size_eq_one_iff.1 h1
  refine ⟨x, ?_, ?_⟩
  · unfold FC.v
    rw [if_neg h2, hx]
    show (if f = 2147483648 then Value.nilIface else .iface (f - 2147483649) x) = _
    rw [if_neg h4]
  · unfold FC.l
    rw [if_neg h3, if_neg h2, hx]
def FC.mkI (t : TypeId) (x : Value) : FC (t + 2147483649) := ⟨#[], #[x], fun h => absurd h (Nat.not_lt.2 (Nat.le_trans (by decide) (Nat.le_add_left 2147483649 t))), fun _ => rfl⟩
theorem ifLt (t : Nat) : 2147483648 < t + 2147483649 := Nat.lt_of_lt_of_le (by decide) (Nat.le_add_left 2147483649 t)
theorem FC.mkI_v (t : TypeId) (x : Value) : (FC.mkI t x).v = .iface t x := by
  have h1 : ¬ t + 2147483649 < 2147483648 := Nat.not_lt.2 (Nat.le_of_lt (ifLt t))
  unfold FC.v
  rw [if_neg h1]
  show (if t + 2147483649 = 2147483648 then Value.nilIface else .iface (t + 2147483649 - 2147483649) x) = _
  rw [if_neg (fun q => by have := ifLt t; rw [q] at this; exact absurd this (Nat.lt_irrefl _)), Nat.add_sub_cancel]
theorem FC.mkI_l (t : TypeId) (x : Value) : (FC.mkI t x).l = [x] := by
  have h1 : ¬ t + 2147483649 < 2147483648 := Nat.not_lt.2 (Nat.le_of_lt (ifLt t))
  unfold FC.l
  rw [if_neg (fun q => h1 (Nat.lt_trans q (by decide))), if_neg h1]
  rfl
end Go.Ab
namespace Go.K
open Go.Ab Go.RowKit Go.Y
noncomputable section
def ifcT (P : Program) (t : TypeId) : Bool := match P.underlying t with
  | some (.interface _) => true
  | _ => false
def notIfc (P : Program) (t : TypeId) : Bool := match P.underlying t with
  | some (.interface _) => false
  | some _ => true
  | none => false
variable [KGl]
section
variable {P : Program} {B : Nat} {o : Oper} {τ : Nat → KV} {lo : Nat} {zm : KZ} {nx : Nat} {K : KT}
def kMkI (P : Program) (t : TypeId) (x : KV) (zm : KZ) (nx : Nat) (K : KT) : Prop := chk (notIfc P t) 261 (fN (Nat.add t 2147483649) fun f => chk (Nat.blt f 8589934592) 266 (K (.fn f (.cons x .nl)) zm nx [] []))
omit [KGl] in
theorem kMkI_r {f : FuncId} {t : TypeId} {v : V} {x : Value} {C : Ctx} (hf : f = t + 2147483649) (h9 : f < 8589934592) (h0 : R C v (.val x)) : R C (.fn f (.cons v .nl)) (.val (.iface t x)) := by
  subst hf
  refine ⟨FC.mkI t x, ?_, ?_, .lt h9⟩
  · show _ = FC.vw _ _
    rw [FC.vw_lt h9]
    exact (FC.mkI_v t _).symm
  · rw [FC.mkI_l]
    exact ⟨_, _, rfl, h0, rfl⟩
theorem kMkI_s {t : TypeId} {x : Operand} (ho : o.op = .makeInterface t x) (h : kMkI P t (kev τ x) zm nx K) : Out P B o τ lo zm nx K := by
  obtain ⟨h1, h2⟩ := chk_inv h
  rw [fN_eq] at h2
  obtain ⟨f, hf⟩ : ∃ f, f = Nat.add t 2147483649 := ⟨_, rfl⟩
  rw [← hf] at h2
  obtain ⟨h8, h2⟩ := chk_inv h2
  refine Out.pure (e := ⟨_, [], [], []⟩) h2 ⟨OpSem.pure fun C M ρc _ _ hrel => ?_, UpIn.nil⟩ (EImp.refl _)
  have h0 := hrel x (by simp [ho, Op.operands])
  rw [← kev_v] at h0
  refine ⟨.iface t (ρc x), ?_, kMkI_r hf (nblt.1 h8) h0⟩
  unfold notIfc at h1
  cases hu : P.underlying t with
  | none => rw [hu] at h1; cases h1
  | some u =>
    rw [hu] at h1
    cases u with
    | interface _ => cases h1
    | _ => simp [execOp, ho, Instr.makeInterface, run_underlying hu]
def ifB : Nat := 2147483648
def ifcEq (cst : Bool) (f g : Nat) : Option Bool :=
  @Bool.rec (fun _ => Option Bool) (@Bool.rec (fun _ => Option Bool)
    (@Bool.rec (fun _ => Option Bool) (@Bool.rec (fun _ => Option Bool) (@Bool.rec (fun _ => Option Bool) (some false) none (Nat.beq f g)) (some false) (Nat.beq g 2147483648))
      (@Bool.rec (fun _ => Option Bool) (some false) (@Bool.rec (fun _ => Option Bool) none (some true) cst) (Nat.beq g 2147483648)) (Nat.beq f 2147483648)) none (Nat.blt g 2147483648)) none (Nat.blt f 2147483648)
def cstO (x : Operand) : Bool := match x with
  | .const _ => true
  | _ => false
omit [KGl] in
theorem ifcEq_s {cst : Bool} {f g : Nat} {b : Bool} (h : ifcEq cst f g = some b) :
    (f = 2147483648 ∧ g = 2147483648 ∧ cst = true ∧ b = true) ∨ (f = 2147483648 ∧ 2147483648 < g ∧ b = false) ∨ (2147483648 < f ∧ g = 2147483648 ∧ b = false) ∨ (2147483648 < f ∧ 2147483648 < g ∧ f ≠ g ∧ b = false) := by
  unfold ifcEq at h
  cases h1 : Nat.blt f 2147483648 with
  | true => rw [h1] at h; cases h
  | false =>
    rw [h1] at h
    cases h2 : Nat.blt g 2147483648 with
    | true => rw [h2] at h; cases h
    | false =>
      rw [h2] at h
      have h1' : ¬ f < 2147483648 := fun q => by rw [← Nat.blt_eq, h1] at q; cases q
      have h2' : ¬ g < 2147483648 := fun q => by rw [← Nat.blt_eq, h2] at q; cases q
      have h1'' := Nat.not_lt.1 h1'
      have h2'' := Nat.not_lt.1 h2'
      cases h3 : Nat.beq f 2147483648 with
      | true =>
        rw [h3] at h
        have h3' := Nat.eq_of_beq_eq_true h3
        cases h4 : Nat.beq g 2147483648 with
        | true =>
          rw [h4] at h
          cases cst with
          | true => cases h; exact .inl ⟨h3', Nat.eq_of_beq_eq_true h4, rfl, rfl⟩
          | false => cases h
        | false =>
          rw [h4] at h; cases h
          exact .inr (.inl ⟨h3', Nat.lt_of_le_of_ne h2'' fun q => Nat.ne_of_beq_eq_false h4 q.symm, rfl⟩)
      | false =>
        rw [h3] at h
        have h3' : 2147483648 < f := Nat.lt_of_le_of_ne h1'' fun q => Nat.ne_of_beq_eq_false h3 q.symm
        cases h4 : Nat.beq g 2147483648 with
        | true => rw [h4] at h; cases h; exact .inr (.inr (.inl ⟨h3', Nat.eq_of_beq_eq_true h4, rfl⟩))
        | false =>
          rw [h4] at h
          have h4' : 2147483648 < g := Nat.lt_of_le_of_ne h2'' fun q => Nat.ne_of_beq_eq_false h4 q.symm
          cases h5 : Nat.beq f g with
          | true => rw [h5] at h; cases h
          | false => rw [h5] at h; cases h; exact .inr (.inr (.inr ⟨h3', h4', Nat.ne_of_beq_eq_false h5, rfl⟩))
omit [KGl] in
theorem cstO_m (x : Operand) : (x matches .const _) = cstO x := by cases x <;> rfl
omit [KGl] in
theorem eqI_nn {t : TypeId} {ms : _} (hu : P.underlying t = some (.interface ms)) (w : World) : (Op.equal t .nilIface .nilIface).run P w = .ok true w := by
  have h : ∀ k : Nat, (Op.equalIn (k + 1) t .nilIface .nilIface).run P w = .ok true w := fun k => by simp [Op.equalIn, run_underlying hu]
  simp [Op.equal, Op.maxDepth, h 9999]
omit [KGl] in
theorem eqI_ni {t : TypeId} {ms : _} (hu : P.underlying t = some (.interface ms)) (a : TypeId) (x : Value) (w : World) : (Op.equal t .nilIface (.iface a x)).run P w = .ok false w := by
  have h : ∀ k : Nat, (Op.equalIn (k + 1) t .nilIface (.iface a x)).run P w = .ok false w := fun k => by simp [Op.equalIn, run_underlying hu]
  simp [Op.equal, Op.maxDepth, h 9999]
omit [KGl] in
theorem eqI_in {t : TypeId} {ms : _} (hu : P.underlying t = some (.interface ms)) (a : TypeId) (x : Value) (w : World) : (Op.equal t (.iface a x) .nilIface).run P w = .ok false w := by
  have h : ∀ k : Nat, (Op.equalIn (k + 1) t (.iface a x) .nilIface).run P w = .ok false w := fun k => by simp [Op.equalIn, run_underlying hu]
  simp [Op.equal, Op.maxDepth, h 9999]
omit [KGl] in
theorem eqI_ii {t : TypeId} {ms : _} (hu : P.underlying t = some (.interface ms)) (a b : TypeId) (x y : Value) (hne : a ≠ b) (w : World) : (Op.equal t (.iface a x) (.iface b y)).run P w = .ok false w := by
  have h : ∀ k : Nat, (Op.equalIn (k + 1) t (.iface a x) (.iface b y)).run P w = .ok false w := fun k => by simp [Op.equalIn, run_underlying hu, hne]
  simp [Op.equal, Op.maxDepth, h 9999]
omit [KGl] in
theorem subNe {k f g : Nat} (hf : k < f) (hg : k < g) (h : f ≠ g) : f - (k + 1) ≠ g - (k + 1) := by omega
omit [KGl] in
theorem run_ifcEq {t : TypeId} {ms : _} {f g : FuncId} (c : FC f) (d : FC g) {cst b : Bool} (hu : P.underlying t = some (.interface ms)) (h : ifcEq cst f g = some b) (w : World) :
    (Op.equal t c.v d.v).run P w = .ok b w := by
  rcases ifcEq_s h with ⟨rfl, rfl, _, rfl⟩ | ⟨rfl, hg, rfl⟩ | ⟨hf, rfl, rfl⟩ | ⟨hf, hg, hne, rfl⟩
  · rw [c.v_nil, d.v_nil]
    exact eqI_nn hu w
  · obtain ⟨x, hx, _⟩ := d.v_if hg
    rw [c.v_nil, hx]
    exact eqI_ni hu _ _ w
  · obtain ⟨x, hx, _⟩ := c.v_if hf
    rw [d.v_nil, hx]
    exact eqI_in hu _ _ w
  · obtain ⟨x, hx, _⟩ := c.v_if hf
    obtain ⟨y, hy, _⟩ := d.v_if hg
    rw [hx, hy]
    exact eqI_ii hu _ _ _ _ (subNe hf hg hne) w
omit [KGl] in
theorem run_guardI {op : BinOp} {t : TypeId} {x y : Operand} {f g : FuncId} (c : FC f) (d : FC g) {b : Bool} (h : ifcEq (cstO x || cstO y) f g = some b) (w : World) :
    (eqGuard op t x y c.v d.v).run P w = .ok () w := by
  unfold eqGuard
  rcases ifcEq_s h with ⟨rfl, rfl, hc, _⟩ | ⟨rfl, hg, _⟩ | ⟨hf, rfl, _⟩ | ⟨hf, hg, _, _⟩
  · rw [c.v_nil, d.v_nil]
    cases x with
    | const v => by_cases hop : (op matches .eql | .neq) <;> simp [hop]
    | _ => cases y with
      | const v => by_cases hop : (op matches .eql | .neq) <;> simp [hop]
      | _ => exact absurd (show false = true from hc) (by decide)
  · obtain ⟨x, hx, _⟩ := d.v_if hg
    rw [c.v_nil, hx]
    by_cases hop : (op matches .eql | .neq) <;> simp [hop]
  · obtain ⟨x, hx, _⟩ := c.v_if hf
    rw [d.v_nil, hx]
    by_cases hop : (op matches .eql | .neq) <;> simp [hop]
  · obtain ⟨x, hx, _⟩ := c.v_if hf
    obtain ⟨y, hy, _⟩ := d.v_if hg
    rw [hx, hy]
    by_cases hop : (op matches .eql | .neq) <;> simp [hop]
def kEqI (P : Program) (op : BinOp) (t : TypeId) (cst : Bool) (f g : Nat) (zm : KZ) (nx : Nat) (K : KT) : Prop := chk (nd (ifcT P t) (nd (Nat.blt f 8589934592) (Nat.blt g 8589934592))) 262 (os 263 (fun b => eqn op b fun b => K (.bool b) zm nx [] []) (ifcEq cst f g))
omit [KGl] in
theorem FC.v_cases {f : FuncId} (h : ¬ f < 2147483648) (c : FC f) : c.v = .nilIface ∨ ∃ t x, c.v = .iface t x := by
  rcases Nat.lt_or_eq_of_le (Nat.not_lt.1 h) with h | h
  · obtain ⟨x, hx, _⟩ := c.v_if h; exact .inr ⟨_, x, hx⟩
  · subst h; exact .inl c.v_nil
theorem kEqI_s {op : BinOp} {t t' : TypeId} {x y : Operand} {f g : FuncId} {cx cy : KV} (ho : o.op = .binOp op t x y t') (hx : kev τ x = .fn f cx) (hy : kev τ y = .fn g cy)
    (h : kEqI P op t (cstO x || cstO y) f g zm nx K) : Out P B o τ lo zm nx K := by
  obtain ⟨h1, h2⟩ := chk_inv h
  obtain ⟨h1, h8⟩ := nd_iff.1 h1
  obtain ⟨h8, h9⟩ := nd_iff.1 h8
  have hf9 : f < 8589934592 := nblt.1 h8
  have hg9 : g < 8589934592 := nblt.1 h9
  obtain ⟨b, h3, h4⟩ := os_inv h2
  obtain ⟨ms, hu⟩ : ∃ ms, P.underlying t = some (.interface ms) := by
    unfold ifcT at h1
    split at h1
    · exact ⟨_, by assumption⟩
    · cases h1
  have hvx := kev_v τ x
  have hvy := kev_v τ y
  rw [hx] at hvx; rw [hy] at hvy
  have key : ∀ C (ρc : Operand → Value), (∀ x ∈ o.op.operands.toList, R C (opv Gl.G (tv' τ) x) (.val (ρc x))) → ∃ (c : FC f) (d : FC g), ρc x = c.v ∧ ρc y = d.v := by
    intro C ρc hrel
    have q1 := hrel x (by simp [ho, Op.operands])
    have q2 := hrel y (by simp [ho, Op.operands])
    rw [← hvx] at q1; rw [← hvy] at q2
    obtain ⟨c, q3, _⟩ := q1
    obtain ⟨d, q4, _⟩ := q2
    exact ⟨c, d, (show ρc x = c.vw C.w from q3).trans (c.vw_lt hf9 _), (show ρc y = d.vw C.w from q4).trans (d.vw_lt hg9 _)⟩
  have hge : ¬ f < 2147483648 ∧ ¬ g < 2147483648 := by
    rcases ifcEq_s h3 with ⟨rfl, rfl, _⟩ | ⟨rfl, q, _⟩ | ⟨q, rfl, _⟩ | ⟨q, q', _⟩
    · exact ⟨Nat.lt_irrefl _, Nat.lt_irrefl _⟩
    · exact ⟨Nat.lt_irrefl _, Nat.not_lt.2 (Nat.le_of_lt q)⟩
    · exact ⟨Nat.not_lt.2 (Nat.le_of_lt q), Nat.lt_irrefl _⟩
    · exact ⟨Nat.not_lt.2 (Nat.le_of_lt q), Nat.not_lt.2 (Nat.le_of_lt q')⟩
  rcases eqn_inv h4 with ⟨rfl, h5⟩ | ⟨rfl, h5⟩
  · refine Out.pure (e := pureE (.bool b)) h5 ⟨OpSem.pure fun C M ρc _ _ hrel => ?_, UpIn.nil⟩ (EImp.refl _)
    obtain ⟨c, d, q1, q2⟩ := key C ρc hrel
    refine ⟨.bool b, ?_, rfl⟩
    have hb : binOp .eql t c.v d.v = (do pure (.bool (← Op.equal t c.v d.v))) := by
      rcases FC.v_cases hge.1 c with q | ⟨_, _, q⟩ <;> rcases FC.v_cases hge.2 d with q' | ⟨_, _, q'⟩ <;> rw [q, q'] <;> rfl
    simp [execOp, ho, q1, q2, run_guardI c d h3, hb, run_ifcEq c d hu h3]
  · refine Out.pure (e := pureE (.bool !b)) h5 ⟨OpSem.pure fun C M ρc _ _ hrel => ?_, UpIn.nil⟩ (EImp.refl _)
    obtain ⟨c, d, q1, q2⟩ := key C ρc hrel
    refine ⟨.bool !b, ?_, rfl⟩
    have hb : binOp .neq t c.v d.v = (do pure (.bool (!(← Op.equal t c.v d.v)))) := by
      rcases FC.v_cases hge.1 c with q | ⟨_, _, q⟩ <;> rcases FC.v_cases hge.2 d with q' | ⟨_, _, q'⟩ <;> rw [q, q'] <;> rfl
    simp [execOp, ho, q1, q2, run_guardI c d h3, hb, run_ifcEq c d hu h3]
def kBinI (P : Program) (op : BinOp) (t : TypeId) (cst : Bool) (x y : KV) (zm : KZ) (nx : Nat) (K : KT) : Prop :=
  onFn (fun f _ => onFn (fun g _ => kEqI P op t cst f g zm nx K) (BadN 265) y) (kBin P op t x y zm nx K) x
theorem kBinI_s {op : BinOp} {t t' : TypeId} {x y : Operand} (ho : o.op = .binOp op t x y t') (h : kBinI P op t (cstO x || cstO y) (kev τ x) (kev τ y) zm nx K) : Out P B o τ lo zm nx K := by
  rcases onFn_inv h with ⟨f, cx, hx, h1⟩ | ⟨_, h1⟩
  · rcases onFn_inv h1 with ⟨g, cy, hy, h2⟩ | ⟨_, h2⟩
    · exact kEqI_s ho hx hy h2
    · exact h2.elim
  · exact kBin_s ho h1
end
end
end Go.K
