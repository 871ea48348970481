/- Single operations: parts, lengths, slices, conversions. No condition. Single operations: what is made, appended, copied, converted. No condition. -/
import Derived.Test.YtlaekgadfkpbdaaGreatDoorK4
set_option linter.unusedVariables false
set_option linter.unusedSimpArgs false
namespace Go.K
open Go.Ab Go.RowKit Go.Y
noncomputable section
variable [KGl]
section
variable {P : Program} {B : Nat} {o : Oper} {τ : Nat → KV} {lo : Nat} {zm : KZ} {nx : Nat} {K : KT}

/-! ### Lists -/
def knth (k : Nat) : KV → (KV → Prop) → Prop := @Nat.rec (fun _ => KV → (KV → Prop) → Prop) (fun l K => onCons (fun h _ => K h) (BadN 80) l) (fun _ ih l K => onCons (fun _ t => ih t K) (BadN 80) l) k
omit [KGl] in
theorem knth_s : ∀ (k : Nat) (l : KV) (K : KV → Prop), knth k l K → ∃ v, K v ∧ l.v.nth k = some v.v
  | 0, l, K, h => by
    rcases onCons_inv (show onCons (fun h _ => K h) (BadN 80) l from h) with ⟨a, b, rfl, h1⟩ | ⟨_, h1⟩
    · exact ⟨a, h1, rfl⟩
    · exact h1.elim
  | k + 1, l, K, h => by
    rcases onCons_inv (show onCons (fun _ t => knth k t K) (BadN 80) l from h) with ⟨a, b, rfl, h1⟩ | ⟨_, h1⟩
    · exact knth_s k b K h1
    · exact h1.elim
def kExtract (x : KV) (k : Nat) (zm : KZ) (nx : Nat) (K : KT) : Prop := onTup (fun l => knth k l fun v => K v zm nx [] []) (BadN 81) x
theorem kExtract_s {x : Operand} {k : Nat} (ho : o.op = .extract x k) (h : kExtract (kev τ x) k zm nx K) : Out P B o τ lo zm nx K := by
  have hx := kev_v τ x
  rcases onTup_inv h with ⟨l, hl, h1⟩ | ⟨_, h1⟩
  · obtain ⟨v, h2, h3⟩ := knth_s k l _ h1
    rw [hl] at hx
    exact Out.pure h2 (yExtract_s (e := pureE v.v) ho (by rw [← hx]; show (yExtract (.tup l.v) k).is _; simp only [yExtract, h3]; rfl)) (EImp.refl _)
  · exact h1.elim
def kPick (c a b : KV) (zm : KZ) (nx : Nat) (K : KT) : Prop := onBool (fun t => alt t (K a zm nx [] []) (K b zm nx [] [])) (BadN 82) c
theorem kPick_s {c a b : Operand} (ho : o.op = .pick c a b) (h : kPick (kev τ c) (kev τ a) (kev τ b) zm nx K) : Out P B o τ lo zm nx K := by
  have hx := kev_v τ c
  rcases onBool_inv h with ⟨t, ht, h1⟩ | ⟨_, h1⟩
  · rw [ht] at hx
    cases t with
    | true => exact Out.pure (v := kev τ a) h1 (yPick_s (e := pureE (kev τ a).v) ho (by rw [← hx, ← kev_v, ← kev_v]; show (okE (V.ite true _ _)).is _; rw [V.ite_true]; rfl)) (EImp.refl _)
    | false => exact Out.pure (v := kev τ b) h1 (yPick_s (e := pureE (kev τ b).v) ho (by rw [← hx, ← kev_v, ← kev_v]; show (okE (V.ite false _ _)).is _; rw [V.ite_false]; rfl)) (EImp.refl _)
  · exact h1.elim
def kmkL (l : List KV) : KV := @List.rec KV (fun _ => KV) .nl (fun x _ ih => .cons x ih) l
omit [KGl] in
theorem kmkL_v : ∀ (l : List KV), (kmkL l).v = mkL (l.map KV.v)
  | [] => rfl
  | x :: l => by show V.cons x.v (kmkL l).v = V.cons x.v (mkL (l.map KV.v)); rw [kmkL_v l]
def isFn0 (f : Fn) : Option FuncId := match f with
  | .func f => some f
  | _ => none
/-- A new map, of which nothing more is known. -/
theorem sem_makeMap {P : Program} {B : Nat} {o : Oper} {ρ : Operand → V} {m : Mem} {n : Nat} {t : TypeId} (ho : o.op = .makeMap t none) : OpSem P B o ρ m n (pureE .unk) := by
  intro C M ρc hsr _ _ hn hrel
  have hrun : (execOp ρc o).run P C.w = .ok (.value (.map (some C.w.heap.size))) (C.w.alloc (.map #[] 0)) := by
    simp only [execOp, ho]
    rfl
  unfold Does
  rw [hrun]
  obtain ⟨h1, h2⟩ := hsr.grown (w' := C.w.alloc (.map #[] 0)) ((Below.refl _ C.w).alloc (Nat.le_refl _) _) C.ok (fun u b h => h) (fun u b h => .inl (.inl h))
  exact ⟨_, rfl, trivial, h2, by rw [put_pure]; exact h1, fun id h => .inl h⟩
def kMakeMap (r : Option Operand) (zm : KZ) (nx : Nat) (K : KT) : Prop := @Option.rec Operand (fun _ => Prop) (K .unk zm nx [] []) (fun _ => BadN 260) r
theorem kMakeMap_s {t : TypeId} {r : Option Operand} (ho : o.op = .makeMap t r) (h : kMakeMap r zm nx K) : Out P B o τ lo zm nx K := by
  cases r with
  | none => exact Out.pure (v := .unk) h ⟨sem_makeMap ho, UpIn.nil⟩ (EImp.refl _)
  | some _ => exact (show BadN 260 from h).elim
def kMakeFunc (f : Fn) (a : List KV) (caps : List KV) (zm : KZ) (nx : Nat) (K : KT) : Prop := os 83 (fun f => chk (Nat.blt f 1073741824) 246 (@List.rec KV (fun _ => Prop) (K (.fn f (kmkL caps)) zm nx [] []) (fun x r _ => fN (Nat.add f 1073741824) fun f => K (.fn f (.cons (.tup (kmkL (x :: r))) (kmkL caps))) zm nx [] []) a)) (isFn0 f)
theorem map_kev (τ : Nat → KV) (l : List Operand) : (l.map (kev τ)).map KV.v = l.map (opv Gl.G (tv' τ)) := by
  rw [List.map_map]; exact List.map_congr_left fun x _ => kev_v τ x
theorem kMakeFunc_s {f : Fn} {a cap : Array Operand} (ho : o.op = .makeFunc f a cap) (h : kMakeFunc f (a.toList.map (kev τ)) (cap.toList.map (kev τ)) zm nx K) : Out P B o τ lo zm nx K := by
  obtain ⟨g, h1, h20⟩ := os_inv h
  obtain ⟨hlt, h2⟩ := chk_inv h20
  clear h20
  rw [Nat.blt_eq] at hlt
  obtain rfl : f = .func g := by
    unfold isFn0 at h1
    split at h1
    · cases h1; rfl
    · cases h1
  cases ha : a.toList.map (kev τ) with
  | nil =>
    rw [ha] at h2
    obtain rfl : a = #[] := by
      have : a.toList = [] := by simpa using ha
      simpa using this
    exact Out.pure (e := pureE (.fn g (mkL (cap.toList.map (opv Gl.G (tv' τ)))))) (show K (.fn g (kmkL (cap.toList.map (kev τ)))) zm nx [] [] from h2) ⟨sem_makeFunc ho hlt, UpIn.nil⟩ (by rw [v_fn, kmkL_v, map_kev]; exact EImp.refl _)
  | cons x r =>
    have h3 : fN (Nat.add g 1073741824) fun f => K (.fn f (.cons (.tup (kmkL (a.toList.map (kev τ)))) (kmkL (cap.toList.map (kev τ))))) zm nx [] [] := by
      rw [ha] at h2 ⊢
      exact h2
    rw [fN_eq] at h3
    exact Out.pure h3 ⟨sem_makeMeth ho hlt, UpIn.nil⟩ (by
      show EImp _ ⟨.fn (g + 1073741824) (.cons (.tup (kmkL (a.toList.map (kev τ))).v) (kmkL (cap.toList.map (kev τ))).v), [], [], []⟩
      rw [kmkL_v, kmkL_v, map_kev, map_kev]; exact EImp.refl _)

/-! ### Lengths -/
/-- Of a length. -/
inductive LnS where
  | sli
  | str
  | arr (k : Nat)
  | bad
def lnS (P : Program) (t : TypeId) : LnS := match P.underlying t with
  | some (.slice _) => .sli
  | some .string => .str
  | some (.array k _) => .arr k
  | _ => .bad
def kSlen (x : KV) (K : Nat → Prop) : Prop := onSl (fun _ _ _ _ len _ => K len) (onRow (fun _ _ n => K n) (onRo (fun _ _ _ _ len _ => K len) (onNils (K 0) (BadN 84) x) x) x) x
omit [KGl] in
theorem kSlen_s {x : KV} {K : Nat → Prop} (h : kSlen x K) : ∃ n, x.v.len = some n ∧ K n := by
  rcases onSl_inv h with ⟨_, _, _, _, len, _, rfl, h1⟩ | ⟨_, h1⟩
  · exact ⟨_, rfl, h1⟩
  rcases onRow_inv h1 with ⟨_, _, n, rfl, h1⟩ | ⟨_, h1⟩
  · exact ⟨_, rfl, h1⟩
  rcases onRo_inv h1 with ⟨_, _, _, _, len, _, rfl, h1⟩ | ⟨_, h1⟩
  · exact ⟨_, rfl, h1⟩
  rcases onNils_inv h1 with ⟨rfl, h1⟩ | ⟨_, h1⟩
  · exact ⟨_, rfl, h1⟩
  · exact h1.elim
def kLenV (x : KV) (zm : KZ) (nx : Nat) (K : KT) (s : LnS) : Prop := @LnS.rec (fun _ => Prop) (kSlen x fun n => fN n fun n => K (.int .i64 (.ofNat n)) zm nx [] []) (onStr (fun n _ => fN n fun n => K (.int .i64 (.ofNat n)) zm nx [] []) (BadN 85) x) (fun k => K (.int .i64 (.ofNat k)) zm nx [] []) (BadN 86) s
def kLen (P : Program) (t : TypeId) (x : KV) (zm : KZ) (nx : Nat) (K : KT) : Prop := kLenV x zm nx K (lnS P t)
theorem kLen_s {t : TypeId} {x : Operand} (ho : o.op = .call ⟨.builtin .len, #[x], #[t]⟩) (h : kLen P t (kev τ x) zm nx K) : Out P B o τ lo zm nx K := by
  have hx := kev_v τ x
  unfold kLen lnS at h
  split at h
  · rename_i e hu
    obtain ⟨n, h1, h2⟩ := kSlen_s (show kSlen (kev τ x) _ from h)
    rw [fN_eq] at h2
    exact Out.pure h2 (yLen_s (e := pureE (.int .i64 n)) ho (by rw [← hx]; unfold yLen; simp only [hu, h1]; rfl)) (EImp.refl _)
  · rename_i hu
    rcases onStr_inv (show onStr (fun n _ => fN n fun n => K (.int .i64 (.ofNat n)) zm nx [] []) (BadN 85) (kev τ x) from h) with ⟨n, s, hs, h1⟩ | ⟨_, h1⟩
    · rw [fN_eq] at h1
      rw [hs] at hx
      have hsz : (bytesOf n s).size = n := by show ((List.range n).map _).length = n; simp
      exact Out.pure h1 (yLen_s (e := pureE (.int .i64 ((bytesOf n s).size : Nat))) ho (by rw [← hx]; unfold yLen; simp only [hu, v_str]; rfl)) (by rw [hsz]; exact EImp.refl _)
    · exact h1.elim
  · rename_i k e hu
    exact Out.pure (v := .int .i64 (.ofNat k)) h (yLen_s (e := pureE (.int .i64 k)) ho (by unfold yLen; simp only [hu]; rfl)) (EImp.refl _)
  · exact (show BadN 86 from h).elim
def isSliT (P : Program) (t : TypeId) : Bool := match P.underlying t with | some (.slice _) => true | _ => false
omit [KGl] in
theorem isSliT_s {t : TypeId} (h : isSliT P t = true) : ∃ e, P.underlying t = some (.slice e) := by
  unfold isSliT at h
  split at h
  · exact ⟨_, ‹_›⟩
  · cases h
def kCap (P : Program) (t : TypeId) (x : KV) (zm : KZ) (nx : Nat) (K : KT) : Prop := chk (isSliT P t) 87
  (onSl (fun _ _ _ _ _ cap => os 88 (fun n => fN n fun n => K (.int .i64 (.ofNat n)) zm nx [] []) cap) (onRo (fun _ clip _ _ len _ => chk clip 89 (fN len fun n => K (.int .i64 (.ofNat n)) zm nx [] [])) (onNils (K (.int .i64 0) zm nx [] []) (BadN 90) x) x) x)
theorem kCap_s {t : TypeId} {x : Operand} (ho : o.op = .call ⟨.builtin .cap, #[x], #[t]⟩) (h : kCap P t (kev τ x) zm nx K) : Out P B o τ lo zm nx K := by
  have hx := kev_v τ x
  obtain ⟨h0, h1⟩ := chk_inv h
  obtain ⟨e, hu⟩ := isSliT_s h0
  rcases onSl_inv h1 with ⟨_, _, _, _, _, cap, hp, h1⟩ | ⟨_, h1⟩
  · obtain ⟨n, rfl, h2⟩ := os_inv h1
    rw [fN_eq] at h2
    rw [hp] at hx
    exact Out.pure h2 (yCap_s (e := pureE (.int .i64 n)) ho (by rw [← hx]; unfold yCap; simp only [hu, v_sl, V.cap]; rfl)) (EImp.refl _)
  rcases onRo_inv h1 with ⟨_, clip, _, _, len, _, hp, h1⟩ | ⟨_, h1⟩
  · obtain ⟨rfl, h2⟩ := chk_inv h1
    rw [fN_eq] at h2
    rw [hp] at hx
    exact Out.pure h2 (yCap_s (e := pureE (.int .i64 len)) ho (by rw [← hx]; unfold yCap; simp only [hu, v_ro, V.cap]; rfl)) (EImp.refl _)
  rcases onNils_inv h1 with ⟨hp, h1⟩ | ⟨_, h1⟩
  · rw [hp] at hx
    exact Out.pure h1 (yCap_s (e := pureE (.int .i64 (0 : Nat))) ho (by rw [← hx]; unfold yCap; simp only [hu, v_nils, V.cap]; rfl)) (EImp.refl _)
  · exact h1.elim
def kMin (x y : KV) (zm : KZ) (nx : Nat) (K : KT) : Prop := onInt (fun k a => onInt (fun _ b => fI (bif ltI b a then b else a) fun r => K (.int k r) zm nx [] []) (BadN 91) y) (BadN 92) x
theorem kMin_s {ts : Array TypeId} {x y : Operand} (ho : o.op = .call ⟨.builtin .min, #[x, y], ts⟩) (h : kMin (kev τ x) (kev τ y) zm nx K) : Out P B o τ lo zm nx K := by
  have hx := kev_v τ x
  have hy := kev_v τ y
  rcases onInt_inv h with ⟨k, a, ha, h1⟩ | ⟨_, h1⟩
  · rcases onInt_inv h1 with ⟨k', b, hb, h2⟩ | ⟨_, h2⟩
    · rw [fI_eq] at h2
      rw [ha] at hx; rw [hb] at hy
      exact Out.pure h2 (yMin_s (e := pureE (minV k a b)) ho (by rw [← hx, ← hy]; rfl)) (EImp.refl _)
    · exact h2.elim
  · exact h1.elim

/-- The greater of two. -/
theorem sem_max {P : Program} {B : Nat} {o : Oper} {ρ : Operand → V} {m : Mem} {n : Nat} {ts : Array TypeId} {x y : Operand} {k k' : IntKind} {a b : Int} (ho : o.op = .call ⟨.builtin .max, #[x, y], ts⟩) (hx : ρ x = .int k a) (hy : ρ y = .int k' b) : OpSem P B o ρ m n (pureE (.int k (bif ltI a b then b else a))) :=
  OpSem.pure fun C M ρc _ _ hrel => by
    obtain ⟨rx, ry⟩ := two_rel (ρ := ρ) ho hrel
    rw [hx] at rx; rw [hy] at ry
    have rx' : ρc x = .int k a := rx
    have ry' : ρc y = .int k' b := ry
    refine ⟨.int k (if b > a then b else a), by simp [execOp, ho, resolve, invoke, builtin, rx', ry', Builtin.max_, Builtin.max2], ?_⟩
    show Value.int k _ = Value.int k _
    rw [ltI_eq]
    by_cases h : a < b <;> simp [h]
def kMax (x y : KV) (zm : KZ) (nx : Nat) (K : KT) : Prop := onInt (fun k a => onInt (fun _ b => fI (bif ltI a b then b else a) fun r => K (.int k r) zm nx [] []) (BadN 91) y) (BadN 92) x
theorem kMax_s {ts : Array TypeId} {x y : Operand} (ho : o.op = .call ⟨.builtin .max, #[x, y], ts⟩) (h : kMax (kev τ x) (kev τ y) zm nx K) : Out P B o τ lo zm nx K := by
  have hx := kev_v τ x
  have hy := kev_v τ y
  rcases onInt_inv h with ⟨k, a, ha, h1⟩ | ⟨_, h1⟩
  · rcases onInt_inv h1 with ⟨k', b, hb, h2⟩ | ⟨_, h2⟩
    · rw [fI_eq] at h2
      rw [ha] at hx; rw [hb] at hy
      exact Out.pure h2 ⟨sem_max ho (by rw [← hx]; rfl) (by rw [← hy]; rfl), UpIn.nil⟩ (EImp.refl _)
    · exact h2.elim
  · exact h1.elim

/-- Is it an array of so many? -/
def arN (c : KV) (n : Nat) : Bool := match c with
  | .pk _ m _ => Nat.beq m n
  | .ar m _ _ => Nat.beq m n
  | _ => false
omit [KGl] in
theorem arN_s {c : KV} {n : Nat} (h : arN c n = true) : ∃ f, c.v = .arr n f := by
  unfold arN at h
  split at h
  · rw [← beqE h]; exact ⟨_, rfl⟩
  · rw [← beqE h]; exact ⟨_, rfl⟩
  · cases h
/-! ### Slice expressions -/
def kBnd (d : Nat) (x : Option KV) (K : Int → Prop) : Prop := @Option.rec KV (fun _ => Prop) (K (.ofNat d)) (fun v => onInt (fun _ n => K n) (BadN 93) v) x
omit [KGl] in
theorem kBnd_s {d : Nat} {x : Option KV} {K : Int → Prop} (h : kBnd d x K) : ∃ n, V.bnd d (x.map KV.v) = some n ∧ K n := by
  cases x with
  | none => exact ⟨_, rfl, h⟩
  | some v =>
    rcases onInt_inv (show onInt (fun _ n => K n) (BadN 93) v from h) with ⟨k, n, rfl, h1⟩ | ⟨_, h1⟩
    · exact ⟨n, rfl, h1⟩
    · exact h1.elim
def kMx (x : Option KV) (K : Option Int → Prop) : Prop := @Option.rec KV (fun _ => Prop) (K none) (fun v => onInt (fun _ n => K (some n)) (BadN 94) v) x
omit [KGl] in
theorem kMx_s {x : Option KV} {K : Option Int → Prop} (h : kMx x K) : ∃ mv, V.mxb (x.map KV.v) = some mv ∧ K mv := by
  cases x with
  | none => exact ⟨_, rfl, h⟩
  | some v =>
    rcases onInt_inv (show onInt (fun _ n => K (some n)) (BadN 94) v from h) with ⟨k, n, rfl, h1⟩ | ⟨_, h1⟩
    · exact ⟨_, rfl, h1⟩
    · exact h1.elim
/-- Of a slice expression: a slice's elements; an array's; a string. -/
inductive SlS where
  | sli (z : Nat)
  | arr (n z : Nat)
  | str
  | bad
def slS (P : Program) (t : TypeId) : SlS := match P.underlying t with
  | some (.slice el) => match P.info? el with
    | some i => .sli i.size
    | none => .bad
  | some (.array n el) => match P.info? el with
    | some i => .arr n i.size
    | none => .bad
  | some .string => .str
  | _ => .bad
def fO (c : Option Nat) (K : Option Nat → Prop) : Prop := @Option.rec Nat (fun _ => Prop) (K none) (fun n => fN n fun n => K (some n)) c
theorem fO_eq (c : Option Nat) (K : Option Nat → Prop) : fO c K = K c := by
  cases c with
  | none => rfl
  | some n => exact fN_eq n fun n => K (some n)
/-- A slice of own memory. -/
def kSlO (id : Nat) (p : List Step) (e : Shape) (off : Nat) (cap : Option Nat) (l h : Int) (mv : Option Int) (zm : KZ) (nx : Nat) (rd : List Nat) (K : KT) : Prop :=
  fN (Nat.add off (natI l)) fun o => fN (Nat.sub (natI h) (natI l)) fun n => fO (subO (natI l) cap mv) fun c => K (.sl id p e o n c) zm nx [] rd
def kSlL (z : Nat) (l : Int) (hi : Option KV) (mv : Option Int) (zm : KZ) (nx : Nat) (K : KT) (id : Nat) (p : List Step) (e : Shape) (off len : Nat) (cap : Option Nat) : Prop :=
  kBnd len hi fun h => chk (Nat.beq z e.size) 95 (cnd (slB l h len mv) (kSlO id p e off cap l h mv zm nx [] K))
def kSlW (z : Nat) (l : Int) (hi : Option KV) (mv : Option Int) (zm : KZ) (nx : Nat) (K : KT) (id : Nat) (e : Shape) (len : Nat) : Prop :=
  oB zm id fun k _ _ => kBnd len hi fun h => chk (nd (isAl k) (Nat.beq z e.size)) 96 (cnd (slB l h len mv) (kSlO id [] e 0 none l h mv zm nx [id] K))
def kSlR (z : Nat) (l : Int) (hi : Option KV) (mv : Option Int) (zm : KZ) (nx : Nat) (K : KT) (u clip : Bool) (e : Shape) (off len : Nat) (c : KV) : Prop :=
  kBnd len hi fun h => chk (Nat.beq z e.size) 97 (cnd (slB l h len mv) (fN (Nat.add off (natI l)) fun o => fN (Nat.sub (natI h) (natI l)) fun n => fB (clipV clip len h mv) fun cl => K (.ro u cl e o n c) zm nx [] []))
def kSlN (l : Int) (hi : Option KV) (mv : Option Int) (zm : KZ) (nx : Nat) (K : KT) : Prop := kBnd 0 hi fun h => @Option.rec Int (fun _ => Prop) (cnd (slB l h 0 none) (K .nils zm nx [] [])) (fun _ => BadN 98) mv
def kSl (z : Nat) (x : KV) (l : Int) (hi : Option KV) (mv : Option Int) (zm : KZ) (nx : Nat) (K : KT) : Prop :=
  onSl (kSlL z l hi mv zm nx K) (onRow (kSlW z l hi mv zm nx K) (onRo (kSlR z l hi mv zm nx K) (onNils (kSlN l hi mv zm nx K) (BadN 99) x) x) x) x
def kSaP (n z : Nat) (l : Int) (hi : Option KV) (mv : Option Int) (zm : KZ) (nx : Nat) (K : KT) (id : Nat) (p : List Step) (s : Shape) : Prop :=
  shA s (fun n' e => kBnd n hi fun h => chk (nd (Nat.beq n' n) (Nat.beq z e.size)) 100 (cnd (slB l h n mv) (kSlO id p e 0 (some n) l h mv zm nx [] K))) (BadN 101)
def kSaR (n z : Nat) (l : Int) (hi : Option KV) (mv : Option Int) (zm : KZ) (nx : Nat) (K : KT) (u : Bool) (s : Shape) (c : KV) : Prop :=
  shA s (fun n' e => kBnd n hi fun h => chk (nd (Nat.beq n' n) (nd (Nat.beq z e.size) (arN c n))) 102 (cnd (slB l h n mv) (fN (natI l) fun o => fN (Nat.sub (natI h) (natI l)) fun m => fB (clipV true n h mv) fun cl => K (.ro u cl e o m c) zm nx [] []))) (BadN 103)
def kSa (n z : Nat) (x : KV) (l : Int) (hi : Option KV) (mv : Option Int) (zm : KZ) (nx : Nat) (K : KT) : Prop :=
  onPtr (kSaP n z l hi mv zm nx K) (onRef (kSaR n z l hi mv zm nx K) (BadN 104) x) x
def kSs (x : KV) (l : Int) (hi : Option KV) (mv : Option Int) (zm : KZ) (nx : Nat) (K : KT) : Prop :=
  onStr (fun n s => @Option.rec Int (fun _ => Prop) (kBnd n hi fun h => cnd (slB l h n none) (fN (Nat.sub (natI h) (natI l)) fun m => fN (pkx .u8 s (natI l) m) fun y => K (.str m y) zm nx [] [])) (fun _ => BadN 105) mv) (BadN 106) x
def opB (mx hi : Option KV) : Bool := mx.isNone || hi.isSome
def kSlice (P : Program) (t : TypeId) (x : KV) (low hi mx : Option KV) (zm : KZ) (nx : Nat) (K : KT) : Prop :=
  chk (opB mx hi) 107 (kBnd 0 low fun l => kMx mx fun mv => @SlS.rec (fun _ => Prop) (fun z => kSl z x l hi mv zm nx K) (fun n z => kSa n z x l hi mv zm nx K) (kSs x l hi mv zm nx K) (BadN 108) (slS P t))
omit [KGl] in
theorem bytes_extract {n x l h : Nat} (h1 : l ≤ h) (h2 : h ≤ n) : (bytesOf n x).extract l h = bytesOf (h - l) (pkx .u8 x l (h - l)) := by
  apply ByteArray.ext
  apply Array.ext'
  show (((bytesOf n x).extract l h).data).toList = (List.range (h - l)).map _
  rw [ByteArray.data_extract, Array.toList_extract]
  show List.extract ((List.range n).map fun i => UInt8.ofNat (pkr .u8 x i)) l h = _
  rw [List.extract_eq_take_drop]
  apply List.ext_getElem?
  intro i
  rw [List.getElem?_take, List.getElem?_map, List.getElem?_drop, List.getElem?_map]
  by_cases hi : i < h - l
  · rw [if_pos hi, List.getElem?_range (by omega), List.getElem?_range hi, Option.map_some, Option.map_some, pkr_pkx hi]
  · rw [if_neg hi, List.getElem?_eq_none (by simp; omega)]; rfl
theorem map_ov {x : Option Operand} : (x.map (kev τ)).map KV.v = x.map (opv Gl.G (tv' τ)) := by
  cases x with
  | none => rfl
  | some y => exact congrArg some (kev_v τ y)
theorem opB_v {x y : Option Operand} (h : opB (x.map (kev τ)) (y.map (kev τ)) = true) : ((x.map (opv Gl.G (tv' τ))).isNone || (y.map (opv Gl.G (tv' τ))).isSome) = true := by
  unfold opB at h
  revert h
  cases x <;> cases y <;> intro h <;> first | rfl | exact h
theorem kSlO_s {id : Nat} {p : List Step} {e : Shape} {off : Nat} {cap : Option Nat} {l h : Int} {mv : Option Int} {rd : List Nat} (hk : kSlO id p e off cap l h mv zm nx rd K) :
    K (.sl id p e (off + l.toNat) (h.toNat - l.toNat) (subO l.toNat cap mv)) zm nx [] rd := by
  unfold kSlO at hk
  rw [fN_eq, fN_eq, fO_eq, natI_eq, natI_eq] at hk
  exact hk
theorem kSlice_s {t : TypeId} {x : Operand} {low hi mx : Option Operand} (ho : o.op = .slice t x low hi mx) (h : kSlice P t (kev τ x) (low.map (kev τ)) (hi.map (kev τ)) (mx.map (kev τ)) zm nx K) : Out P B o τ lo zm nx K := by
  have hx := kev_v τ x
  obtain ⟨h0, h1⟩ := chk_inv h
  have hob := opB_v h0
  obtain ⟨l, h2, h3⟩ := kBnd_s h1
  obtain ⟨mv, h4, h5⟩ := kMx_s h3
  rw [map_ov] at h2 h4
  replace h2 : V.bnd 0 (low.map (opv Gl.G (tv' τ))) = some l := h2
  have fin : ∀ {v : KV} {rd : List Nat} {w : V}, K v zm nx [] rd → (ySlice P t (opv Gl.G (tv' τ) x) (low.map (opv Gl.G (tv' τ))) (hi.map (opv Gl.G (tv' τ))) (mx.map (opv Gl.G (tv' τ))) (am zm)).is ⟨w, [], [], rd⟩ → w = v.v → Out P B o τ lo zm nx K := fun hk hy hw =>
    Out.pure hk (ySlice_s ho hy) (by rw [hw]; exact EImp.refl _)
  unfold slS at h5
  split at h5
  · rename_i el hu
    split at h5
    · rename_i i hinf
      have h6 : kSl i.size (kev τ x) l (hi.map (kev τ)) mv zm nx K := h5
      rcases onSl_inv h6 with ⟨id, p, e, off, len, cap, hp, h7⟩ | ⟨_, h7⟩
      · obtain ⟨h, h8, h9⟩ := kBnd_s h7
        rw [map_ov] at h8
        obtain ⟨h10, h11⟩ := chk_inv h9
        obtain ⟨h12, h13⟩ := cnd_iff.1 h11
        rw [hp] at hx
        refine fin (kSlO_s h13) ?_ rfl
        unfold ySlice
        rw [if_pos hob, h2, h4, hu, ← hx]
        simp only [ySl, hinf, v_sl, beqE h10, if_true, h8]
        exact tstE h12
      rcases onRow_inv h7 with ⟨id, e, len, hp, h7⟩ | ⟨_, h7⟩
      · obtain ⟨k, sh, v, hb, h7⟩ := oB_inv h7
        obtain ⟨h, h8, h9⟩ := kBnd_s h7
        rw [map_ov] at h8
        obtain ⟨h10, h11⟩ := chk_inv h9
        obtain ⟨h12, h13⟩ := cnd_iff.1 h11
        rw [nd_iff] at h10
        rw [hp] at hx
        refine fin (w := .sl id [] e l.toNat (h.toNat - l.toNat) (subO l.toNat none mv)) (kSlO_s h13) ?_ (by rw [Nat.zero_add]; rfl)
        unfold ySlice
        rw [if_pos hob, h2, h4, hu, ← hx]
        simp only [ySl, hinf, v_row, am_some hb, KBlk.b, isAl_eq, h10.1, beqE h10.2, and_self, if_true, h8]
        exact tstE h12
      rcases onRo_inv h7 with ⟨u, clip, e, off, len, c, hp, h7⟩ | ⟨_, h7⟩
      · obtain ⟨h, h8, h9⟩ := kBnd_s h7
        rw [map_ov] at h8
        obtain ⟨h10, h11⟩ := chk_inv h9
        obtain ⟨h12, h13⟩ := cnd_iff.1 h11
        rw [fN_eq, fN_eq, fB_eq, natI_eq, natI_eq] at h13
        rw [hp] at hx
        refine fin (w := .ro u (clipV clip len h mv) e (h.toNat - l.toNat) fun j => c.v.step (.idx (off + (l.toNat + j)))) h13 ?_ (by
          rw [v_ro]
          congr 1
          funext j
          rw [show Nat.add off l.toNat + j = off + (l.toNat + j) from Nat.add_assoc _ _ _])
        unfold ySlice
        rw [if_pos hob, h2, h4, hu, ← hx]
        simp only [ySl, hinf, v_ro, beqE h10, if_true, h8]
        exact tstE h12
      rcases onNils_inv h7 with ⟨hp, h7⟩ | ⟨_, h7⟩
      · obtain ⟨h, h8, h9⟩ := kBnd_s h7
        rw [map_ov] at h8
        rw [hp] at hx
        cases mv with
        | some _ => exact (show BadN 98 from h9).elim
        | none =>
          obtain ⟨h12, h13⟩ := cnd_iff.1 (show cnd (slB l h 0 none) (K .nils zm nx [] []) from h9)
          refine fin h13 ?_ rfl
          unfold ySlice
          rw [if_pos hob, h2, h4, hu, ← hx]
          simp only [ySl, hinf, v_nils, h8]
          exact tstE h12
      · exact h7.elim
    · exact (show BadN 108 from h5).elim
  · rename_i n el hu
    split at h5
    · rename_i i hinf
      have h6 : kSa n i.size (kev τ x) l (hi.map (kev τ)) mv zm nx K := h5
      rcases onPtr_inv h6 with ⟨id, p, s, hp, h7⟩ | ⟨_, h7⟩
      · obtain ⟨n', e, rfl, hq⟩ := shA_inv h7
        obtain ⟨h, h8, h9⟩ := kBnd_s hq
        rw [map_ov] at h8
        obtain ⟨h10, h11⟩ := chk_inv h9
        obtain ⟨h12, h13⟩ := cnd_iff.1 h11
        rw [nd_iff] at h10
        rw [hp] at hx
        refine fin (w := .sl id p e l.toNat (h.toNat - l.toNat) (subO l.toNat (some n) mv)) (kSlO_s h13) ?_ (by rw [Nat.zero_add]; rfl)
        unfold ySlice
        rw [if_pos hob, h2, h4, hu, ← hx]
        simp only [ySla, hinf, v_ptr, beqE h10.1, beqE h10.2, and_self, if_true, h8]
        exact tstE h12
      rcases onRef_inv h7 with ⟨u, s, c, hp, h7⟩ | ⟨_, h7⟩
      · obtain ⟨n', e, rfl, hq⟩ := shA_inv h7
        obtain ⟨h, h8, h9⟩ := kBnd_s hq
        rw [map_ov] at h8
        obtain ⟨h10, h11⟩ := chk_inv h9
        obtain ⟨h12, h13⟩ := cnd_iff.1 h11
        rw [fN_eq, fN_eq, fB_eq, natI_eq, natI_eq] at h13
        simp only [nd_iff] at h10
        obtain ⟨q1, q2, q3⟩ := h10
        obtain ⟨f, hf⟩ := arN_s q3
        obtain rfl := beqE q1
        rw [hp] at hx
        refine fin (w := .ro u (clipV true n' h mv) e (h.toNat - l.toNat) fun j => f (l.toNat + j)) h13 ?_ (by rw [v_ro, hf]; rfl)
        unfold ySlice
        rw [if_pos hob, h2, h4, hu, ← hx]
        simp only [ySla, hinf, v_ref, hf, beqE q2, and_self, if_true, h8]
        exact tstE h12
      · exact h7.elim
    · exact (show BadN 108 from h5).elim
  · rename_i hu
    have h6 : kSs (kev τ x) l (hi.map (kev τ)) mv zm nx K := h5
    rcases onStr_inv h6 with ⟨n, s, hp, h7⟩ | ⟨_, h7⟩
    · cases mv with
      | some _ => exact (show BadN 105 from h7).elim
      | none =>
        have h7 : kBnd n (hi.map (kev τ)) (fun h => cnd (slB l h n none) (fN (Nat.sub (natI h) (natI l)) fun m => fN (pkx .u8 s (natI l) m) fun y => K (.str m y) zm nx [] [])) := h7
        obtain ⟨h, h8, h9⟩ := kBnd_s h7
        rw [map_ov] at h8
        obtain ⟨h12, h13⟩ := cnd_iff.1 h9
        rw [fN_eq, fN_eq, natI_eq, natI_eq] at h13
        rw [hp] at hx
        have hsz : (bytesOf n s).size = n := by show ((List.range n).map _).length = n; simp
        have hb : l.toNat ≤ h.toNat ∧ h.toNat ≤ n := by
          unfold slB at h12
          simp only [Bool.and_eq_true, leI_eq, decide_eq_true_eq, Int.ofNat_eq_natCast] at h12
          omega
        refine fin (w := .str ((bytesOf n s).extract l.toNat h.toNat)) h13 ?_ (by rw [bytes_extract hb.1 hb.2]; rfl)
        unfold ySlice
        rw [if_pos hob, h2, h4, hu, ← hx]
        simp only [v_str, hsz, h8]
        exact tstE h12
    · exact h7.elim
  · exact (show BadN 108 from h5).elim
end
end
end Go.K
set_option linter.unusedVariables false
set_option linter.unusedSimpArgs false
namespace Go.K
open Go.Ab Go.RowKit Go.Y
noncomputable section
variable [KGl]

/-! ### Less is known of arrays -/
omit [KGl] in
theorem Imp.arr {n : Nat} {f g : Nat → V} (h : ∀ i, i < n → Imp (f i) (g i)) : Imp (.arr n f) (.arr n g) := by
  intro C m hr
  cases m with
  | cel s q off => obtain ⟨e, h1, h2⟩ := hr; exact ⟨e, h1, fun i hi => h i hi _ _ (h2 i hi)⟩
  | val v => obtain ⟨cs, e, h1, h2, h3⟩ := hr; exact ⟨cs, e, h1, h2, fun i hi => h i hi _ _ (h3 i hi)⟩
  | list l => exact hr
omit [KGl] in
theorem Imp.arrE {n : Nat} {f g : Nat → V} (h : ∀ i, i < n → f i = g i) : Imp (.arr n f) (.arr n g) := Imp.arr fun i hi => by rw [h i hi]; exact Imp.refl _
omit [KGl] in
theorem Imp.roE {u c : Bool} {e : Shape} {n : Nat} {f g : Nat → V} (h : ∀ i, i < n → f i = g i) : Imp (.ro u c e n f) (.ro u c e n g) := by
  intro C m hr
  obtain ⟨a, k, h1, h2, h3, h4⟩ := hr
  refine ⟨a, k, h1, h2, h3, h4.imp id ?_⟩
  rintro ⟨b, o, h5, h6, h7⟩
  exact ⟨b, o, h5, h6, fun i hi => by rw [← h i hi]; exact h7 i hi⟩
omit [KGl] in
theorem Imp.refE {u : Bool} {s : Shape} {v w : V} (h : Imp v w) : Imp (.ref u s v) (.ref u s w) := by
  intro C m hr
  obtain ⟨b, o, h1, h2, h3⟩ := hr
  exact ⟨b, o, h1, h2, h _ _ h3⟩
section
variable {P : Program} {B : Nat} {o : Oper} {τ : Nat → KV} {lo : Nat} {zm : KZ} {nx : Nat} {K : KT}

/-! ### What is read of a slice -/
def arK (c : KV) : Bool := match c with
  | .pk _ _ _ => true
  | .ar _ _ _ => true
  | _ => false
omit [KGl] in
theorem arK_s {c : KV} (h : arK c = true) : ∃ n f, c.v = .arr n f ∧ ∀ i, f i = (kidx i c).v := by
  unfold arK at h
  split at h
  · exact ⟨_, _, rfl, fun i => rfl⟩
  · exact ⟨_, _, rfl, fun i => by rw [kidx_v]; rfl⟩
  · cases h
/-- Its elements' shape, where they begin, how many, what they lie in, what is looked at. -/
def kSrc (x : KV) (zm : KZ) (F : Shape → Nat → Nat → KV → List Nat → Prop) : Prop :=
  onSl (fun id p e off len _ => oB zm id fun k _ v => chk (nd (isAl k) (pthOk p v)) 110 (fV (kpath p v) fun c => chk (arK c) 111 (F e off len c [id])))
    (onRow (fun id e len => oB zm id fun k _ v => chk (nd (isAl k) (arK v)) 112 (F e 0 len v [id]))
      (onRo (fun _ _ e off len c => F e off len c []) (BadN 113) x) x) x
theorem kSrc_s {x : KV} {F : Shape → Nat → Nat → KV → List Nat → Prop} (h : kSrc x zm F) : ∃ e off len c rd f, F e off len c rd ∧ srcV (am zm) x.v = some (e, len, f, rd) ∧ ∀ i, f i = (kidx (off + i) c).v := by
  rcases onSl_inv h with ⟨id, p, e, off, len, cap, rfl, h1⟩ | ⟨_, h1⟩
  · obtain ⟨k, sh, v, hb, h2⟩ := oB_inv h1
    obtain ⟨h3, h4⟩ := chk_inv h2
    obtain ⟨h3, hpo⟩ := nd_iff.1 h3
    rw [fV_eq] at h4
    obtain ⟨h5, h6⟩ := chk_inv h4
    obtain ⟨n, f, hf, hf'⟩ := arK_s h5
    refine ⟨e, off, len, _, [id], fun i => f (off + i), h6, ?_, fun i => hf' _⟩
    rw [kpath_v p v hpo] at hf
    show srcV (am zm) (.sl id p e off len cap) = _
    simp only [srcV, am_some hb, KBlk.b, isAl_eq, h3, if_true, hf]
  rcases onRow_inv h1 with ⟨id, e, len, rfl, q1⟩ | ⟨_, h1⟩
  · obtain ⟨k, sh, v, hb, h2⟩ := oB_inv q1
    obtain ⟨h3, h4⟩ := chk_inv h2
    rw [nd_iff] at h3
    obtain ⟨n, f, hf, hf'⟩ := arK_s h3.2
    refine ⟨e, 0, len, _, [id], f, h4, ?_, fun i => by rw [Nat.zero_add]; exact hf' i⟩
    show srcV (am zm) (.row id e len) = _
    simp only [srcV, am_some hb, KBlk.b, isAl_eq, h3.1, if_true, hf]
  rcases onRo_inv h1 with ⟨u, cl, e, off, len, c, rfl, q1⟩ | ⟨_, h1⟩
  · refine ⟨e, off, len, c, [], _, q1, rfl, fun i => (kidx_v _ _).symm⟩
  · exact h1.elim
def kSrcW (s : Shape) (x : KV) (zm : KZ) (F : Shape → Nat → Nat → KV → List Nat → Prop) : Prop := onNils (F s 0 0 .unk []) (kSrc x zm F) x
theorem kSrcW_s {s : Shape} {x : KV} {F : Shape → Nat → Nat → KV → List Nat → Prop} (h : kSrcW s x zm F) : ∃ e off len c rd f, F e off len c rd ∧ srcW (am zm) s x.v = some (e, len, f, rd) ∧ ∀ i, i < len → f i = (kidx (off + i) c).v := by
  rcases onNils_inv h with ⟨rfl, h1⟩ | ⟨hn, h1⟩
  · exact ⟨s, 0, 0, .unk, [], _, h1, rfl, fun i hi => by omega⟩
  · obtain ⟨e, off, len, c, rd, f, h2, h3, h4⟩ := kSrc_s h1
    refine ⟨e, off, len, c, rd, f, h2, ?_, fun i _ => h4 i⟩
    unfold srcW
    split
    · rename_i hv; exfalso; unfold srcV at h3; rw [hv] at h3; cases h3
    · exact h3

/-! ### Arrays that are put together -/
/-- So many places, from there on, replaced by others. -/
def kfill (c : KV) (off at' : Nat) (n : Nat) : KV → (KV → Prop) → Prop := @Nat.rec (fun _ => KV → (KV → Prop) → Prop) (fun t K => K t) (fun j ih t K => ih t fun t => fV (kidx (Nat.add off j) c) fun x => ksetK x (enc (Nat.add at' j)) t K) n
theorem kfill_s {c : KV} {off at' : Nat} : ∀ (n : Nat) (t : KV) (K : KV → Prop), kfill c off at' n t K → ∃ t', K t' ∧ ∀ i z, t'.atv (enc i) z = if at' ≤ i ∧ i < at' + n then (kidx (off + (i - at')) c).v else t.atv (enc i) z
  | 0, t, K, h => ⟨t, h, fun i z => by rw [if_neg (by omega)]⟩
  | n + 1, t, K, h => by
    obtain ⟨t', h1, h2⟩ := kfill_s n t _ (show kfill c off at' n t (fun t => fV (kidx (Nat.add off n) c) fun x => ksetK x (enc (Nat.add at' n)) t K) from h)
    rw [fV_eq, ksetK_eq] at h1
    refine ⟨_, h1, fun i z => ?_⟩
    rw [kset_at, h2]
    by_cases hi : i = at' + n
    · subst hi
      rw [if_pos (show at' + n = Nat.add at' n from rfl), if_pos (by omega), show at' + n - at' = n by omega]; rfl
    · rw [if_neg (show ¬ i = Nat.add at' n from hi)]
      by_cases h3 : at' ≤ i ∧ i < at' + n
      · rw [if_pos h3, if_pos (by omega)]
      · rw [if_neg h3, if_neg (by omega)]
/-- One array behind another. -/
def kcatP (len0 : Nat) (c : KV) (off k : Nat) (K : KV → Prop) (off0 : Nat) (kk : IntKind) (_ x0 : Nat) : Prop :=
  onPk (fun kk' _ y => chk (ikEq kk kk') 114 (fN (Nat.add (pkx kk x0 off0 len0) (Nat.shiftLeft (pkx kk y off k) (Nat.mul (wd kk) len0))) fun z => K (.pk kk (Nat.add len0 k) z)))
    (chk (Nat.beq k 0) 115 (K (.pk kk len0 (pkx kk x0 off0 len0)))) c
def kcatA (len0 : Nat) (c : KV) (off k : Nat) (K : KV → Prop) (off0 : Nat) (c0 : KV) (_ : Nat) (d t : KV) : Prop :=
  @Bool.rec (fun _ => Prop) (kfill c0 off0 0 len0 .te fun t => kfill c off len0 k t fun t => K (.ar (Nat.add len0 k) d t)) (kfill c off len0 k t fun t => K (.ar (Nat.add len0 k) d t)) (Nat.beq off0 0)
def kcatN (z : KV) (c : KV) (off k : Nat) (K : KV → Prop) : Prop :=
  onPk (fun kk _ y => fN (pkx kk y off k) fun y => K (.pk kk k y)) (onAr (fun _ d t => @Bool.rec (fun _ => Prop) (kfill c off 0 k .te fun t => K (.ar k d t)) (K (.ar k d t)) (Nat.beq off 0)) (chk (Nat.beq k 0) 116 (K (kzarr 0 z))) c) c
def kcat (z : KV) (c0 : KV) (off0 len0 : Nat) (c : KV) (off k : Nat) (K : KV → Prop) : Prop :=
  @Bool.rec (fun _ => Prop) (onPk (kcatP len0 c off k K off0) (onAr (kcatA len0 c off k K off0 c0) (BadN 117) c0) c0) (kcatN z c off k K) (Nat.beq len0 0)
omit [KGl] in
theorem cat_bits {kk : IntKind} {a b len0 j : Nat} (ha : a < 2 ^ (wd kk * len0)) : pkr kk (a + b <<< (wd kk * len0)) j = if j < len0 then pkr kk a j else pkr kk b (j - len0) := by
  have h0 : a + b <<< (wd kk * len0) = b <<< (wd kk * len0) ||| a := by
    rw [Nat.add_comm, Nat.shiftLeft_eq, Nat.mul_comm b]
    exact Nat.two_pow_add_eq_or_of_lt ha b
  have hbit : ∀ q, (a + b <<< (wd kk * len0)).testBit q = if q < wd kk * len0 then a.testBit q else b.testBit (q - wd kk * len0) := by
    intro q
    rw [h0, Nat.testBit_or, Nat.testBit_shiftLeft]
    by_cases hq : q < wd kk * len0
    · rw [if_pos hq]; simp [show ¬ wd kk * len0 ≤ q by omega]
    · rw [if_neg hq, bit_big ha (by omega)]; simp [show wd kk * len0 ≤ q by omega]
  apply Nat.eq_of_testBit_eq; intro q
  show (bts (a + b <<< (wd kk * len0)) (wd kk * j) (wd kk)).testBit q = _
  rw [bts_bit, hbit]
  by_cases hq : q < wd kk
  · by_cases hj : j < len0
    · have : wd kk * (j + 1) ≤ wd kk * len0 := Nat.mul_le_mul_left _ hj
      rw [Nat.mul_succ] at this
      rw [if_pos (by omega), if_pos hj]
      show _ = (bts a (wd kk * j) (wd kk)).testBit q
      rw [bts_bit]
    · have : wd kk * len0 ≤ wd kk * j := Nat.mul_le_mul_left _ (by omega)
      rw [if_neg (by omega), if_neg hj]
      show _ = (bts b (wd kk * (j - len0)) (wd kk)).testBit q
      rw [bts_bit, Nat.mul_sub, show wd kk * j + q - wd kk * len0 = wd kk * j - wd kk * len0 + q by omega]
  · have h1 : ∀ x y, (pkr kk x y).testBit q = false := fun x y => by
      show (bts x (wd kk * y) (wd kk)).testBit q = false
      rw [bts_bit]; simp [hq]
    simp only [hq, decide_false, Bool.false_and]
    split <;> rw [h1]
theorem kcat_s {z c0 c : KV} {off0 len0 off k : Nat} {K : KV → Prop} (h : kcat z c0 off0 len0 c off k K) : ∃ c' g, K c' ∧ c'.v = .arr (len0 + k) g ∧ ∀ i, i < len0 + k → g i = if i < len0 then (kidx (off0 + i) c0).v else (kidx (off + (i - len0)) c).v := by
  unfold kcat at h
  cases hl : Nat.beq len0 0 with
  | true =>
    obtain rfl := beqE hl
    rw [hl] at h
    rcases onPk_inv (show kcatN z c off k K from h) with ⟨kk, n, y, rfl, h1⟩ | ⟨_, h1⟩
    · rw [fN_eq] at h1
      refine ⟨_, _, h1, by rw [v_pk, Nat.zero_add], fun i hi => ?_⟩
      rw [if_neg (by omega), Nat.sub_zero]
      show V.int kk (dec kk (pkr kk _ i)) = V.int kk (dec kk (pkr kk y (off + i)))
      rw [pkr_pkx (by omega)]
    · rcases onAr_inv h1 with ⟨n, d, t, rfl, q1⟩ | ⟨_, h1⟩
      · cases ho : Nat.beq off 0 with
        | true =>
          obtain rfl := beqE ho
          refine ⟨_, _, (by rw [ho] at q1; exact q1), by rw [v_ar, Nat.zero_add], fun i hi => ?_⟩
          rw [if_neg (by omega), Nat.zero_add, Nat.sub_zero, kidx_v]; rfl
        | false =>
          rw [ho] at q1
          obtain ⟨t', h2, h3⟩ := kfill_s _ _ _ (show kfill (.ar n d t) off 0 k .te _ from q1)
          refine ⟨_, _, h2, by rw [v_ar, Nat.zero_add], fun i hi => ?_⟩
          rw [h3, if_pos (by omega), if_neg (by omega)]
      · obtain ⟨h2, h3⟩ := chk_inv h1
        obtain rfl := beqE h2
        exact ⟨_, _, h3, kzarr_v 0 z, fun i hi => by omega⟩
  | false =>
    rw [hl] at h
    rcases onPk_inv (show onPk (kcatP len0 c off k K off0) _ c0 from h) with ⟨kk, n0, x0, rfl, h1⟩ | ⟨_, h1⟩
    · rcases onPk_inv h1 with ⟨kk', n, y, rfl, h2⟩ | ⟨_, h2⟩
      · obtain ⟨h3, h4⟩ := chk_inv h2
        obtain rfl := ikEq_eq h3
        rw [fN_eq] at h4
        refine ⟨_, _, h4, rfl, fun i hi => ?_⟩
        show V.int kk (dec kk (pkr kk (pkx kk x0 off0 len0 + (pkx kk y off k) <<< (wd kk * len0)) i)) = _
        rw [cat_bits (pkx_lt _ _ _ _)]
        by_cases hi' : i < len0
        · rw [if_pos hi', if_pos hi', pkr_pkx hi']; rfl
        · rw [if_neg hi', if_neg hi', pkr_pkx (by omega)]; rfl
      · obtain ⟨h3, h4⟩ := chk_inv h2
        obtain rfl := beqE h3
        refine ⟨_, _, h4, rfl, fun i hi => ?_⟩
        rw [if_pos (by omega)]
        show V.int kk (dec kk (pkr kk _ i)) = V.int kk (dec kk (pkr kk x0 (off0 + i)))
        rw [pkr_pkx (by omega)]
    · rcases onAr_inv h1 with ⟨n0, d, t, rfl, h2⟩ | ⟨_, h2⟩
      · unfold kcatA at h2
        cases ho : Nat.beq off0 0 with
        | true =>
          obtain rfl := beqE ho
          rw [ho] at h2
          obtain ⟨t', h3, h4⟩ := kfill_s _ _ _ (show kfill c off len0 k t _ from h2)
          refine ⟨_, _, h3, rfl, fun i hi => ?_⟩
          show t'.atv (enc i) d.v = _
          rw [h4]
          by_cases hi' : i < len0
          · rw [if_neg (by omega), if_pos hi', kidx_v, Nat.zero_add]; rfl
          · rw [if_pos (by omega), if_neg hi']
        | false =>
          rw [ho] at h2
          obtain ⟨t1, h3, h4⟩ := kfill_s _ _ _ (show kfill (.ar n0 d t) off0 0 len0 .te _ from h2)
          obtain ⟨t', h5, h6⟩ := kfill_s _ _ _ h3
          refine ⟨_, _, h5, rfl, fun i hi => ?_⟩
          show t'.atv (enc i) d.v = _
          rw [h6]
          by_cases hi' : i < len0
          · rw [if_neg (by omega), if_pos hi', h4, if_pos (by omega), Nat.sub_zero]
          · rw [if_pos (by omega), if_neg hi']
      · exact h2.elim
/-- Some places replaced by those of another. -/
def kcpy (c0 : KV) (off cnt : Nat) (c : KV) (offs : Nat) (K : KV → Prop) : Prop :=
  onPk (fun kk n x => onPk (fun kk' _ y => chk (ikEq kk kk') 118 (fN (pkp kk x off cnt (pkx kk y offs cnt)) fun x => K (.pk kk n x))) (chk (Nat.beq cnt 0) 119 (K c0)) c)
    (onAr (fun n d t => kfill c offs off cnt t fun t => K (.ar n d t)) (BadN 120) c0) c0
theorem kcpy_s {c0 c : KV} {off cnt offs N : Nat} {f0 f : Nat → V} {K : KV → Prop} (h : kcpy c0 off cnt c offs K) (h0 : c0.v = .arr N f0) (hf : ∀ i, i < cnt → f i = (kidx (offs + i) c).v) : ∃ c', K c' ∧ c'.v = .arr N (cpF off cnt f0 f) := by
  have key : ∀ j, cpF off cnt f0 f j = if off ≤ j ∧ j < off + cnt then f (j - off) else f0 j := by
    intro j
    unfold cpF
    rw [V.ite_eq]
    by_cases hj : off ≤ j ∧ j < off + cnt
    · rw [if_pos hj]; simp [hj.1, hj.2]
    · rw [if_neg hj]
      have : (decide (off ≤ j) && decide (j < off + cnt)) = false := by simpa using hj
      rw [this]; rfl
  rcases onPk_inv h with ⟨kk, n, x, rfl, h1⟩ | ⟨_, h1⟩
  · rw [v_pk] at h0
    injection h0 with e1 e2
    subst e1; subst e2
    rcases onPk_inv h1 with ⟨kk', m, y, rfl, h2⟩ | ⟨_, h2⟩
    · obtain ⟨h3, h4⟩ := chk_inv h2
      obtain rfl := ikEq_eq h3
      rw [fN_eq] at h4
      refine ⟨_, h4, ?_⟩
      rw [v_pk]
      congr 1
      funext j
      rw [key]
      unfold pkg
      rw [pkr_pkp (pkx_lt _ _ _ _)]
      by_cases hj : off ≤ j ∧ j < off + cnt
      · rw [if_pos hj, if_pos hj, hf _ (by omega), pkr_pkx (by omega)]; rfl
      · rw [if_neg hj, if_neg hj]
    · obtain ⟨h3, h4⟩ := chk_inv h2
      obtain rfl := beqE h3
      refine ⟨_, h4, ?_⟩
      rw [v_pk]
      congr 1
      funext j
      rw [key, if_neg (by omega)]
  · rcases onAr_inv h1 with ⟨n, d, t, rfl, h2⟩ | ⟨_, h2⟩
    · rw [v_ar] at h0
      injection h0 with e1 e2
      subst e1; subst e2
      obtain ⟨t', h3, h4⟩ := kfill_s _ _ _ h2
      refine ⟨_, h3, ?_⟩
      rw [v_ar]
      congr 1
      funext j
      rw [key, h4]
      by_cases hj : off ≤ j ∧ j < off + cnt
      · rw [if_pos hj, if_pos hj, hf _ (by omega)]
      · rw [if_neg hj, if_neg hj]
    · exact h2.elim

/-! ### Append -/
/-- Of an append: the element's type, its shape, its zero. -/
def apS (P : Program) (t t' : TypeId) : Option (TypeId × (Shape × KV)) := if t' = t then match P.underlying t with
    | some (.slice et) => match kzero? P et, P.info? et with
      | some (s, z), some i => if i.bytes ≤ 1048576 ∧ 0 < s.size then some (et, (s, z)) else none
      | _, _ => none
    | _ => none
  else none
def kApN (et : TypeId) (s : Shape) (z : KV) (zm : KZ) (nx : Nat) (K : KT) (off k : Nat) (c : KV) (rd : List Nat) : Prop :=
  cnd (apB 0 k) (kcat z .unk 0 0 c off k fun c' => nwB (.row et) (.arr k s) c' zm nx fun zm nx' => K (.row nx s k) zm nx' [] rd)
def kApW (lo : Nat) (et : TypeId) (s : Shape) (z : KV) (zm : KZ) (nx : Nat) (K : KT) (off k : Nat) (c : KV) (rd : List Nat) (id : Nat) (s' : Shape) (len : Nat) : Prop :=
  oB zm id fun kd sh v => @Kind.rec (fun _ => Prop) (BadN 121) (fun et' => chk (nd (Nat.ble lo id) (nd (s'.beq s) (nd (Nat.beq et' et) (nd (Nat.blt id nx) (arK v))))) 122
    (cnd (apB len k) (kcat z v 0 len c off k fun c' => upB id .dead sh .unk zm fun zm => fN (Nat.add len k) fun m => nwB (.row et) (.arr m s) c' zm nx fun zm nx' => K (.row nx s m) zm nx' [id] rd))) (BadN 123) (fun _ _ _ _ => BadN 123) kd
def kApR (et : TypeId) (s : Shape) (z : KV) (zm : KZ) (nx : Nat) (K : KT) (off k : Nat) (c : KV) (rd : List Nat) (_ clip : Bool) (s' : Shape) (off0 len : Nat) (c0 : KV) : Prop :=
  chk (nd clip (s'.beq s)) 124 (cnd (apB len k && Nat.blt 0 k) (kcat z c0 off0 len c off k fun c' => fN (Nat.add len k) fun m => nwB (.row et) (.arr m s) c' zm nx fun zm nx' => K (.row nx s m) zm nx' [] rd))
def arZ (c : KV) : Nat := match c with
  | .pk _ n _ => n
  | .ar n _ _ => n
  | _ => 0
def kApLg (et : TypeId) (s : Shape) (z : KV) (zm : KZ) (nx : Nat) (K : KT) (off k : Nat) (c : KV) (rd : List Nat) (id off0 len : Nat) (c0 : KV) : Prop :=
  chk (Nat.blt 0 k) 212 (kcat z c0 off0 len c off k fun c' => fN (Nat.add len k) fun m => nwB (.row et) (.arr m s) c' zm nx fun zm nx' => K (.row nx s m) zm nx' [] (id :: rd))
def kApLf (lo : Nat) (zm : KZ) (nx : Nat) (K : KT) (off k : Nat) (c : KV) (rd : List Nat) (id : Nat) (p : List Step) (s' : Shape) (off0 len cap : Nat) (kd : Kind) (sh : Shape) (v c0 : KV) : Prop :=
  chk (nd (Nat.ble lo id) (Nat.ble (off0 + len + k) (arZ c0))) 213 (fN (Nat.add off0 len) fun q => kcpy c0 q k c off fun c' => ksetP c' p v fun v' => fN (Nat.add len k) fun m => upB id kd sh v' zm fun zm => K (.sl id p s' off0 m (some cap)) zm nx [id] rd)
def kApL (lo : Nat) (et : TypeId) (s : Shape) (z : KV) (zm : KZ) (nx : Nat) (K : KT) (off k : Nat) (c : KV) (rd : List Nat) (id : Nat) (p : List Step) (s' : Shape) (off0 len : Nat) (cp : Option Nat) : Prop :=
  os 210 (fun cap => oB zm id fun kd sh v => fV (kpath p v) fun c0 => chk (nd (isAl kd) (nd (s'.beq s) (nd (apB len k) (nd (pthOk p v) (arK c0))))) 211
    (@Bool.rec (fun _ => Prop) (kApLg et s z zm nx K off k c rd id off0 len c0) (kApLf lo zm nx K off k c rd id p s' off0 len cap kd sh v c0) (Nat.ble (Nat.add len k) cap))) cp
def kAp (lo : Nat) (et : TypeId) (s : Shape) (z : KV) (x : KV) (zm : KZ) (nx : Nat) (K : KT) (s2 : Shape) (off k : Nat) (c : KV) (rd : List Nat) : Prop :=
  chk (s2.beq s) 125 (onRow (kApW lo et s z zm nx K off k c rd) (onNils (kApN et s z zm nx K off k c rd) (onRo (kApR et s z zm nx K off k c rd) (onSl (kApL lo et s z zm nx K off k c rd) (BadN 126) x) x) x) x)
def kAppend (lo : Nat) (P : Program) (t t' : TypeId) (x y : KV) (zm : KZ) (nx : Nat) (K : KT) : Prop :=
  os 127 (pr fun et sz => pr (fun s z => kSrcW s y zm (kAp lo et s z x zm nx K)) sz) (apS P t t')
omit [KGl] in
theorem cpImp {len k : Nat} {f0 f g : Nat → V} {h0 : Nat → V} (hg : ∀ i, i < len + k → g i = if i < len then h0 i else f (i - len)) (h1 : ∀ i, i < len → f0 i = h0 i) : Imp (.arr (len + k) (appF len f0 f)) (.arr (len + k) g) := by
  refine Imp.arrE fun i hi => ?_
  rw [hg i hi]
  unfold appF
  rw [V.ite_eq]
  by_cases h : i < len
  · rw [if_pos h, ← h1 i h]; simp [h]
  · rw [if_neg h]; simp [h]
theorem kAppend_s {t t' : TypeId} {x y : Operand} (ho : o.op = .call ⟨.builtin .append, #[x, y], #[t, t']⟩) (h : kAppend lo P t t' (kev τ x) (kev τ y) zm nx K) : Out P B o τ lo zm nx K := by
  have hx := kev_v τ x
  have hy := kev_v τ y
  obtain ⟨⟨et, s, z⟩, h1, h2⟩ := os_inv h
  have key : t' = t ∧ P.underlying t = some (.slice et) ∧ zero? P et = some (s, z.v) ∧ ∃ i, P.info? et = some i ∧ (i.bytes ≤ 1048576 ∧ 0 < s.size) := by
    unfold apS at h1
    split at h1
    · rename_i ht
      split at h1
      · rename_i et' hu
        split at h1
        · rename_i s' z' i hz hi
          split at h1
          · rename_i hc
            simp only [Option.some.injEq, Prod.mk.injEq] at h1
            obtain ⟨rfl, rfl, rfl⟩ := h1
            exact ⟨ht, hu, kzero?_s hz, i, hi, hc⟩
          · cases h1
        · cases h1
      · cases h1
    · cases h1
  obtain ⟨rfl, hu, hz, i, hi, hc⟩ := key
  obtain ⟨s2, off, k, c, rd, f, h3, h4, h5⟩ := kSrcW_s (show kSrcW s (kev τ y) zm (kAp lo et s z (kev τ x) zm nx K) from h2)
  obtain ⟨h6, h7⟩ := chk_inv h3
  rw [hy] at h4
  have hY : ∀ r, (yApp et (opv Gl.G (tv' τ) x) s k f rd (am zm) nx).is r → (yAppend P t' t' (opv Gl.G (tv' τ) x) (opv Gl.G (tv' τ) y) (am zm) nx).is r := by
    intro r hr
    unfold yAppend
    simp only [if_true, hu, hz, hi, h4, h6]
    rw [if_pos hc]
    exact hr
  rcases onRow_inv h7 with ⟨id, s', len, hp, h8⟩ | ⟨_, h8⟩
  · obtain ⟨kd, sh, v, hb, h9⟩ := oB_inv h8
    cases kd with
    | box => exact (show BadN 121 from h9).elim
    | dead => exact (show BadN 123 from h9).elim
    | lp k ps x y => exact (show BadN 123 from h9).elim
    | row et' =>
      obtain ⟨h10, h11⟩ := chk_inv h9
      obtain ⟨h12, h13⟩ := cnd_iff.1 h11
      simp only [nd_iff] at h10
      obtain ⟨q1, q2, q3, q4, q5⟩ := h10
      obtain ⟨n1, f0, hf, hf'⟩ := arK_s q5
      obtain ⟨c', g, h14, h15, h16⟩ := kcat_s h13
      rw [hp] at hx
      have h17 : upB id .dead sh .unk zm fun zm => nwB (.row et) (.arr (len + k) s) c' zm nx fun zm nx' => K (.row nx s (len + k)) zm nx' [id] rd := by
        rw [upB_eq, fN_eq] at h14
        rw [upB_eq]; exact h14
      refine Out.upnew (v := .row nx s (len + k)) (nblt.1 q4) h17 (Nat.le_of_ble_eq_true q1) (yAppend_s (e := ⟨.row nx s (len + k), [(id, ⟨.dead, sh, .unk⟩)], [⟨.row et, .arr (len + k) s, .arr (len + k) (appF len f0 f)⟩], rd⟩) ho (hY _ ?_)) ?_
      · rw [← hx]
        show (yApp et (.row id s' len) s k f rd (am zm) nx).is _
        simp only [yApp, am_some hb, KBlk.b, hf, appX_eq]
        rw [if_pos ⟨q2, beqE q3, q4⟩]
        exact tstE h12
      · refine ⟨Imp.refl _, rfl, rfl, rfl, fun M n i b hb' => ?_⟩
        unfold put touch at hb' ⊢
        simp only [List.length_cons, List.length_nil] at hb' ⊢
        by_cases hin : n ≤ i ∧ i < n + (0 + 1)
        · rw [if_pos hin] at hb' ⊢
          obtain rfl : i = n := by omega
          simp only [Nat.sub_self, List.getElem?_cons_zero] at hb' ⊢
          cases hb'
          refine ⟨_, rfl, .inr ⟨rfl, rfl, ?_, fun h => (by cases h)⟩⟩
          rw [h15]
          exact cpImp (h0 := fun i => (kidx (0 + i) v).v) (fun i hi => by
            rw [h16 i hi]
            by_cases hl : i < len
            · rw [if_pos hl, if_pos hl]
            · rw [if_neg hl, if_neg hl, h5 _ (by omega)]) (fun i hi => by rw [hf', Nat.zero_add])
        · rw [if_neg hin] at hb' ⊢
          exact ⟨b, hb', BImp.refl b⟩
  rcases onNils_inv h8 with ⟨hp, h8⟩ | ⟨_, h8⟩
  · obtain ⟨h12, h13⟩ := cnd_iff.1 h8
    obtain ⟨c', g, h14, h15, h16⟩ := kcat_s h13
    rw [hp] at hx
    refine Out.new (v := .row nx s k) h14 (yAppend_s (e := ⟨.row nx s (0 + k), [], [⟨.row et, .arr (0 + k) s, .arr (0 + k) (appF 0 (fun _ => .unk) f)⟩], rd⟩) ho (hY _ ?_)) ?_
    · rw [← hx]
      show (yApp et .nils s k f rd (am zm) nx).is _
      simp only [yApp, appX_eq]
      exact tstE h12
    · rw [Nat.zero_add, v_row]
      refine EImp.new (Imp.refl _) (.inr ⟨rfl, rfl, ?_, fun h => (by cases h)⟩)
      show Imp _ c'.v
      rw [h15]
      have h17 := cpImp (len := 0) (k := k) (f0 := fun _ => .unk) (f := f) (g := g) (h0 := fun _ => .unk) (fun i hi => by
        rw [h16 i hi, if_neg (by omega), if_neg (by omega), h5 _ (by omega)]) (fun i hi => by omega)
      rw [Nat.zero_add] at h17 ⊢
      exact h17
  rcases onRo_inv h8 with ⟨u, clip, s', off0, len, c0, hp, h8⟩ | ⟨_, h8⟩
  · obtain ⟨h9, h10⟩ := chk_inv h8
    obtain ⟨h12, h13⟩ := cnd_iff.1 h10
    rw [nd_iff] at h9
    obtain ⟨rfl, q1⟩ := h9
    obtain ⟨c', g, h14, h15, h16⟩ := kcat_s h13
    rw [fN_eq] at h14
    rw [hp] at hx
    refine Out.new (v := .row nx s (len + k)) h14 (yAppend_s (e := ⟨.row nx s (len + k), [], [⟨.row et, .arr (len + k) s, .arr (len + k) (appF len (fun i => c0.v.step (.idx (off0 + i))) f)⟩], rd⟩) ho (hY _ ?_)) ?_
    · rw [← hx]
      show (yApp et (.ro u true s' len fun i => c0.v.step (.idx (off0 + i))) s k f rd (am zm) nx).is _
      simp only [yApp, q1, if_true, appX_eq]
      exact tstE h12
    · refine EImp.new (Imp.refl _) (.inr ⟨rfl, rfl, ?_, fun h => (by cases h)⟩)
      show Imp _ c'.v
      rw [h15]
      exact cpImp (h0 := fun i => (kidx (off0 + i) c0).v) (fun i hi => by
        rw [h16 i hi]
        by_cases hl : i < len
        · rw [if_pos hl, if_pos hl]
        · rw [if_neg hl, if_neg hl, h5 _ (by omega)]) (fun i hi => by rw [kidx_v])
  rcases onSl_inv h8 with ⟨id, p, s', off0, len, cp, hp, h8⟩ | ⟨_, h8⟩
  · obtain ⟨cap, rfl, h9⟩ := os_inv h8
    obtain ⟨kd, sh, v, hb, h10⟩ := oB_inv h9
    rw [fV_eq] at h10
    obtain ⟨h11, h12⟩ := chk_inv h10
    simp only [nd_iff] at h11
    obtain ⟨q1, q2, q3, hpo, q5⟩ := h11
    obtain ⟨N, f0, hf, hf'⟩ := arK_s q5
    have hN : arZ (kpath p v) = N := by
      revert hf
      unfold arZ
      split
      · rename_i e; rw [e, v_pk]; intro h; cases h; rfl
      · rename_i e; rw [e, v_ar]; intro h; cases h; rfl
      · rename_i h1 h2
        intro _
        unfold arK at q5
        split at q5
        · exact absurd ‹_› (h1 _ _ _)
        · exact absurd ‹_› (h2 _ _ _)
        · cases q5
    have hf2 := hf
    rw [kpath_v p v hpo] at hf2
    rw [hp] at hx
    cases hc : Nat.ble (Nat.add len k) cap with
    | true =>
      rw [hc] at h12
      obtain ⟨h13, h14⟩ := chk_inv (show kApLf lo zm nx K off k c rd id p s' off0 len cap kd sh v (kpath p v) from h12)
      rw [nd_iff, hN] at h13
      rw [fN_eq] at h14
      obtain ⟨c', h15, h16⟩ := kcpy_s h14 hf fun i hi => h5 i hi
      obtain ⟨v', h17, h18⟩ := ksetP_s _ _ _ _ h15
      rw [fN_eq] at h17
      refine Out.up h17 (Nat.le_of_ble_eq_true h13.1) (yAppend_s (e := ⟨.sl id p s' off0 (len + k) (some cap), [(id, ⟨kd, sh, v'.v⟩)], [], rd⟩) ho (hY _ ?_)) (EImp.refl _)
      rw [← hx]
      show (yApp et (.sl id p s' off0 len (some cap)) s k f rd (am zm) nx).is _
      simp only [yApp, am_some hb, KBlk.b, hf2]
      rw [if_pos ⟨by rw [isAl_eq]; exact q1, q2⟩, if_pos (show Nat.ble (len + k) cap = true from hc), setX_eq, cpX_eq, h18, h16]
      exact tstE h13.2
    | false =>
      rw [hc] at h12
      obtain ⟨h13, h14⟩ := chk_inv (show kApLg et s z zm nx K off k c rd id off0 len (kpath p v) from h12)
      obtain ⟨c', g, h14, h15, h16⟩ := kcat_s h14
      rw [fN_eq] at h14
      refine Out.new (v := .row nx s (len + k)) h14 (yAppend_s (e := ⟨.row nx s (len + k), [], [⟨.row et, .arr (len + k) s, .arr (len + k) (appF len (fun i => f0 (off0 + i)) f)⟩], id :: rd⟩) ho (hY _ ?_)) ?_
      · rw [← hx]
        show (yApp et (.sl id p s' off0 len (some cap)) s k f rd (am zm) nx).is _
        simp only [yApp, am_some hb, KBlk.b, hf2]
        rw [if_pos ⟨by rw [isAl_eq]; exact q1, q2⟩, if_neg (show ¬ Nat.ble (len + k) cap = true by rw [show Nat.ble (len + k) cap = false from hc]; simp), appX_eq]
        exact tstE (by rw [Bool.and_eq_true]; exact ⟨q3, h13⟩)
      · refine EImp.new (Imp.refl _) (.inr ⟨rfl, rfl, ?_, fun h => (by cases h)⟩)
        show Imp _ c'.v
        rw [h15]
        exact cpImp (h0 := fun i => (kidx (off0 + i) (kpath p v)).v) (fun i hi => by
          rw [h16 i hi]
          by_cases hl : i < len
          · rw [if_pos hl, if_pos hl]
          · rw [if_neg hl, if_neg hl, h5 _ (by omega)]) (fun i hi => hf' _)
  · exact h8.elim

/-! ### Copy -/
/-- Of a copy: the element's size. -/
def cpS (P : Program) (t : TypeId) : Option Nat := match P.underlying t with
  | some (.slice et) => match P.info? et with
    | some i => some i.size
    | none => none
  | _ => none
def kCpL (lo z : Nat) (zm : KZ) (nx : Nat) (K : KT) (y : KV) (id : Nat) (p : List Step) (e : Shape) (off len : Nat) (_ : Option Nat) : Prop :=
  oB zm id fun kd sh v => fV (kpath p v) fun c0 => kSrcW e y zm fun e' offs k c rd => chk (nd (Nat.ble lo id) (nd (isAl kd) (nd (e'.beq e) (nd (Nat.beq z e.size) (nd (pthOk p v) (arK c0)))))) 128
    (fN (min k len) fun cnt => kcpy c0 off cnt c offs fun c' => ksetP c' p v fun v' => upB id kd sh v' zm fun zm => K (.int .i64 (.ofNat cnt)) zm nx [id] rd)
def kCopy (lo : Nat) (P : Program) (t : TypeId) (x y : KV) (zm : KZ) (nx : Nat) (K : KT) : Prop := os 129 (fun z => onSl (kCpL lo z zm nx K y) (BadN 130) x) (cpS P t)
theorem kCopy_s {t t' : TypeId} {x y : Operand} (ho : o.op = .call ⟨.builtin .copy, #[x, y], #[t, t']⟩) (h : kCopy lo P t (kev τ x) (kev τ y) zm nx K) : Out P B o τ lo zm nx K := by
  have hx := kev_v τ x
  have hy := kev_v τ y
  obtain ⟨z, h1, h2⟩ := os_inv h
  obtain ⟨et, i, hu, hi, rfl⟩ : ∃ et i, P.underlying t = some (.slice et) ∧ P.info? et = some i ∧ z = i.size := by
    unfold cpS at h1
    split at h1
    · split at h1
      · cases h1; exact ⟨_, _, ‹_›, ‹_›, rfl⟩
      · cases h1
    · cases h1
  rcases onSl_inv h2 with ⟨id, p, e, off, len, cap, hp, h3⟩ | ⟨_, h3⟩
  · obtain ⟨kd, sh, v, hb, h4⟩ := oB_inv h3
    rw [fV_eq] at h4
    obtain ⟨e', offs, k, c, rd, f, h5, h6, h7⟩ := kSrcW_s h4
    obtain ⟨h8, h9⟩ := chk_inv h5
    simp only [nd_iff] at h8
    obtain ⟨q1, q2, q3, q4, hpo, q5⟩ := h8
    rw [fN_eq] at h9
    obtain ⟨N, f0, hf, _⟩ := arK_s q5
    obtain ⟨c', h10, h11⟩ := kcpy_s h9 hf fun i hi => h7 i (by omega)
    obtain ⟨v', h12, h13⟩ := ksetP_s _ _ _ _ h10
    rw [hp] at hx
    rw [hy] at h6
    rw [kpath_v p v hpo] at hf
    refine Out.up h12 (Nat.le_of_ble_eq_true q1) (yCopy_s (e := ⟨.int .i64 (min k len : Nat), [(id, ⟨kd, sh, v'.v⟩)], [], rd⟩) ho ?_) (EImp.refl _)
    unfold yCopy
    rw [hu, ← hx]
    simp only [hi, v_sl, am_some hb, KBlk.b, hf, h6]
    rw [if_pos ⟨by rw [isAl_eq]; exact q2, q3, beqE q4⟩, setX_eq, cpX_eq, h13, h11]
    rfl
  · exact h3.elim
end
end
end Go.K
