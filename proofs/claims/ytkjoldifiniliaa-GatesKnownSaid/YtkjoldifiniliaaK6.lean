/- Single operations: parts, lengths, slices, conversions. No condition. -/
import Derived.Test.YtkjoldifiniliaaK5
set_option linter.unusedVariables false
set_option linter.unusedSimpArgs false
namespace Go.K
open Go.Ab Go.RowKit Go.Y
noncomputable section
variable [KGl]
section
variable {P : Program} {B : Nat} {o : Oper} {τ : Nat → KV} {lo : Nat} {zm : KZ} {nx : Nat} {K : KT}

/-! ### Lists -/
def knth (k : Nat) : KV → (KV → Prop) → Prop := @Nat.rec (fun _ => KV → (KV → Prop) → Prop) (fun l K => onCons (fun h _ => K h) (BadN 80) l) (fun _ ih l K => onCons (fun _ t => ih t K) (BadN 80) l) k
omit [KGl] in
theorem knth_s : ∀ (k : Nat) (l : KV) (K : KV → Prop), knth k l K → ∃ v, K v ∧ l.v.nth k = some v.v
  | 0, l, K, h => by
    rcases onCons_inv (show onCons (fun h _ => K h) (BadN 80) l from h) with ⟨a, b, rfl, h1⟩ | ⟨_, h1⟩
    · exact ⟨a, h1, rfl⟩
    · exact h1.elim
  | k + 1, l, K, h => by
    rcases onCons_inv (show onCons (fun _ t => knth k t K) (BadN 80) l from h) with ⟨a, b, rfl, h1⟩ | ⟨_, h1⟩
    · exact knth_s k b K h1
    · exact h1.elim
def kExtract (x : KV) (k : Nat) (zm : KZ) (nx : Nat) (K : KT) : Prop := onTup (fun l => knth k l fun v => K v zm nx [] []) (BadN 81) x
theorem kExtract_s {x : Operand} {k : Nat} (ho : o.op = .extract x k) (h : kExtract (kev τ x) k zm nx K) : Out P B o τ lo zm nx K := by
  have hx := kev_v τ x
  rcases onTup_inv h with ⟨l, hl, h1⟩ | ⟨_, h1⟩
  · obtain ⟨v, h2, h3⟩ := knth_s k l _ h1
    rw [hl] at hx
    exact Out.pure h2 (yExtract_s (e := pureE v.v) ho (by rw [← hx]; show (yExtract (.tup l.v) k).is _; simp only [yExtract, h3]; rfl)) (EImp.refl _)
  · exact h1.elim
def kPick (c a b : KV) (zm : KZ) (nx : Nat) (K : KT) : Prop := onBool (fun t => alt t (K a zm nx [] []) (K b zm nx [] [])) (BadN 82) c
theorem kPick_s {c a b : Operand} (ho : o.op = .pick c a b) (h : kPick (kev τ c) (kev τ a) (kev τ b) zm nx K) : Out P B o τ lo zm nx K := by
  have hx := kev_v τ c
  rcases onBool_inv h with ⟨t, ht, h1⟩ | ⟨_, h1⟩
  · rw [ht] at hx
    cases t with
    | true => exact Out.pure (v := kev τ a) h1 (yPick_s (e := pureE (kev τ a).v) ho (by rw [← hx, ← kev_v, ← kev_v]; show (okE (V.ite true _ _)).is _; rw [V.ite_true]; rfl)) (EImp.refl _)
    | false => exact Out.pure (v := kev τ b) h1 (yPick_s (e := pureE (kev τ b).v) ho (by rw [← hx, ← kev_v, ← kev_v]; show (okE (V.ite false _ _)).is _; rw [V.ite_false]; rfl)) (EImp.refl _)
  · exact h1.elim
def kmkL (l : List KV) : KV := @List.rec KV (fun _ => KV) .nl (fun x _ ih => .cons x ih) l
omit [KGl] in
theorem kmkL_v : ∀ (l : List KV), (kmkL l).v = mkL (l.map KV.v)
  | [] => rfl
  | x :: l => by show V.cons x.v (kmkL l).v = V.cons x.v (mkL (l.map KV.v)); rw [kmkL_v l]
def isFn0 (f : Fn) (a : List Operand) : Option FuncId := match f, a with
  | .func f, [] => some f
  | _, _ => none
def kMakeFunc (f : Fn) (a : List Operand) (caps : List KV) (zm : KZ) (nx : Nat) (K : KT) : Prop := os 83 (fun f => K (.fn f (kmkL caps)) zm nx [] []) (isFn0 f a)
theorem map_kev (τ : Nat → KV) (l : List Operand) : (l.map (kev τ)).map KV.v = l.map (opv Gl.G (tv' τ)) := by
  rw [List.map_map]; exact List.map_congr_left fun x _ => kev_v τ x
theorem kMakeFunc_s {f : Fn} {a cap : Array Operand} (ho : o.op = .makeFunc f a cap) (h : kMakeFunc f a.toList (cap.toList.map (kev τ)) zm nx K) : Out P B o τ lo zm nx K := by
  obtain ⟨g, h1, h2⟩ := os_inv h
  refine Out.pure h2 (yMakeFunc_s (e := pureE (.fn g (mkL (cap.toList.map (opv Gl.G (tv' τ)))))) ho ?_) (by rw [v_fn, kmkL_v, map_kev]; exact EImp.refl _)
  unfold isFn0 at h1
  split at h1
  · cases h1; rename_i e; rw [e]; rfl
  · cases h1

/-! ### Lengths -/
/-- Of a length. -/
inductive LnS where
  | sli
  | str
  | arr (k : Nat)
  | bad
def lnS (P : Program) (t : TypeId) : LnS := match P.underlying t with
  | some (.slice _) => .sli
  | some .string => .str
  | some (.array k _) => .arr k
  | _ => .bad
def kSlen (x : KV) (K : Nat → Prop) : Prop := onSl (fun _ _ _ _ len _ => K len) (onRow (fun _ _ n => K n) (onRo (fun _ _ _ _ len _ => K len) (onNils (K 0) (BadN 84) x) x) x) x
omit [KGl] in
theorem kSlen_s {x : KV} {K : Nat → Prop} (h : kSlen x K) : ∃ n, x.v.len = some n ∧ K n := by
  rcases onSl_inv h with ⟨_, _, _, _, len, _, rfl, h1⟩ | ⟨_, h1⟩
  · exact ⟨_, rfl, h1⟩
  rcases onRow_inv h1 with ⟨_, _, n, rfl, h1⟩ | ⟨_, h1⟩
  · exact ⟨_, rfl, h1⟩
  rcases onRo_inv h1 with ⟨_, _, _, _, len, _, rfl, h1⟩ | ⟨_, h1⟩
  · exact ⟨_, rfl, h1⟩
  rcases onNils_inv h1 with ⟨rfl, h1⟩ | ⟨_, h1⟩
  · exact ⟨_, rfl, h1⟩
  · exact h1.elim
def kLenV (x : KV) (zm : KZ) (nx : Nat) (K : KT) (s : LnS) : Prop := @LnS.rec (fun _ => Prop) (kSlen x fun n => fN n fun n => K (.int .i64 (.ofNat n)) zm nx [] []) (onStr (fun n _ => fN n fun n => K (.int .i64 (.ofNat n)) zm nx [] []) (BadN 85) x) (fun k => K (.int .i64 (.ofNat k)) zm nx [] []) (BadN 86) s
def kLen (P : Program) (t : TypeId) (x : KV) (zm : KZ) (nx : Nat) (K : KT) : Prop := kLenV x zm nx K (lnS P t)
theorem kLen_s {t : TypeId} {x : Operand} (ho : o.op = .call ⟨.builtin .len, #[x], #[t]⟩) (h : kLen P t (kev τ x) zm nx K) : Out P B o τ lo zm nx K := by
  have hx := kev_v τ x
  unfold kLen lnS at h
  split at h
  · rename_i e hu
    obtain ⟨n, h1, h2⟩ := kSlen_s (show kSlen (kev τ x) _ from h)
    rw [fN_eq] at h2
    exact Out.pure h2 (yLen_s (e := pureE (.int .i64 n)) ho (by rw [← hx]; unfold yLen; simp only [hu, h1]; rfl)) (EImp.refl _)
  · rename_i hu
    rcases onStr_inv (show onStr (fun n _ => fN n fun n => K (.int .i64 (.ofNat n)) zm nx [] []) (BadN 85) (kev τ x) from h) with ⟨n, s, hs, h1⟩ | ⟨_, h1⟩
    · rw [fN_eq] at h1
      rw [hs] at hx
      have hsz : (bytesOf n s).size = n := by show ((List.range n).map _).length = n; simp
      exact Out.pure h1 (yLen_s (e := pureE (.int .i64 ((bytesOf n s).size : Nat))) ho (by rw [← hx]; unfold yLen; simp only [hu, v_str]; rfl)) (by rw [hsz]; exact EImp.refl _)
    · exact h1.elim
  · rename_i k e hu
    exact Out.pure (v := .int .i64 (.ofNat k)) h (yLen_s (e := pureE (.int .i64 k)) ho (by unfold yLen; simp only [hu]; rfl)) (EImp.refl _)
  · exact (show BadN 86 from h).elim
def isSliT (P : Program) (t : TypeId) : Bool := match P.underlying t with | some (.slice _) => true | _ => false
omit [KGl] in
theorem isSliT_s {t : TypeId} (h : isSliT P t = true) : ∃ e, P.underlying t = some (.slice e) := by
  unfold isSliT at h
  split at h
  · exact ⟨_, ‹_›⟩
  · cases h
def kCap (P : Program) (t : TypeId) (x : KV) (zm : KZ) (nx : Nat) (K : KT) : Prop := chk (isSliT P t) 87
  (onSl (fun _ _ _ _ _ cap => os 88 (fun n => fN n fun n => K (.int .i64 (.ofNat n)) zm nx [] []) cap) (onRo (fun _ clip _ _ len _ => chk clip 89 (fN len fun n => K (.int .i64 (.ofNat n)) zm nx [] [])) (onNils (K (.int .i64 0) zm nx [] []) (BadN 90) x) x) x)
theorem kCap_s {t : TypeId} {x : Operand} (ho : o.op = .call ⟨.builtin .cap, #[x], #[t]⟩) (h : kCap P t (kev τ x) zm nx K) : Out P B o τ lo zm nx K := by
  have hx := kev_v τ x
  obtain ⟨h0, h1⟩ := chk_inv h
  obtain ⟨e, hu⟩ := isSliT_s h0
  rcases onSl_inv h1 with ⟨_, _, _, _, _, cap, hp, h1⟩ | ⟨_, h1⟩
  · obtain ⟨n, rfl, h2⟩ := os_inv h1
    rw [fN_eq] at h2
    rw [hp] at hx
    exact Out.pure h2 (yCap_s (e := pureE (.int .i64 n)) ho (by rw [← hx]; unfold yCap; simp only [hu, v_sl, V.cap]; rfl)) (EImp.refl _)
  rcases onRo_inv h1 with ⟨_, clip, _, _, len, _, hp, h1⟩ | ⟨_, h1⟩
  · obtain ⟨rfl, h2⟩ := chk_inv h1
    rw [fN_eq] at h2
    rw [hp] at hx
    exact Out.pure h2 (yCap_s (e := pureE (.int .i64 len)) ho (by rw [← hx]; unfold yCap; simp only [hu, v_ro, V.cap]; rfl)) (EImp.refl _)
  rcases onNils_inv h1 with ⟨hp, h1⟩ | ⟨_, h1⟩
  · rw [hp] at hx
    exact Out.pure h1 (yCap_s (e := pureE (.int .i64 (0 : Nat))) ho (by rw [← hx]; unfold yCap; simp only [hu, v_nils, V.cap]; rfl)) (EImp.refl _)
  · exact h1.elim
def kMin (x y : KV) (zm : KZ) (nx : Nat) (K : KT) : Prop := onInt (fun k a => onInt (fun _ b => fI (bif ltI b a then b else a) fun r => K (.int k r) zm nx [] []) (BadN 91) y) (BadN 92) x
theorem kMin_s {ts : Array TypeId} {x y : Operand} (ho : o.op = .call ⟨.builtin .min, #[x, y], ts⟩) (h : kMin (kev τ x) (kev τ y) zm nx K) : Out P B o τ lo zm nx K := by
  have hx := kev_v τ x
  have hy := kev_v τ y
  rcases onInt_inv h with ⟨k, a, ha, h1⟩ | ⟨_, h1⟩
  · rcases onInt_inv h1 with ⟨k', b, hb, h2⟩ | ⟨_, h2⟩
    · rw [fI_eq] at h2
      rw [ha] at hx; rw [hb] at hy
      exact Out.pure h2 (yMin_s (e := pureE (minV k a b)) ho (by rw [← hx, ← hy]; rfl)) (EImp.refl _)
    · exact h2.elim
  · exact h1.elim

/-- Is it an array of so many? -/
def arN (c : KV) (n : Nat) : Bool := match c with
  | .pk _ m _ => Nat.beq m n
  | .ar m _ _ => Nat.beq m n
  | _ => false
omit [KGl] in
theorem arN_s {c : KV} {n : Nat} (h : arN c n = true) : ∃ f, c.v = .arr n f := by
  unfold arN at h
  split at h
  · rw [← beqE h]; exact ⟨_, rfl⟩
  · rw [← beqE h]; exact ⟨_, rfl⟩
  · cases h
/-! ### Slice expressions -/
def kBnd (d : Nat) (x : Option KV) (K : Int → Prop) : Prop := @Option.rec KV (fun _ => Prop) (K (.ofNat d)) (fun v => onInt (fun _ n => K n) (BadN 93) v) x
omit [KGl] in
theorem kBnd_s {d : Nat} {x : Option KV} {K : Int → Prop} (h : kBnd d x K) : ∃ n, V.bnd d (x.map KV.v) = some n ∧ K n := by
  cases x with
  | none => exact ⟨_, rfl, h⟩
  | some v =>
    rcases onInt_inv (show onInt (fun _ n => K n) (BadN 93) v from h) with ⟨k, n, rfl, h1⟩ | ⟨_, h1⟩
    · exact ⟨n, rfl, h1⟩
    · exact h1.elim
def kMx (x : Option KV) (K : Option Int → Prop) : Prop := @Option.rec KV (fun _ => Prop) (K none) (fun v => onInt (fun _ n => K (some n)) (BadN 94) v) x
omit [KGl] in
theorem kMx_s {x : Option KV} {K : Option Int → Prop} (h : kMx x K) : ∃ mv, V.mxb (x.map KV.v) = some mv ∧ K mv := by
  cases x with
  | none => exact ⟨_, rfl, h⟩
  | some v =>
    rcases onInt_inv (show onInt (fun _ n => K (some n)) (BadN 94) v from h) with ⟨k, n, rfl, h1⟩ | ⟨_, h1⟩
    · exact ⟨_, rfl, h1⟩
    · exact h1.elim
/-- Of a slice expression: a slice's elements; an array's; a string. -/
inductive SlS where
  | sli (z : Nat)
  | arr (n z : Nat)
  | str
  | bad
def slS (P : Program) (t : TypeId) : SlS := match P.underlying t with
  | some (.slice el) => match P.info? el with
    | some i => .sli i.size
    | none => .bad
  | some (.array n el) => match P.info? el with
    | some i => .arr n i.size
    | none => .bad
  | some .string => .str
  | _ => .bad
def fO (c : Option Nat) (K : Option Nat → Prop) : Prop := @Option.rec Nat (fun _ => Prop) (K none) (fun n => fN n fun n => K (some n)) c
theorem fO_eq (c : Option Nat) (K : Option Nat → Prop) : fO c K = K c := by
  cases c with
  | none => rfl
  | some n => exact fN_eq n fun n => K (some n)
/-- A slice of own memory. -/
def kSlO (id : Nat) (p : List Step) (e : Shape) (off : Nat) (cap : Option Nat) (l h : Int) (mv : Option Int) (zm : KZ) (nx : Nat) (rd : List Nat) (K : KT) : Prop :=
  fN (Nat.add off (natI l)) fun o => fN (Nat.sub (natI h) (natI l)) fun n => fO (subO (natI l) cap mv) fun c => K (.sl id p e o n c) zm nx [] rd
def kSlL (z : Nat) (l : Int) (hi : Option KV) (mv : Option Int) (zm : KZ) (nx : Nat) (K : KT) (id : Nat) (p : List Step) (e : Shape) (off len : Nat) (cap : Option Nat) : Prop :=
  kBnd len hi fun h => chk (Nat.beq z e.size) 95 (cnd (slB l h len mv) (kSlO id p e off cap l h mv zm nx [] K))
def kSlW (z : Nat) (l : Int) (hi : Option KV) (mv : Option Int) (zm : KZ) (nx : Nat) (K : KT) (id : Nat) (e : Shape) (len : Nat) : Prop :=
  oB zm id fun k _ _ => kBnd len hi fun h => chk (nd (isAl k) (Nat.beq z e.size)) 96 (cnd (slB l h len mv) (kSlO id [] e 0 none l h mv zm nx [id] K))
def kSlR (z : Nat) (l : Int) (hi : Option KV) (mv : Option Int) (zm : KZ) (nx : Nat) (K : KT) (u clip : Bool) (e : Shape) (off len : Nat) (c : KV) : Prop :=
  kBnd len hi fun h => chk (Nat.beq z e.size) 97 (cnd (slB l h len mv) (fN (Nat.add off (natI l)) fun o => fN (Nat.sub (natI h) (natI l)) fun n => fB (clipV clip len h mv) fun cl => K (.ro u cl e o n c) zm nx [] []))
def kSlN (l : Int) (hi : Option KV) (mv : Option Int) (zm : KZ) (nx : Nat) (K : KT) : Prop := kBnd 0 hi fun h => @Option.rec Int (fun _ => Prop) (cnd (slB l h 0 none) (K .nils zm nx [] [])) (fun _ => BadN 98) mv
def kSl (z : Nat) (x : KV) (l : Int) (hi : Option KV) (mv : Option Int) (zm : KZ) (nx : Nat) (K : KT) : Prop :=
  onSl (kSlL z l hi mv zm nx K) (onRow (kSlW z l hi mv zm nx K) (onRo (kSlR z l hi mv zm nx K) (onNils (kSlN l hi mv zm nx K) (BadN 99) x) x) x) x
def kSaP (n z : Nat) (l : Int) (hi : Option KV) (mv : Option Int) (zm : KZ) (nx : Nat) (K : KT) (id : Nat) (p : List Step) (s : Shape) : Prop :=
  shA s (fun n' e => kBnd n hi fun h => chk (nd (Nat.beq n' n) (Nat.beq z e.size)) 100 (cnd (slB l h n mv) (kSlO id p e 0 (some n) l h mv zm nx [] K))) (BadN 101)
def kSaR (n z : Nat) (l : Int) (hi : Option KV) (mv : Option Int) (zm : KZ) (nx : Nat) (K : KT) (u : Bool) (s : Shape) (c : KV) : Prop :=
  shA s (fun n' e => kBnd n hi fun h => chk (nd (Nat.beq n' n) (nd (Nat.beq z e.size) (arN c n))) 102 (cnd (slB l h n mv) (fN (natI l) fun o => fN (Nat.sub (natI h) (natI l)) fun m => fB (clipV true n h mv) fun cl => K (.ro u cl e o m c) zm nx [] []))) (BadN 103)
def kSa (n z : Nat) (x : KV) (l : Int) (hi : Option KV) (mv : Option Int) (zm : KZ) (nx : Nat) (K : KT) : Prop :=
  onPtr (kSaP n z l hi mv zm nx K) (onRef (kSaR n z l hi mv zm nx K) (BadN 104) x) x
def kSs (x : KV) (l : Int) (hi : Option KV) (mv : Option Int) (zm : KZ) (nx : Nat) (K : KT) : Prop :=
  onStr (fun n s => @Option.rec Int (fun _ => Prop) (kBnd n hi fun h => cnd (slB l h n none) (fN (Nat.sub (natI h) (natI l)) fun m => fN (pkx .u8 s (natI l) m) fun y => K (.str m y) zm nx [] [])) (fun _ => BadN 105) mv) (BadN 106) x
def opB (mx hi : Option KV) : Bool := mx.isNone || hi.isSome
def kSlice (P : Program) (t : TypeId) (x : KV) (low hi mx : Option KV) (zm : KZ) (nx : Nat) (K : KT) : Prop :=
  chk (opB mx hi) 107 (kBnd 0 low fun l => kMx mx fun mv => @SlS.rec (fun _ => Prop) (fun z => kSl z x l hi mv zm nx K) (fun n z => kSa n z x l hi mv zm nx K) (kSs x l hi mv zm nx K) (BadN 108) (slS P t))
omit [KGl] in
theorem bytes_extract {n x l h : Nat} (h1 : l ≤ h) (h2 : h ≤ n) : (bytesOf n x).extract l h = bytesOf (h - l) (pkx .u8 x l (h - l)) := by
  apply ByteArray.ext
  apply Array.ext'
  show (((bytesOf n x).extract l h).data).toList = (List.range (h - l)).map _
  rw [ByteArray.data_extract, Array.toList_extract]
  show List.extract ((List.range n).map fun i => UInt8.ofNat (pkr .u8 x i)) l h = _
  rw [List.extract_eq_take_drop]
  apply List.ext_getElem?
  intro i
  rw [List.getElem?_take, List.getElem?_map, List.getElem?_drop, List.getElem?_map]
  by_cases hi : i < h - l
  · rw [if_pos hi, List.getElem?_range (by omega), List.getElem?_range hi, Option.map_some, Option.map_some, pkr_pkx hi]
  · rw [if_neg hi, List.getElem?_eq_none (by simp; omega)]; rfl
theorem map_ov {x : Option Operand} : (x.map (kev τ)).map KV.v = x.map (opv Gl.G (tv' τ)) := by
  cases x with
  | none => rfl
  | some y => exact congrArg some (kev_v τ y)
theorem opB_v {x y : Option Operand} (h : opB (x.map (kev τ)) (y.map (kev τ)) = true) : ((x.map (opv Gl.G (tv' τ))).isNone || (y.map (opv Gl.G (tv' τ))).isSome) = true := by
  unfold opB at h
  revert h
  cases x <;> cases y <;> intro h <;> first | rfl | exact h
theorem kSlO_s {id : Nat} {p : List Step} {e : Shape} {off : Nat} {cap : Option Nat} {l h : Int} {mv : Option Int} {rd : List Nat} (hk : kSlO id p e off cap l h mv zm nx rd K) :
    K (.sl id p e (off + l.toNat) (h.toNat - l.toNat) (subO l.toNat cap mv)) zm nx [] rd := by
  unfold kSlO at hk
  rw [fN_eq, fN_eq, fO_eq, natI_eq, natI_eq] at hk
  exact hk
theorem kSlice_s {t : TypeId} {x : Operand} {low hi mx : Option Operand} (ho : o.op = .slice t x low hi mx) (h : kSlice P t (kev τ x) (low.map (kev τ)) (hi.map (kev τ)) (mx.map (kev τ)) zm nx K) : Out P B o τ lo zm nx K := by
  have hx := kev_v τ x
  obtain ⟨h0, h1⟩ := chk_inv h
  have hob := opB_v h0
  obtain ⟨l, h2, h3⟩ := kBnd_s h1
  obtain ⟨mv, h4, h5⟩ := kMx_s h3
  rw [map_ov] at h2 h4
  replace h2 : V.bnd 0 (low.map (opv Gl.G (tv' τ))) = some l := h2
  have fin : ∀ {v : KV} {rd : List Nat} {w : V}, K v zm nx [] rd → (ySlice P t (opv Gl.G (tv' τ) x) (low.map (opv Gl.G (tv' τ))) (hi.map (opv Gl.G (tv' τ))) (mx.map (opv Gl.G (tv' τ))) (am zm)).is ⟨w, [], [], rd⟩ → w = v.v → Out P B o τ lo zm nx K := fun hk hy hw =>
    Out.pure hk (ySlice_s ho hy) (by rw [hw]; exact EImp.refl _)
  unfold slS at h5
  split at h5
  · rename_i el hu
    split at h5
    · rename_i i hinf
      have h6 : kSl i.size (kev τ x) l (hi.map (kev τ)) mv zm nx K := h5
      rcases onSl_inv h6 with ⟨id, p, e, off, len, cap, hp, h7⟩ | ⟨_, h7⟩
      · obtain ⟨h, h8, h9⟩ := kBnd_s h7
        rw [map_ov] at h8
        obtain ⟨h10, h11⟩ := chk_inv h9
        obtain ⟨h12, h13⟩ := cnd_iff.1 h11
        rw [hp] at hx
        refine fin (kSlO_s h13) ?_ rfl
        unfold ySlice
        rw [if_pos hob, h2, h4, hu, ← hx]
        simp only [ySl, hinf, v_sl, beqE h10, if_true, h8]
        exact tstE h12
      rcases onRow_inv h7 with ⟨id, e, len, hp, h7⟩ | ⟨_, h7⟩
      · obtain ⟨k, sh, v, hb, h7⟩ := oB_inv h7
        obtain ⟨h, h8, h9⟩ := kBnd_s h7
        rw [map_ov] at h8
        obtain ⟨h10, h11⟩ := chk_inv h9
        obtain ⟨h12, h13⟩ := cnd_iff.1 h11
        rw [nd_iff] at h10
        rw [hp] at hx
        refine fin (w := .sl id [] e l.toNat (h.toNat - l.toNat) (subO l.toNat none mv)) (kSlO_s h13) ?_ (by rw [Nat.zero_add]; rfl)
        unfold ySlice
        rw [if_pos hob, h2, h4, hu, ← hx]
        simp only [ySl, hinf, v_row, am_some hb, KBlk.b, isAl_eq, h10.1, beqE h10.2, and_self, if_true, h8]
        exact tstE h12
      rcases onRo_inv h7 with ⟨u, clip, e, off, len, c, hp, h7⟩ | ⟨_, h7⟩
      · obtain ⟨h, h8, h9⟩ := kBnd_s h7
        rw [map_ov] at h8
        obtain ⟨h10, h11⟩ := chk_inv h9
        obtain ⟨h12, h13⟩ := cnd_iff.1 h11
        rw [fN_eq, fN_eq, fB_eq, natI_eq, natI_eq] at h13
        rw [hp] at hx
        refine fin (w := .ro u (clipV clip len h mv) e (h.toNat - l.toNat) fun j => c.v.step (.idx (off + (l.toNat + j)))) h13 ?_ (by
          rw [v_ro]
          congr 1
          funext j
          rw [show Nat.add off l.toNat + j = off + (l.toNat + j) from Nat.add_assoc _ _ _])
        unfold ySlice
        rw [if_pos hob, h2, h4, hu, ← hx]
        simp only [ySl, hinf, v_ro, beqE h10, if_true, h8]
        exact tstE h12
      rcases onNils_inv h7 with ⟨hp, h7⟩ | ⟨_, h7⟩
      · obtain ⟨h, h8, h9⟩ := kBnd_s h7
        rw [map_ov] at h8
        rw [hp] at hx
        cases mv with
        | some _ => exact (show BadN 98 from h9).elim
        | none =>
          obtain ⟨h12, h13⟩ := cnd_iff.1 (show cnd (slB l h 0 none) (K .nils zm nx [] []) from h9)
          refine fin h13 ?_ rfl
          unfold ySlice
          rw [if_pos hob, h2, h4, hu, ← hx]
          simp only [ySl, hinf, v_nils, h8]
          exact tstE h12
      · exact h7.elim
    · exact (show BadN 108 from h5).elim
  · rename_i n el hu
    split at h5
    · rename_i i hinf
      have h6 : kSa n i.size (kev τ x) l (hi.map (kev τ)) mv zm nx K := h5
      rcases onPtr_inv h6 with ⟨id, p, s, hp, h7⟩ | ⟨_, h7⟩
      · obtain ⟨n', e, rfl, hq⟩ := shA_inv h7
        obtain ⟨h, h8, h9⟩ := kBnd_s hq
        rw [map_ov] at h8
        obtain ⟨h10, h11⟩ := chk_inv h9
        obtain ⟨h12, h13⟩ := cnd_iff.1 h11
        rw [nd_iff] at h10
        rw [hp] at hx
        refine fin (w := .sl id p e l.toNat (h.toNat - l.toNat) (subO l.toNat (some n) mv)) (kSlO_s h13) ?_ (by rw [Nat.zero_add]; rfl)
        unfold ySlice
        rw [if_pos hob, h2, h4, hu, ← hx]
        simp only [ySla, hinf, v_ptr, beqE h10.1, beqE h10.2, and_self, if_true, h8]
        exact tstE h12
      rcases onRef_inv h7 with ⟨u, s, c, hp, h7⟩ | ⟨_, h7⟩
      · obtain ⟨n', e, rfl, hq⟩ := shA_inv h7
        obtain ⟨h, h8, h9⟩ := kBnd_s hq
        rw [map_ov] at h8
        obtain ⟨h10, h11⟩ := chk_inv h9
        obtain ⟨h12, h13⟩ := cnd_iff.1 h11
        rw [fN_eq, fN_eq, fB_eq, natI_eq, natI_eq] at h13
        simp only [nd_iff] at h10
        obtain ⟨q1, q2, q3⟩ := h10
        obtain ⟨f, hf⟩ := arN_s q3
        obtain rfl := beqE q1
        rw [hp] at hx
        refine fin (w := .ro u (clipV true n' h mv) e (h.toNat - l.toNat) fun j => f (l.toNat + j)) h13 ?_ (by rw [v_ro, hf]; rfl)
        unfold ySlice
        rw [if_pos hob, h2, h4, hu, ← hx]
        simp only [ySla, hinf, v_ref, hf, beqE q2, and_self, if_true, h8]
        exact tstE h12
      · exact h7.elim
    · exact (show BadN 108 from h5).elim
  · rename_i hu
    have h6 : kSs (kev τ x) l (hi.map (kev τ)) mv zm nx K := h5
    rcases onStr_inv h6 with ⟨n, s, hp, h7⟩ | ⟨_, h7⟩
    · cases mv with
      | some _ => exact (show BadN 105 from h7).elim
      | none =>
        have h7 : kBnd n (hi.map (kev τ)) (fun h => cnd (slB l h n none) (fN (Nat.sub (natI h) (natI l)) fun m => fN (pkx .u8 s (natI l) m) fun y => K (.str m y) zm nx [] [])) := h7
        obtain ⟨h, h8, h9⟩ := kBnd_s h7
        rw [map_ov] at h8
        obtain ⟨h12, h13⟩ := cnd_iff.1 h9
        rw [fN_eq, fN_eq, natI_eq, natI_eq] at h13
        rw [hp] at hx
        have hsz : (bytesOf n s).size = n := by show ((List.range n).map _).length = n; simp
        have hb : l.toNat ≤ h.toNat ∧ h.toNat ≤ n := by
          unfold slB at h12
          simp only [Bool.and_eq_true, leI_eq, decide_eq_true_eq, Int.ofNat_eq_natCast] at h12
          omega
        refine fin (w := .str ((bytesOf n s).extract l.toNat h.toNat)) h13 ?_ (by rw [bytes_extract hb.1 hb.2]; rfl)
        unfold ySlice
        rw [if_pos hob, h2, h4, hu, ← hx]
        simp only [v_str, hsz, h8]
        exact tstE h12
    · exact h7.elim
  · exact (show BadN 108 from h5).elim
end
end
end Go.K
