/- Single operations: numbers, comparisons. No condition. -/
import Derived.Test.YthnhbdidiglcgaaGreatDoorK3
set_option linter.unusedVariables false
set_option linter.unusedSimpArgs false
namespace Go.K
open Go.Ab Go.RowKit Go.Y
noncomputable section
variable [KGl]
section
variable {P : Program} {B : Nat} {o : Oper} {τ : Nat → KV} {lo : Nat} {zm : KZ} {nx : Nat} {K : KT}

/-! ### Numbers -/
abbrev NF := IntKind → Int → IntKind → Int → (KV → Prop) → Prop
def bI (f : IntKind → Int → Int → Int) : NF := fun k a k' b K => chk (ikEq k k') 60 (fI (f k a b) fun r => K (.int k r))
/-- Where not all is known: it has to fit. -/
def oNat (k : IntKind) (r : Nat) (K : Int → Prop) : Prop := @Bool.rec (fun _ => Prop) (K (.ofNat (Nat.mod r (mdl k)))) (cnd (Nat.blt r (hlf k)) (K (.ofNat r))) (sgn k)
omit [KGl] in
theorem oNat_s {k : IntKind} {r : Nat} {K : Int → Prop} (h : oNat k r K) : K (fitN k r) := by
  unfold oNat at h
  unfold fitN
  cases hs : sgn k with
  | false => rw [hs] at h; exact h
  | true =>
    rw [hs] at h
    obtain ⟨h1, h2⟩ := cnd_iff.1 (show cnd (Nat.blt r (hlf k)) (K (.ofNat r)) from h)
    show K (bif Nat.blt r (hlf k) then .ofNat r else k.wrap (.ofNat r))
    rw [h1]; exact h2
abbrev PF := IntKind → Int → Int → (Int → Prop) → Prop
def on2 (g : Nat → Nat → Prop) (z : Prop) (a b : Int) : Prop := @Int.rec (fun _ => Prop) (fun x => @Int.rec (fun _ => Prop) (fun y => g x y) (fun _ => z) b) (fun _ => z) a
omit [KGl] in
theorem on2_s {g : Nat → Nat → Prop} {z p : Prop} {a b : Int} (h : on2 g z a b) (h1 : ∀ x y, a = .ofNat x → b = .ofNat y → g x y → p) (h2 : z → p) : p := by
  cases a with
  | negSucc x => exact h2 h
  | ofNat x =>
    cases b with
    | negSucc y => exact h2 h
    | ofNat y => exact h1 x y rfl rfl h
def addP : PF := fun k a b K => on2 (fun x y => oNat k (Nat.add x y) K) (K (addI k a b)) a b
def mulP : PF := fun k a b K => on2 (fun x y => oNat k (Nat.mul x y) K) (K (mulI k a b)) a b
def divP : PF := fun k a b K => on2 (fun x y => oNat k (Nat.div x y) K) (K (divI k a b)) a b
def subP : PF := fun k a b K => on2 (fun x y => @Bool.rec (fun _ => Prop) (K (subI k a b)) (@Bool.rec (fun _ => Prop) (K (subI k a b)) (oNat k (Nat.sub x y) K) (sgn k)) (Nat.ble y x)) (K (subI k a b)) a b
omit [KGl] in
theorem addP_s {k : IntKind} {a b : Int} {K : Int → Prop} (h : addP k a b K) : K (addI k a b) := on2_s h (fun x y e1 e2 h => by subst e1; subst e2; exact oNat_s h) id
omit [KGl] in
theorem mulP_s {k : IntKind} {a b : Int} {K : Int → Prop} (h : mulP k a b K) : K (mulI k a b) := on2_s h (fun x y e1 e2 h => by subst e1; subst e2; exact oNat_s h) id
omit [KGl] in
theorem divP_s {k : IntKind} {a b : Int} {K : Int → Prop} (h : divP k a b K) : K (divI k a b) := on2_s h (fun x y e1 e2 h => by subst e1; subst e2; exact oNat_s h) id
omit [KGl] in
theorem subP_s {k : IntKind} {a b : Int} {K : Int → Prop} (h : subP k a b K) : K (subI k a b) := on2_s h (fun x y e1 e2 h => by
  subst e1; subst e2
  cases hb : Nat.ble y x with
  | false => rw [hb] at h; exact h
  | true =>
    rw [hb] at h
    cases hs : sgn k with
    | false => rw [hs] at h; exact h
    | true =>
      rw [hs] at h
      have := oNat_s (show oNat k (Nat.sub x y) K from h)
      show K (@Bool.rec (fun _ => Int) (fitN k (x + (mdl k - y % mdl k))) (bif Nat.ble y x then fitN k (x - y) else k.wrap (Int.ofNat x - Int.ofNat y)) (sgn k))
      rw [hs, hb]; exact this) id
def wrpP (k : IntKind) (a : Int) (K : Int → Prop) : Prop := @Int.rec (fun _ => Prop) (fun x => oNat k x K) (fun _ => K (wrpI k a)) a
omit [KGl] in
theorem wrpP_s {k : IntKind} {a : Int} {K : Int → Prop} (h : wrpP k a K) : K (wrpI k a) := by
  cases a with
  | ofNat x => exact oNat_s h
  | negSucc x => exact h
def bP (f : IntKind → Int → Int → Int) (p : PF) : NF := fun k a k' b K => chk (ikEq k k') 60 (@Bool.rec (fun _ => Prop) (p k a b fun r => K (.int k r)) (fI (f k a b) fun r => K (.int k r)) Gl.cl)
theorem bP_s {f : IntKind → Int → Int → Int} {p : PF} (hp : ∀ {k a b K}, p k a b K → K (f k a b)) {k k' : IntKind} {a b : Int} {K : KV → Prop} (h : bP f p k a k' b K) : bI f k a k' b K := by
  unfold bP at h
  unfold bI
  obtain ⟨h1, h2⟩ := chk_inv h
  rw [h1]
  show fI (f k a b) fun r => K (.int k r)
  rw [fI_eq]
  cases hc : (Gl.cl : Bool) with
  | false => rw [hc] at h2; exact hp (K := fun r => K (.int k r)) h2
  | true => rw [hc] at h2; have h2 : fI (f k a b) fun r => K (.int k r) := h2; rwa [fI_eq] at h2
def bD (f : IntKind → Int → Int → Int) : NF := fun k a k' b K => chk (ikEq k k') 61 (cnd (neB b) (fI (f k a b) fun r => K (.int k r)))
def bDP (f : IntKind → Int → Int → Int) (p : PF) : NF := fun k a k' b K => chk (ikEq k k') 61 (cnd (neB b) (@Bool.rec (fun _ => Prop) (p k a b fun r => K (.int k r)) (fI (f k a b) fun r => K (.int k r)) Gl.cl))
theorem bDP_s {f : IntKind → Int → Int → Int} {p : PF} (hp : ∀ {k a b K}, p k a b K → K (f k a b)) {k k' : IntKind} {a b : Int} {K : KV → Prop} (h : bDP f p k a k' b K) : bD f k a k' b K := by
  unfold bDP at h
  unfold bD
  obtain ⟨h1, h2⟩ := chk_inv h
  obtain ⟨h3, h4⟩ := cnd_iff.1 h2
  rw [h1]
  refine cnd_iff.2 ⟨h3, ?_⟩
  rw [fI_eq]
  cases hc : (Gl.cl : Bool) with
  | false => rw [hc] at h4; exact hp (K := fun r => K (.int k r)) h4
  | true => rw [hc] at h4; have h4 : fI (f k a b) fun r => K (.int k r) := h4; rwa [fI_eq] at h4
def bS (f : IntKind → Int → Nat → Int) : NF := fun k a _ b K => cnd (geB b) (fI (f k a (min b.toNat k.bits)) fun r => K (.int k r))
def bB (f : Int → Int → Bool) : NF := fun k a k' b K => chk (ikEq k k') 62 (fB (f a b) fun r => K (.bool r))
def remI (k : IntKind) (a b : Int) : Int := match a, b with
  | .ofNat x, .ofNat y => .ofNat (x % y)
  | a, b => a.tmod b
omit [KGl] in
theorem remI_eq (k : IntKind) (a b : Int) : remI k a b = a.tmod b := by
  unfold remI
  split
  · rfl
  · rfl
def anI (k : IntKind) (a b : Int) : Int := k.wrap (BitVec.ofInt k.bits a &&& ~~~ BitVec.ofInt k.bits b).toNat
def shrI (k : IntKind) (a : Int) (n : Nat) : Int := fdv a (2 ^ n)
def kNum (op : BinOp) : NF := @BinOp.rec (fun _ => NF) (bP addI addP) (bP subI subP) (bP mulI mulP) (bDP divI divP) (bD remI) (bI andI) (bI orI) (bI xorI) (bS shlI) (bS shrI) (bI anI)
  (bB eqI) (bB fun a b => !eqI a b) (bB ltI) (bB leI) (bB fun a b => ltI b a) (bB fun a b => leI b a) op
def kNumB (op : BinOp) (k : IntKind) (a : Int) (zm : KZ) (nx : Nat) (K : KT) (k' : IntKind) (b : Int) : Prop := kNum op k a k' b fun r => K r zm nx [] []
omit [KGl] in
theorem yBinA_int (op : BinOp) (t : TypeId) (k k' : IntKind) (a b : Int) : yBinA P op t (.int k a) (.int k' b) = yBin P op t (.int k a) (.int k' b) := rfl
omit [KGl] in
theorem yBinA_bool (op : BinOp) (t : TypeId) (a b : Bool) : yBinA P op t (.bool a) (.bool b) = yBin P op t (.bool a) (.bool b) := rfl
theorem kNum_s {op : BinOp} {t t' : TypeId} {x y : Operand} {k k' : IntKind} {a b : Int} (ho : o.op = .binOp op t x y t') (hx : kev τ x = .int k a) (hy : kev τ y = .int k' b) (h : kNum op k a k' b fun r => K r zm nx [] []) : Out P B o τ lo zm nx K := by
  have qx : opv Gl.G (tv' τ) x = .int k a := by rw [← kev_v, hx]; rfl
  have qy : opv Gl.G (tv' τ) y = .int k' b := by rw [← kev_v, hy]; rfl
  have fin : ∀ {r : KV}, K r zm nx [] [] → (yBinA P op t (.int k a) (.int k' b)).is (pureE r.v) → Out P B o τ lo zm nx K := fun hk hr =>
    Out.pure hk (yBinA_s (e := pureE _) ho (by rw [qx, qy]; exact hr)) (EImp.refl _)
  have hI : ∀ {f : IntKind → Int → Int → Int}, bI f k a k' b (fun r => K r zm nx [] []) → k' = k ∧ K (.int k (f k a b)) zm nx [] [] := fun h => by
    obtain ⟨h1, h2⟩ := chk_inv h
    rw [fI_eq] at h2
    exact ⟨(ikEq_eq h1).symm, h2⟩
  have hB : ∀ {f : Int → Int → Bool}, bB f k a k' b (fun r => K r zm nx [] []) → k' = k ∧ K (.bool (f a b)) zm nx [] [] := fun h => by
    obtain ⟨h1, h2⟩ := chk_inv h
    rw [fB_eq] at h2
    exact ⟨(ikEq_eq h1).symm, h2⟩
  have hD : ∀ {f : IntKind → Int → Int → Int}, bD f k a k' b (fun r => K r zm nx [] []) → k' = k ∧ neB b = true ∧ K (.int k (f k a b)) zm nx [] [] := fun h => by
    obtain ⟨h1, h2⟩ := chk_inv h
    obtain ⟨h3, h4⟩ := cnd_iff.1 h2
    rw [fI_eq] at h4
    exact ⟨(ikEq_eq h1).symm, h3, h4⟩
  have hS : ∀ {f : IntKind → Int → Nat → Int}, bS f k a k' b (fun r => K r zm nx [] []) → geB b = true ∧ K (.int k (f k a (min b.toNat k.bits))) zm nx [] [] := fun h => by
    obtain ⟨h3, h4⟩ := cnd_iff.1 h
    rw [fI_eq] at h4
    exact ⟨h3, h4⟩
  have ikr : ∀ k, ikEq k k = true := fun k => by cases k <;> rfl
  cases op
  case shl => obtain ⟨h1, h2⟩ := hS h; exact fin h2 ⟨h1, rfl⟩
  case shr => obtain ⟨h1, h2⟩ := hS h; exact fin h2 ⟨h1, rfl⟩
  case add => obtain ⟨rfl, h2⟩ := hI (bP_s addP_s h); exact fin h2 (by rw [yBinA_int]; simp only [yBin, ikr, if_true]; rfl)
  case sub => obtain ⟨rfl, h2⟩ := hI (bP_s subP_s h); exact fin h2 (by rw [yBinA_int]; simp only [yBin, ikr, if_true]; rfl)
  case mul => obtain ⟨rfl, h2⟩ := hI (bP_s mulP_s h); exact fin h2 (by rw [yBinA_int]; simp only [yBin, ikr, if_true]; rfl)
  case quo => obtain ⟨rfl, h1, h2⟩ := hD (bDP_s divP_s h); exact fin h2 (by rw [yBinA_int]; simp only [yBin, ikr, if_true]; exact ⟨h1, rfl⟩)
  case rem => obtain ⟨rfl, h1, h2⟩ := hD h; exact fin h2 (by rw [yBinA_int]; simp only [yBin, ikr, if_true]; exact ⟨h1, by rw [v_int, remI_eq]; rfl⟩)
  case eql => obtain ⟨rfl, h2⟩ := hB h; exact fin h2 (by rw [yBinA_int]; simp only [yBin, ikr, if_true]; rfl)
  case neq => obtain ⟨rfl, h2⟩ := hB (f := fun a b => !eqI a b) h; exact fin h2 (by rw [yBinA_int]; simp only [yBin, ikr, if_true]; rfl)
  case lss => obtain ⟨rfl, h2⟩ := hB h; exact fin h2 (by rw [yBinA_int]; simp only [yBin, ikr, if_true]; rfl)
  case leq => obtain ⟨rfl, h2⟩ := hB h; exact fin h2 (by rw [yBinA_int]; simp only [yBin, ikr, if_true]; rfl)
  case gtr => obtain ⟨rfl, h2⟩ := hB (f := fun a b => ltI b a) h; exact fin h2 (by rw [yBinA_int]; simp only [yBin, ikr, if_true]; rfl)
  case geq => obtain ⟨rfl, h2⟩ := hB (f := fun a b => leI b a) h; exact fin h2 (by rw [yBinA_int]; simp only [yBin, ikr, if_true]; rfl)
  all_goals
    obtain ⟨rfl, h2⟩ := hI h
    exact fin h2 (by rw [yBinA_int]; simp only [yBin, ikr, if_true]; rfl)

/-! ### Truth -/
def isBoolT (P : Program) (t : TypeId) : Bool := match P.underlying t with | some .bool => true | _ => false
def eqn (op : BinOp) (b : Bool) (K : Bool → Prop) : Prop := @BinOp.rec (fun _ => Bool → (Bool → Prop) → Prop) (fun _ _ => BadN 63) (fun _ _ => BadN 63) (fun _ _ => BadN 63) (fun _ _ => BadN 63) (fun _ _ => BadN 63) (fun _ _ => BadN 63) (fun _ _ => BadN 63) (fun _ _ => BadN 63) (fun _ _ => BadN 63) (fun _ _ => BadN 63) (fun _ _ => BadN 63)
  (fun b K => fB b K) (fun b K => fB (!b) K) (fun _ _ => BadN 63) (fun _ _ => BadN 63) (fun _ _ => BadN 63) (fun _ _ => BadN 63) op b K
theorem eqn_inv {op : BinOp} {b : Bool} {K : Bool → Prop} (h : eqn op b K) : (op = .eql ∧ K b) ∨ (op = .neq ∧ K (!b)) := by
  cases op
  case eql => exact .inl ⟨rfl, by have h : fB b K := h; rwa [fB_eq] at h⟩
  case neq => exact .inr ⟨rfl, by have h : fB (!b) K := h; rwa [fB_eq] at h⟩
  all_goals exact (show BadN 63 from h).elim
def beqB (a b : Bool) : Bool := @Bool.rec (fun _ => Bool) (@Bool.rec (fun _ => Bool) true false b) b a
omit [KGl] in
theorem beqB_eq (a b : Bool) : beqB a b = (a == b) := by cases a <;> cases b <;> rfl

/-! ### Equality of compound values -/
def strEq (n x m y : Nat) : Bool := nd (Nat.beq n m) (Nat.beq (pkx .u8 x 0 n) (pkx .u8 y 0 m))
omit [KGl] in
theorem pk_ext {k : IntKind} {x y n : Nat} (h : ∀ i, i < n → pkr k x i = pkr k y i) : pkx k x 0 n = pkx k y 0 n := by
  have hw : 0 < wd k := by cases k <;> decide
  apply Nat.eq_of_testBit_eq; intro b
  show (bts x (wd k * 0) (wd k * n)).testBit b = (bts y (wd k * 0) (wd k * n)).testBit b
  rw [bts_bit, bts_bit]
  by_cases hb : b < wd k * n
  · have hi : b / wd k < n := Nat.div_lt_of_lt_mul hb
    have h1 := congrArg (fun z => z.testBit (b % wd k)) (h _ hi)
    replace h1 : (bts x (wd k * (b / wd k)) (wd k)).testBit (b % wd k) = (bts y (wd k * (b / wd k)) (wd k)).testBit (b % wd k) := h1
    rw [bts_bit, bts_bit, Nat.div_add_mod] at h1
    have h2 : b % wd k < wd k := Nat.mod_lt _ hw
    simp only [h2, decide_true, Bool.true_and] at h1
    rw [Nat.mul_zero, Nat.zero_add, h1]
  · simp [hb]
omit [KGl] in
theorem pk_ext' {k : IntKind} {x y n : Nat} (h : pkx k x 0 n = pkx k y 0 n) (i : Nat) (hi : i < n) : pkr k x i = pkr k y i := by
  have h1 : pkr k (pkx k x 0 n) i = pkr k (pkx k y 0 n) i := by rw [h]
  rw [pkr_pkx hi, pkr_pkx hi, Nat.zero_add] at h1
  exact h1
omit [KGl] in
theorem dec_inj {k : IntKind} {r s : Nat} (hr : r < mdl k) (hs : s < mdl k) (h : dec k r = dec k s) : r = s := by
  have hh := hlf_mdl k
  unfold dec at h
  cases hsg : sgn k with
  | false => rw [hsg] at h; exact Int.ofNat.inj h
  | true =>
    rw [hsg] at h
    replace h : @Bool.rec (fun _ => Int) (Int.negSucc (mdl k - 1 - r)) (Int.ofNat r) (Nat.blt r (hlf k)) = @Bool.rec (fun _ => Int) (Int.negSucc (mdl k - 1 - s)) (Int.ofNat s) (Nat.blt s (hlf k)) := h
    cases h1 : Nat.blt r (hlf k) <;> cases h2 : Nat.blt s (hlf k) <;> rw [h1, h2] at h
    · have := Int.negSucc.inj h; omega
    · cases h
    · cases h
    · exact Int.ofNat.inj h
omit [KGl] in
theorem strEq_eq (n x m y : Nat) : lbeq (bytesOf n x).data.toList (bytesOf m y).data.toList = strEq n x m y := by
  rw [lbeq_eq]
  show ((List.range n).map (fun i => UInt8.ofNat (pkr .u8 x i)) == (List.range m).map fun i => UInt8.ofNat (pkr .u8 y i)) = nd (Nat.beq n m) _
  rw [Bool.eq_iff_iff, beq_iff_eq, nd_iff, Nat.beq_eq, Nat.beq_eq]
  constructor
  · intro h
    have hl := congrArg List.length h
    simp only [List.length_map, List.length_range] at hl
    subst hl
    refine ⟨rfl, pk_ext fun i hi => ?_⟩
    have := congrArg (fun l => l[i]?) h
    simp only [List.getElem?_map, List.getElem?_range hi, Option.map_some, Option.some.injEq] at this
    have h2 := congrArg UInt8.toNat this
    rw [UInt8.toNat_ofNat', UInt8.toNat_ofNat'] at h2
    have a1 := pkr_lt .u8 x i
    have a2 := pkr_lt .u8 y i
    simp only [mdl] at a1 a2
    omega
  · rintro ⟨rfl, h⟩
    apply List.map_congr_left
    intro i hi
    rw [List.mem_range] at hi
    rw [pk_ext' h i hi]
/-- All of so many. -/
def allN (f : Nat → Option Bool) (n : Nat) : Option Bool := @Nat.rec (fun _ => Option Bool) (some true) (fun i ih => @Option.rec Bool (fun _ => Option Bool) none (fun b => @Option.rec Bool (fun _ => Option Bool) none (fun c => some (nd b c)) (f i)) ih) n
omit [KGl] in
theorem allN_s {f : Nat → Option Bool} {g : Nat → Bool} : ∀ (n : Nat) (b : Bool), (∀ i b, i < n → f i = some b → g i = b) → allN f n = some b → (List.range n).all g = b
  | 0, b, _, h => by cases h; rfl
  | n + 1, b, hf, h => by
    have h0 : @Option.rec Bool (fun _ => Option Bool) none (fun b => @Option.rec Bool (fun _ => Option Bool) none (fun c => some (nd b c)) (f n)) (allN f n) = some b := h
    cases h1 : allN f n with
    | none => rw [h1] at h0; cases h0
    | some b1 =>
      rw [h1] at h0
      cases h2 : f n with
      | none => rw [h2] at h0; cases h0
      | some c =>
        rw [h2] at h0
        have h3 : nd b1 c = b := Option.some.inj h0
        have q1 := allN_s n b1 (fun i b hi => hf i b (by omega)) h1
        have q2 := hf n c (by omega) h2
        rw [List.range_succ, List.all_append, q1]
        simp only [List.all_cons, List.all_nil, Bool.and_true, q2]
        rw [← h3]
        cases b1 <;> rfl
/-- Are they equal? (Numbers, truth values, strings, and what is made of them.) -/
def keq : Nat → KV → KV → Option Bool
  | 0, _, _ => none
  | f + 1, v, w => match v, w with
    | .int _ a, .int _ b => some (eqI a b)
    | .bool a, .bool b => some (beqB a b)
    | .str n x, .str m y => some (strEq n x m y)
    | .nl, .nl => some true
    | .cons h t, .cons h' t' => match keq f h h', keq f t t' with
      | some a, some b => some (nd a b)
      | _, _ => none
    | .pk k n x, .pk k' _ y => bif ikEq k k' then some (Nat.beq (pkx k x 0 n) (pkx k y 0 n)) else none
    | .pk k n x, .ar m d t => allN (fun i => keq f (kidx i (.pk k n x)) (kidx i (.ar m d t))) n
    | .ar n d t, w => match w with
      | .ar _ _ _ => allN (fun i => keq f (kidx i (.ar n d t)) (kidx i w)) n
      | .pk _ _ _ => allN (fun i => keq f (kidx i (.ar n d t)) (kidx i w)) n
      | _ => none
    | _, _ => none
omit [KGl] in
theorem nd_eq (a b : Bool) : nd a b = (a && b) := by cases a <;> rfl
omit [KGl] in
theorem eqV_arr {v w : KV} {n m : Nat} {f g : Nat → V} (hv : v.v = .arr n f) (hw : w.v = .arr m g) : eqV v.v w.v = (List.range n).all fun i => eqV (kidx i v).v (kidx i w).v := by
  have h1 : ∀ i, (kidx i v).v = f i := fun i => by rw [kidx_v, hv]; rfl
  have h2 : ∀ i, (kidx i w).v = g i := fun i => by rw [kidx_v, hw]; rfl
  rw [hv, hw]
  show (List.range n).all (fun i => eqV (f i) (g i)) = _
  congr 1
  funext i
  rw [h1, h2]
omit [KGl] in
theorem keq_s : ∀ (f : Nat) (v w : KV) (b : Bool), keq f v w = some b → eqV v.v w.v = b
  | 0, _, _, _, h => by cases h
  | f + 1, v, w, b, h => by
    have ih := keq_s f
    unfold keq at h
    split at h
    · cases h; exact (eqI_eq _ _).symm
    · cases h; rw [beqB_eq]; rfl
    · rename_i n x m y
      cases h
      rw [← strEq_eq, lbeq_eq]
      show ((bytesOf n x).toList == (bytesOf m y).toList) = _
      rw [ByteArray.toList_eq, ByteArray.toList_eq]
    · cases h; rfl
    · split at h
      · rename_i a b' h1 h2
        cases h
        show (eqV (KV.v _) (KV.v _) && eqV (KV.v _) (KV.v _)) = _
        rw [ih _ _ _ h1, ih _ _ _ h2, nd_eq]
      · cases h
    · rename_i k n x k' m y
      cases hk : ikEq k k' with
      | false => rw [hk] at h; cases h
      | true =>
        rw [hk] at h
        obtain rfl := ikEq_eq hk
        have h1 : Nat.beq (pkx k x 0 n) (pkx k y 0 n) = b := Option.some.inj h
        rw [← h1]
        show ((List.range n).all fun i => pkg k x i == pkg k y i) = _
        rw [Bool.eq_iff_iff, Nat.beq_eq, List.all_eq_true]
        constructor
        · intro h2
          refine pk_ext fun i hi => ?_
          have := h2 i (List.mem_range.2 hi)
          rw [beq_iff_eq] at this
          exact dec_inj (pkr_lt _ _ _) (pkr_lt _ _ _) this
        · intro h2 i hi
          rw [beq_iff_eq]
          unfold pkg
          rw [pk_ext' h2 i (List.mem_range.1 hi)]
    · rw [eqV_arr (v_pk _ _ _) (v_ar _ _ _)]; exact allN_s _ _ (fun i b _ hb => ih _ _ _ hb) h
    · split at h
      · rw [eqV_arr (v_ar _ _ _) (v_ar _ _ _)]; exact allN_s _ _ (fun i b _ hb => ih _ _ _ hb) h
      · rw [eqV_arr (v_ar _ _ _) (v_pk _ _ _)]; exact allN_s _ _ (fun i b _ hb => ih _ _ _ hb) h
      · cases h
    · cases h

/-- Of a type that can be compared. -/
def cmpFs (r : TypeId → KV → Bool) : List Field → KV → Bool
  | [], .nl => true
  | f :: fs, .cons h t => nd (f.name != "_") (nd (r f.type h) (cmpFs r fs t))
  | _, _ => false
def allB (f : Nat → Bool) (n : Nat) : Bool := @Nat.rec (fun _ => Bool) true (fun i ih => nd ih (f i)) n
omit [KGl] in
theorem allB_s {f : Nat → Bool} : ∀ {n : Nat}, allB f n = true → ∀ i, i < n → f i = true
  | 0, _, i, hi => by omega
  | n + 1, h, i, hi => by
    obtain ⟨h1, h2⟩ := nd_iff.1 (show nd (allB f n) (f n) = true from h)
    rcases Nat.lt_or_ge i n with h3 | h3
    · exact allB_s h1 i h3
    · obtain rfl : i = n := by omega
      exact h2
def kcmp (P : Program) : Nat → TypeId → KV → Bool
  | 0, _, _ => false
  | d + 1, t, v => match P.underlying t with
    | some (.int k) => match v with | .int k' _ => ikEq k k' | _ => false
    | some .bool => match v with | .bool _ => true | _ => false
    | some .string => match v with | .str _ _ => true | _ => false
    | some (.struct fs) => nd (!P.stoodInHeld t) (cmpFs (kcmp P d) fs.toList v)
    | some (.array n e) => match v with
      | .pk k m _ => nd (Nat.beq n m) (match P.underlying e with | some (.int k') => nd (ikEq k' k) (Nat.blt 0 d) | _ => false)
      | .ar m d' t' => nd (Nat.beq n m) (allB (fun i => kcmp P d e (kidx i (.ar m d' t'))) n)
      | _ => false
    | _ => false
omit [KGl] in
theorem cmpFs_s {P : Program} {d : Nat} (ih : ∀ t v w, kcmp P d t v = true → kcmp P d t w = true → eqT P d t v.v w.v = true) : ∀ (fs : List Field) (v w : KV), cmpFs (kcmp P d) fs v = true → cmpFs (kcmp P d) fs w = true → eqFs (eqT P d) fs v.v w.v = true
  | [], v, w, h1, h2 => by
    cases v <;> first | (cases h1; done) | skip
    cases w <;> first | (cases h2; done) | rfl
  | f :: fs, v, w, h1, h2 => by
    cases v <;> first | (cases h1; done) | skip
    rename_i a b
    cases w <;> first | (cases h2; done) | skip
    rename_i a' b'
    have h3 : nd (f.name != "_") (nd (kcmp P d f.type a) (cmpFs (kcmp P d) fs b)) = true := h1
    have h4 : nd (f.name != "_") (nd (kcmp P d f.type a') (cmpFs (kcmp P d) fs b')) = true := h2
    simp only [nd_iff] at h3 h4
    show (f.name != "_" && eqT P d f.type a.v a'.v && eqFs (eqT P d) fs b.v b'.v) = true
    rw [h3.1, ih _ _ _ h3.2.1 h4.2.1, cmpFs_s ih fs b b' h3.2.2 h4.2.2]; rfl
omit [KGl] in
theorem kcmp_arr {P : Program} {d n : Nat} {t e : TypeId} {v : KV} (hu : P.underlying t = some (.array n e)) (h : kcmp P (d + 1) t v = true) : ∃ f, v.v = .arr n f ∧ ∀ i, i < n → ∃ x : KV, x.v = f i ∧ kcmp P d e x = true := by
  unfold kcmp at h
  rw [hu] at h
  simp only at h
  split at h
  · rename_i k m x
    obtain ⟨h1, h2⟩ := nd_iff.1 h
    obtain rfl := beqE h1
    split at h2
    · rename_i k' he
      obtain ⟨h3, h4⟩ := nd_iff.1 h2
      refine ⟨_, rfl, fun i _ => ⟨.int k (pkg k x i), rfl, ?_⟩⟩
      rw [nblt] at h4
      cases d with
      | zero => omega
      | succ d => unfold kcmp; rw [he]; exact h3
    · cases h2
  · rename_i m d' t'
    obtain ⟨h1, h2⟩ := nd_iff.1 h
    obtain rfl := beqE h1
    exact ⟨_, rfl, fun i hi => ⟨kidx i (.ar n d' t'), by rw [kidx_v]; rfl, allB_s h2 i hi⟩⟩
  · cases h
omit [KGl] in
theorem kcmp_s {P : Program} : ∀ (d : Nat) (t : TypeId) (v w : KV), kcmp P d t v = true → kcmp P d t w = true → eqT P d t v.v w.v = true
  | 0, _, _, _, h, _ => by cases h
  | d + 1, t, v, w, h1, h2 => by
    have ih := kcmp_s (P := P) d
    cases hu : P.underlying t with
    | none => unfold kcmp at h1; rw [hu] at h1; cases h1
    | some x =>
      cases x
      case array n e =>
        obtain ⟨f, hf, q1⟩ := kcmp_arr hu h1
        obtain ⟨g, hg, q2⟩ := kcmp_arr hu h2
        unfold eqT
        rw [hu, hf, hg]
        simp only [beq_self_eq_true, Bool.true_and, List.all_eq_true, List.mem_range]
        intro i hi
        obtain ⟨a, ha, ha'⟩ := q1 i hi
        obtain ⟨b, hb, hb'⟩ := q2 i hi
        rw [← ha, ← hb]
        exact ih _ _ _ ha' hb'
      case struct fs =>
        unfold kcmp at h1 h2
        unfold eqT
        rw [hu] at h1 h2 ⊢
        simp only [nd_iff] at h1 h2 ⊢
        rw [h1.1, cmpFs_s ih _ _ _ h1.2 h2.2]; rfl
      case int k =>
        unfold kcmp at h1 h2
        unfold eqT
        rw [hu] at h1 h2 ⊢
        simp only at h1 h2 ⊢
        split at h1
        · split at h2
          · have a := ikEq_eq h1; have b := ikEq_eq h2; subst a; subst b; simp [v_int]
          · cases h2
        · cases h1
      case bool =>
        unfold kcmp at h1 h2
        unfold eqT
        rw [hu] at h1 h2 ⊢
        simp only at h1 h2 ⊢
        split at h1
        · split at h2
          · rfl
          · cases h2
        · cases h1
      case string =>
        unfold kcmp at h1 h2
        unfold eqT
        rw [hu] at h1 h2 ⊢
        simp only at h1 h2 ⊢
        split at h1
        · split at h2
          · rfl
          · cases h2
        · cases h1
      all_goals (unfold kcmp at h1; rw [hu] at h1; cases h1)
def isAggK (v : KV) : Bool := match v with
  | .nl | .cons _ _ | .pk _ _ _ | .ar _ _ _ => true
  | _ => false
omit [KGl] in
theorem isAggK_s {v : KV} (h : isAggK v = true) : v.v.isAgg = true := by
  cases v <;> first | rfl | cases h
def eqS (P : Program) (t : TypeId) : Bool := nd (lay P 12 t) (!P.eqGuardType P.depth t)
def cmpS (P : Program) (t : TypeId) (v : KV) : Bool := nd (isAggK v) (nd (kcmp P 12 t v) (kfits v (shp P 12 t)))
def kAgg (P : Program) (op : BinOp) (t : TypeId) (x y : KV) (zm : KZ) (nx : Nat) (K : KT) : Prop :=
  chk (nd (eqS P t) (nd (cmpS P t x) (cmpS P t y))) 64 (os 65 (fun b => eqn op b fun r => K (.bool r) zm nx [] []) (keq 24 x y))
def isNilK (v : KV) : Option Bool := match v with
  | .nilp => some true
  | .ptr _ _ _ => some false
  | .ref _ _ _ => some false
  | _ => none
def isPtrT (P : Program) (t : TypeId) : Bool := match P.underlying t with | some (.pointer _) => true | _ => false
def kBoolB (P : Program) (op : BinOp) (t : TypeId) (a : Bool) (zm : KZ) (nx : Nat) (K : KT) (b : Bool) : Prop := chk (isBoolT P t) 66 (eqn op (beqB a b) fun r => K (.bool r) zm nx [] [])
def kStrB (op : BinOp) (n x : Nat) (zm : KZ) (nx : Nat) (K : KT) (m y : Nat) : Prop := eqn op (strEq n x m y) fun r => K (.bool r) zm nx [] []
def kNilB (P : Program) (op : BinOp) (t : TypeId) (x : KV) (zm : KZ) (nx : Nat) (K : KT) : Prop := chk (isPtrT P t) 67 (os 68 (fun b => eqn op b fun r => K (.bool r) zm nx [] []) (isNilK x))
/-- Is a slice none? -/
def nilsV (m : Mem) (v : V) : Option (Bool × List Nat) := match v with
  | .nils => some (true, [])
  | .ro _ _ _ (_ + 1) _ => some (false, [])
  | .sl _ _ _ _ (_ + 1) _ => some (false, [])
  | .sl _ _ _ _ 0 (some (_ + 1)) => some (false, [])
  | .row id _ (_ + 1) => match m id with
    | some blk => if blk.alive then some (false, [id]) else none
    | none => none
  | _ => none
theorem sem_eq_nils {op : BinOp} {t t' e : TypeId} {x y : Operand} {ρ : Operand → V} {m : Mem} {n : Nat} {b : Bool} {rd : List Nat} (ho : o.op = .binOp op t x y t') (hop : op = .eql ∨ op = .neq) (hx : nilsV m (ρ x) = some (b, rd)) (hy : ρ y = .nils) (hu : P.underlying t = some (.slice e)) :
    OpSem P B o ρ m n ⟨.bool (if op = .eql then b else !b), [], [], rd⟩ :=
  OpSem.pure fun C M ρc hs hr hrel => by
    have h0 := hrel x (by simp [ho, Op.operands])
    have h1 := hrel y (by simp [ho, Op.operands])
    rw [hy] at h1
    have h1' : ρc y = .slice none 0 0 := h1
    obtain ⟨a, l, c, h2, h3⟩ : ∃ a l c, ρc x = .slice a l c ∧ a.isNone = b := by
      unfold nilsV at hx
      split at hx
      · rename_i hv
        cases hx
        rw [hv] at h0
        exact ⟨none, 0, 0, h0, rfl⟩
      · rename_i hv
        cases hx
        rw [hv] at h0
        obtain ⟨a, c, q1, q2, q3, q4⟩ := h0
        rcases q4 with q4 | ⟨g, o, rfl, _⟩
        · cases q4
        · exact ⟨_, _, _, q1, rfl⟩
      · rename_i hv
        cases hx
        rw [hv] at h0
        obtain ⟨hal, ad, c, o1, n1, q1, q2, q3, q4, q5, q6⟩ := h0
        rcases q6 with q6 | ⟨g, _, rfl⟩
        · omega
        · exact ⟨_, _, _, q1, rfl⟩
      · rename_i hv
        cases hx
        rw [hv] at h0
        obtain ⟨hal, ad, c, o1, n1, q1, q2, q3, q4, q5, q6⟩ := h0
        rcases q6 with q6 | ⟨g, _, rfl⟩
        · have := q3 _ rfl; omega
        · exact ⟨_, _, _, q1, rfl⟩
      · rename_i id e' k hv
        split at hx
        · rename_i blk hm
          split at hx
          · rename_i hal
            cases hx
            rw [hv] at h0
            obtain ⟨hal', ⟨a, c, q1⟩, q2, q3⟩ := h0
            have hM : M id = some blk := by rw [hr id (by simp), hm]
            have hbr := hs.mem id blk hM
            unfold BR at hbr; unfold Blk.alive at hal
            refine ⟨a, k + 1, c, by rw [← q1]; exact q3, ?_⟩
            cases hkd : blk.k <;> simp only [hkd] at hbr hal
            · obtain ⟨g, cur, e', h4, _⟩ := hbr
              rw [q1] at h4; cases h4
            · obtain ⟨n1, s1, cells, h4, h5, h6, _⟩ := hbr
              rcases h6.2 with ⟨h7, h8⟩ | ⟨g, cap, cur, hv, _⟩
              · rw [q1] at h7; cases h7
              · rw [q1] at hv; cases hv; rfl
            · simp at hal
            · simp at hal
            · simp at hal
          · cases hx
        · cases hx
      · cases hx
    have he : ∀ w, (Op.equal t (.slice a l c) (.slice none 0 0)).run P w = .ok a.isNone w := fun w => by
      show (Op.equalIn (9999 + 1) t (.slice a l c) (.slice none 0 0)).run P w = .ok a.isNone w
      generalize 9999 = d
      cases a <;> simp [Op.equalIn, run_underlying hu]
    rcases hop with rfl | rfl
    · exact ⟨.bool b, by simp [execOp, ho, h1', h2, eqGuard, binOp, he, h3], rfl⟩
    · exact ⟨.bool (!b), by simp [execOp, ho, h1', h2, eqGuard, binOp, he, h3], rfl⟩
def isSlT (P : Program) (t : TypeId) : Bool := match P.underlying t with | some (.slice _) => true | _ => false
def kNilS (P : Program) (op : BinOp) (t : TypeId) (x : KV) (zm : KZ) (nx : Nat) (K : KT) : Prop :=
  chk (isSlT P t) 241 (onNils (eqn op true fun r => K (.bool r) zm nx [] [])
    (onRo (fun _ _ _ _ len _ => chk (Nat.blt 0 len) 242 (eqn op false fun r => K (.bool r) zm nx [] []))
      (onSl (fun _ _ _ _ len cap => chk (Nat.blt 0 (@Option.rec Nat (fun _ => Nat) len (fun k => Nat.add len k) cap)) 243 (eqn op false fun r => K (.bool r) zm nx [] []))
        (onRow (fun id _ len => oB zm id fun kd _ _ => chk (nd (isAl kd) (Nat.blt 0 len)) 244 (eqn op false fun r => K (.bool r) zm nx [] [id])) (BadN 245) x) x) x) x)
theorem kNilS_s {op : BinOp} {t t' : TypeId} {x y : Operand} (ho : o.op = .binOp op t x y t') (hy0 : kev τ y = .nils) (h : kNilS P op t (kev τ x) zm nx K) : Out P B o τ lo zm nx K := by
  have hx := kev_v τ x
  have hy := kev_v τ y
  rw [hy0] at hy
  obtain ⟨h1, h2⟩ := chk_inv h
  obtain ⟨e, hu⟩ : ∃ e, P.underlying t = some (.slice e) := by
    unfold isSlT at h1
    split at h1
    · exact ⟨_, ‹_›⟩
    · cases h1
  have fin : ∀ (b : Bool) (rd : List Nat), (eqn op b fun r => K (.bool r) zm nx [] rd) → nilsV (am zm) (opv Gl.G (tv' τ) x) = some (b, rd) → (∀ id ∈ rd, ∃ b, am zm id = some b) → Out P B o τ lo zm nx K := by
    intro b rd hk hn hrd
    rcases eqn_inv hk with ⟨rfl, h5⟩ | ⟨rfl, h5⟩
    · exact Out.pure h5 ⟨sem_eq_nils (ρ := opv Gl.G (tv' τ)) (m := am zm) (n := nx) ho (.inl rfl) hn hy.symm hu, UpIn.rdL hrd⟩ (by rw [v_bool]; exact EImp.refl _)
    · exact Out.pure h5 ⟨sem_eq_nils (ρ := opv Gl.G (tv' τ)) (m := am zm) (n := nx) ho (.inr rfl) hn hy.symm hu, UpIn.rdL hrd⟩ (by rw [v_bool]; exact EImp.refl _)
  rcases onNils_inv h2 with ⟨hp, h3⟩ | ⟨_, h2⟩
  · rw [hp] at hx
    exact fin true [] h3 (by rw [← hx]; rfl) (fun _ h => (by cases h))
  rcases onRo_inv h2 with ⟨u, cl, s, off, len, c, hp, h3⟩ | ⟨_, h2⟩
  · obtain ⟨h4, h5⟩ := chk_inv h3
    rw [hp] at hx
    rw [nblt] at h4
    obtain ⟨k, rfl⟩ : ∃ k, len = k + 1 := ⟨len - 1, by omega⟩
    exact fin false [] h5 (by rw [← hx]; rfl) (fun _ h => (by cases h))
  rcases onSl_inv h2 with ⟨id, p, s, off, len, cap, hp, h3⟩ | ⟨_, h2⟩
  · obtain ⟨h4, h5⟩ := chk_inv h3
    rw [hp] at hx
    rw [nblt] at h4
    refine fin false [] h5 ?_ (fun _ h => (by cases h))
    rw [← hx]
    cases len with
    | succ k => rfl
    | zero =>
      cases cap with
      | none => exact absurd h4 (Nat.lt_irrefl 0)
      | some k =>
        cases k with
        | zero => exact absurd h4 (Nat.lt_irrefl 0)
        | succ k => rfl
  rcases onRow_inv h2 with ⟨id, s, len, hp, h3⟩ | ⟨_, h2⟩
  · obtain ⟨kd, sh, v, hb, h4⟩ := oB_inv h3
    obtain ⟨h5, h6⟩ := chk_inv h4
    obtain ⟨q1, q2⟩ := nd_iff.1 h5
    rw [hp] at hx
    rw [nblt] at q2
    obtain ⟨k, rfl⟩ : ∃ k, len = k + 1 := ⟨len - 1, by omega⟩
    refine fin false [id] h6 ?_ (fun i hi => by rw [List.mem_singleton] at hi; subst hi; exact ⟨_, am_some hb⟩)
    rw [← hx]
    show nilsV (am zm) (.row id s (k + 1)) = _
    unfold nilsV
    simp only [am_some hb, KBlk.b, isAl_eq, q1, if_true]
  · exact h2.elim
def kBin (P : Program) (op : BinOp) (t : TypeId) (x y : KV) (zm : KZ) (nx : Nat) (K : KT) : Prop :=
  onInt (fun k a => onInt (kNumB op k a zm nx K) (BadN 69) y)
    (onBool (fun a => onBool (kBoolB P op t a zm nx K) (BadN 70) y)
      (onStr (fun n s => onStr (kStrB op n s zm nx K) (BadN 71) y)
        (onNilp (kNilB P op t x zm nx K) (onNils (kNilS P op t x zm nx K) (kAgg P op t x y zm nx K) y) y) x) x) x
omit [KGl] in
theorem yBinA_nil {v : V} {b : Bool} {t e : TypeId} (h1 : ∀ s, v ≠ .str s) (h2 : v.isNilp = some b) (hu : P.underlying t = some (.pointer e)) : (yBinA P .eql t v .nilp).is (pureE (.bool b)) := by
  have : yBinA P .eql t v .nilp = okE (.bool b) := by
    cases v <;> first
      | exact absurd rfl (h1 _)
      | (cases h2; done)
      | (simp only [V.isNilp, Option.some.injEq] at h2; subst h2; simp [yBinA, strB, yBinS, hu, V.isNilp])
  rw [this]; rfl
omit [KGl] in
theorem yBinA_nil' {v : V} {b : Bool} {t e : TypeId} (h1 : ∀ s, v ≠ .str s) (h2 : v.isNilp = some b) (hu : P.underlying t = some (.pointer e)) : (yBinA P .neq t v .nilp).is (pureE (.bool !b)) := by
  have : yBinA P .neq t v .nilp = okE (.bool !b) := by
    cases v <;> first
      | exact absurd rfl (h1 _)
      | (cases h2; done)
      | (simp only [V.isNilp, Option.some.injEq] at h2; subst h2; simp [yBinA, strB, yBinS, hu, V.isNilp])
  rw [this]; rfl
theorem kBin_s {op : BinOp} {t t' : TypeId} {x y : Operand} (ho : o.op = .binOp op t x y t') (h : kBin P op t (kev τ x) (kev τ y) zm nx K) : Out P B o τ lo zm nx K := by
  have hx := kev_v τ x
  have hy := kev_v τ y
  rcases onInt_inv h with ⟨k, a, ha, h1⟩ | ⟨_, h1⟩
  · rcases onInt_inv h1 with ⟨k', b, hb, h2⟩ | ⟨_, h2⟩
    · exact kNum_s ho ha hb h2
    · exact h2.elim
  rcases onBool_inv h1 with ⟨a, ha, h1⟩ | ⟨_, h1⟩
  · rcases onBool_inv h1 with ⟨b, hb, h2⟩ | ⟨_, h2⟩
    · obtain ⟨h3, h4⟩ := chk_inv h2
      rw [ha] at hx; rw [hb] at hy
      have hu : P.underlying t = some .bool := by
        unfold isBoolT at h3
        split at h3
        · assumption
        · cases h3
      rcases eqn_inv h4 with ⟨rfl, h5⟩ | ⟨rfl, h5⟩
      · refine Out.pure h5 (yBinA_s (e := pureE (.bool (a == b))) ho ?_) (by rw [v_bool, beqB_eq]; exact EImp.refl _)
        rw [← hx, ← hy]
        show (yBinA P _ t (.bool a) (.bool b)).is _
        rw [yBinA_bool]
        simp only [yBin, hu]; rfl
      · refine Out.pure h5 (yBinA_s (e := pureE (.bool (!(a == b)))) ho ?_) (by rw [v_bool, beqB_eq]; exact EImp.refl _)
        rw [← hx, ← hy]
        show (yBinA P _ t (.bool a) (.bool b)).is _
        rw [yBinA_bool]
        simp only [yBin, hu]; rfl
    · exact h2.elim
  rcases onStr_inv h1 with ⟨n, a, ha, h1⟩ | ⟨_, h1⟩
  · rcases onStr_inv h1 with ⟨m, b, hb, h2⟩ | ⟨_, h2⟩
    · rw [ha] at hx; rw [hb] at hy
      rcases eqn_inv h2 with ⟨rfl, h5⟩ | ⟨rfl, h5⟩
      · refine Out.pure h5 (yBinA_s (e := pureE (.bool (lbeq (bytesOf n a).data.toList (bytesOf m b).data.toList))) ho ?_) (by rw [v_bool, strEq_eq]; exact EImp.refl _)
        rw [← hx, ← hy]; rfl
      · refine Out.pure h5 (yBinA_s (e := pureE (.bool !(lbeq (bytesOf n a).data.toList (bytesOf m b).data.toList))) ho ?_) (by rw [v_bool, strEq_eq]; exact EImp.refl _)
        rw [← hx, ← hy]; rfl
    · exact h2.elim
  rcases onNilp_inv h1 with ⟨hb, h1⟩ | ⟨hny, h1⟩
  · obtain ⟨h3, h4⟩ := chk_inv h1
    obtain ⟨b, h5, h6⟩ := os_inv h4
    rw [hb] at hy
    obtain ⟨e, hu⟩ : ∃ e, P.underlying t = some (.pointer e) := by
      unfold isPtrT at h3
      split at h3
      · exact ⟨_, ‹_›⟩
      · cases h3
    have hn : (kev τ x).v.isNilp = some b ∧ ∀ s, (kev τ x).v ≠ .str s := by
      unfold isNilK at h5
      split at h5
      · rename_i hv; cases h5; rw [hv]; exact ⟨rfl, fun s hs => by cases hs⟩
      · rename_i hv; cases h5; rw [hv]; exact ⟨rfl, fun s hs => by cases hs⟩
      · rename_i hv; cases h5; rw [hv]; exact ⟨rfl, fun s hs => by cases hs⟩
      · cases h5
    rcases eqn_inv h6 with ⟨rfl, h7⟩ | ⟨rfl, h7⟩
    · refine Out.pure h7 (yBinA_s (e := pureE (.bool b)) ho ?_) (EImp.refl _)
      rw [← hx, ← hy, v_nilp]
      exact yBinA_nil hn.2 hn.1 hu
    · refine Out.pure h7 (yBinA_s (e := pureE (.bool !b)) ho ?_) (EImp.refl _)
      rw [← hx, ← hy, v_nilp]
      exact yBinA_nil' hn.2 hn.1 hu
  rcases onNils_inv h1 with ⟨hb, h1⟩ | ⟨_, h1⟩
  · exact kNilS_s ho hb h1
  · obtain ⟨h3, h4⟩ := chk_inv h1
    obtain ⟨b, h5, h6⟩ := os_inv h4
    simp only [nd_iff, eqS, cmpS] at h3
    obtain ⟨⟨q1, q2⟩, ⟨p1, p2, p3⟩, r1, r2, r3⟩ := h3
    have hv : eqV (kev τ x).v (kev τ y).v = b := keq_s _ _ _ _ h5
    have ax := isAggK_s p1
    have ay := isAggK_s r1
    have hc : ∀ op', (yBinA P op' t (kev τ x).v (kev τ y).v) = (match op' with
      | .eql => okE (.bool b)
      | .neq => okE (.bool !b)
      | _ => .bad) := by
      intro op'
      have e1 : yBinA P op' t (kev τ x).v (kev τ y).v = yBin P op' t (kev τ x).v (kev τ y).v := by
        unfold yBinA
        have : strB (kev τ x).v (kev τ y).v = false := by
          cases hvx : (kev τ x).v <;> rw [hvx] at ax <;> first | (cases ax; done) | skip
          all_goals (cases hvy : (kev τ y).v <;> rw [hvy] at ay <;> first | (cases ay; done) | rfl)
        rw [this]
      rw [e1]
      unfold yBin
      split
      · rename_i e2 _; rw [e2] at ax; cases ax
      · rename_i e2 _; rw [e2] at ax; cases ax
      · rw [ax, ay, q1, kcmp_s _ _ _ _ p2 r2, (kfits_s p3).1, (kfits_s r3).1, q2, hv]; rfl
    rcases eqn_inv h6 with ⟨rfl, h7⟩ | ⟨rfl, h7⟩
    · exact Out.pure h7 (yBinA_s (e := pureE (.bool b)) ho (by rw [← hx, ← hy, hc]; rfl)) (EImp.refl _)
    · exact Out.pure h7 (yBinA_s (e := pureE (.bool !b)) ho (by rw [← hx, ← hy, hc]; rfl)) (EImp.refl _)
def kUn (op : UnOp) (x : KV) (zm : KZ) (nx : Nat) (K : KT) : Prop := @UnOp.rec (fun _ => KV → (KV → Prop) → Prop)
  (fun x K => onInt (fun k a => fI (k.wrap (0 - a)) fun r => K (.int k r)) (BadN 72) x) (fun x K => onInt (fun k a => fI (notI k a) fun r => K (.int k r)) (BadN 73) x)
  (fun x K => onBool (fun b => fB (!b) fun r => K (.bool r)) (BadN 74) x) (fun _ _ => BadN 75) op x fun r => K r zm nx [] []
theorem kUn_s {op : UnOp} {t : TypeId} {x : Operand} (ho : o.op = .unOp op t x) (h : kUn op (kev τ x) zm nx K) : Out P B o τ lo zm nx K := by
  have hx := kev_v τ x
  cases op
  · rcases onInt_inv (show onInt (fun k a => fI (k.wrap (0 - a)) fun r => K (.int k r) zm nx [] []) (BadN 72) (kev τ x) from h) with ⟨k, a, ha, h1⟩ | ⟨_, h1⟩
    · rw [fI_eq] at h1
      rw [ha] at hx
      exact Out.pure h1 (yUn_s (e := pureE _) ho (by rw [← hx]; rfl)) (EImp.refl _)
    · exact h1.elim
  · rcases onInt_inv (show onInt (fun k a => fI (notI k a) fun r => K (.int k r) zm nx [] []) (BadN 73) (kev τ x) from h) with ⟨k, a, ha, h1⟩ | ⟨_, h1⟩
    · rw [fI_eq] at h1
      rw [ha] at hx
      exact Out.pure h1 (yUn_s (e := pureE _) ho (by rw [← hx]; rfl)) (EImp.refl _)
    · exact h1.elim
  · rcases onBool_inv (show onBool (fun b => fB (!b) fun r => K (.bool r) zm nx [] []) (BadN 74) (kev τ x) from h) with ⟨b, ha, h1⟩ | ⟨_, h1⟩
    · rw [fB_eq] at h1
      rw [ha] at hx
      exact Out.pure h1 (yUn_s (e := pureE _) ho (by rw [← hx]; rfl)) (EImp.refl _)
    · exact h1.elim
  · exact (show BadN 75 from h).elim
end
end
end Go.K
