/- Single operations: memory, operands, what comes out. No condition. -/
import Derived.Test.YtkjoldifiniliaaK2
set_option linter.unusedVariables false
set_option linter.unusedSimpArgs false
namespace Go.K
open Go.Ab Go.RowKit Go.Y
noncomputable section
/-- What the globals are. -/
class KGl where
  g : Nat → KV
  cl : Bool := false
instance instGl [KGl] : Gl := { G := fun i => (KGl.g i).v, cl := KGl.cl }
variable [KGl]

/-! ### Tests -/
def chk (c : Bool) (n : Nat) (p : Prop) : Prop := @Bool.rec (fun _ => Prop) (BadN n) p c
omit [KGl] in
theorem chk_inv {c : Bool} {n : Nat} {p : Prop} (h : chk c n p) : c = true ∧ p := by
  cases c with
  | false => exact (show BadN n from h).elim
  | true => exact ⟨rfl, h⟩
def os {α : Type} (n : Nat) (f : α → Prop) (o : Option α) : Prop := @Option.rec α (fun _ => Prop) (BadN n) f o
omit [KGl] in
theorem os_inv {α : Type} {n : Nat} {f : α → Prop} {o : Option α} (h : os n f o) : ∃ x, o = some x ∧ f x := by
  cases o with
  | none => exact (show BadN n from h).elim
  | some x => exact ⟨x, rfl, h⟩

/-! ### Memory -/
structure KBlk where
  k : Kind
  sh : Shape
  v : KV
def KBlk.b (x : KBlk) : Blk := ⟨x.k, x.sh, x.v.v⟩
abbrev KZ := Tr (Option KBlk)
def kb (zm : KZ) (id : Nat) : Option KBlk := get none (enc id) zm
def am (zm : KZ) : Mem := fun id => (kb zm id).map KBlk.b
omit [KGl] in
theorem kb_set {zm : KZ} {x : Option KBlk} {i id : Nat} : kb (set x (enc i) zm) id = if id = i then x else kb zm id := get_set_n _ _ _ _ _
omit [KGl] in
theorem am_set {zm : KZ} {b : KBlk} {id : Nat} : am (set (some b) (enc id) zm) = upd (am zm) id (some b.b) := by
  funext i
  unfold am upd
  rw [kb_set]
  split <;> rfl
omit [KGl] in
theorem am_e : am .e = fun _ => none := by funext i; unfold am kb; rw [get_e]; rfl
omit [KGl] in
theorem am_some {zm : KZ} {id : Nat} {x : KBlk} (h : kb zm id = some x) : am zm id = some x.b := by unfold am; rw [h]; rfl
abbrev KT := KV → KZ → Nat → List Nat → List Nat → Prop
/-- A block. -/
def oB (zm : KZ) (id : Nat) (f : Kind → Shape → KV → Prop) : Prop := os 1 (fun x => @KBlk.rec (fun _ => Prop) (fun k sh v => f k sh v) x) (kb zm id)
omit [KGl] in
theorem oB_inv {zm : KZ} {id : Nat} {f : Kind → Shape → KV → Prop} (h : oB zm id f) : ∃ k sh v, kb zm id = some ⟨k, sh, v⟩ ∧ f k sh v := by
  obtain ⟨⟨k, sh, v⟩, h1, h2⟩ := os_inv h
  exact ⟨k, sh, v, h1, h2⟩
def isAl (k : Kind) : Bool := @Kind.rec (fun _ => Bool) true (fun _ => true) false k
omit [KGl] in
theorem isAl_eq (k : Kind) (sh : Shape) (v : V) : (Blk.mk k sh v).alive = isAl k := by cases k <;> rfl
def nwB (k : Kind) (sh : Shape) (v : KV) (zm : KZ) (nx : Nat) (K : KZ → Nat → Prop) : Prop := fV v fun v => setTK (some ⟨k, sh, v⟩) (enc nx) zm fun zm => forceN (Nat.succ nx) fun nx => K zm nx
theorem nwB_eq (k : Kind) (sh : Shape) (v : KV) (zm : KZ) (nx : Nat) (K : KZ → Nat → Prop) : nwB k sh v zm nx K = K (set (some ⟨k, sh, v⟩) (enc nx) zm) (nx + 1) := by
  unfold nwB; rw [fV_eq, setTK_eq, forceN_eq]
def upB (id : Nat) (k : Kind) (sh : Shape) (v : KV) (zm : KZ) (K : KZ → Prop) : Prop := fV v fun v => setTK (some ⟨k, sh, v⟩) (enc id) zm K
theorem upB_eq (id : Nat) (k : Kind) (sh : Shape) (v : KV) (zm : KZ) (K : KZ → Prop) : upB id k sh v zm K = K (set (some ⟨k, sh, v⟩) (enc id) zm) := by
  unfold upB; rw [fV_eq, setTK_eq]

/-! ### Operands -/
def packL : List UInt8 → Nat
  | [] => 0
  | b :: l => b.toNat + 256 * packL l
omit [KGl] in
theorem packL_get : ∀ (l : List UInt8) (i : Nat), pkr .u8 (packL l) i = (l.getD i 0).toNat
  | [], i => by
    show bts 0 (8 * i) 8 = 0
    apply Nat.eq_of_testBit_eq; intro b
    rw [bts_bit]; simp
  | b :: l, 0 => by
    show (b.toNat + 256 * packL l) >>> (8 * 0) % 2 ^ 8 = b.toNat
    have := b.toNat_lt
    rw [Nat.mul_zero, Nat.shiftRight_zero]; omega
  | b :: l, i + 1 => by
    have h := packL_get l i
    rw [show (b :: l).getD (i + 1) 0 = l.getD i 0 from rfl, ← h]
    show (b.toNat + 256 * packL l) >>> (8 * (i + 1)) % 2 ^ 8 = packL l >>> (8 * i) % 2 ^ 8
    have hb := b.toNat_lt
    rw [show 8 * (i + 1) = 8 + 8 * i by omega, Nat.shiftRight_add]
    congr 2
    rw [Nat.shiftRight_eq_div_pow]; omega
omit [KGl] in
theorem bytesOf_pack (s : ByteArray) : bytesOf s.size (packL s.data.toList) = s := by
  obtain ⟨⟨l⟩⟩ := s
  show ByteArray.mk ⟨_⟩ = _
  congr 2
  apply List.ext_getElem?
  intro i
  show ((List.range l.length).map fun i => UInt8.ofNat (pkr .u8 (packL l) i))[i]? = l[i]?
  rw [List.getElem?_map]
  by_cases hi : i < l.length
  · rw [List.getElem?_range hi, Option.map_some, packL_get, List.getElem?_eq_getElem hi]
    congr 1
    rw [List.getD_eq_getElem?_getD, List.getElem?_eq_getElem hi, Option.getD_some]
    exact UInt8.ofNat_toNat
  · rw [List.getElem?_eq_none (by simpa using hi), List.getElem?_eq_none (by simpa using hi)]; rfl
def kofVal (v : Value) : KV := match v with
  | .int k n => .int k n
  | .bool b => .bool b
  | .string s => .str s.size (packL s.data.toList)
  | .pointer none => .nilp
  | .slice none 0 0 => .nils
  | .nilFunc => .nilf
  | _ => .unk
omit [KGl] in
theorem kofVal_v (v : Value) : (kofVal v).v = V.ofVal v := by
  unfold kofVal V.ofVal
  split
  · rfl
  · rfl
  · rw [v_str, bytesOf_pack]
  · rfl
  · rfl
  · rfl
  · split <;> first
      | rfl
      | (exfalso; simp_all; done)
def kev (τ : Nat → KV) (x : Operand) : KV := @Operand.rec (fun _ => (Nat → KV) → KV) (fun t τ => τ t) (fun v _ => kofVal v) (fun g _ => KGl.g g) (fun f _ => .fn f .nl) x τ
/-- What the temporaries stand for. -/
def tv' (τ : Nat → KV) : Nat → V := fun t => (τ t).v
theorem kev_v (τ : Nat → KV) (x : Operand) : (kev τ x).v = opv Gl.G (tv' τ) x := by
  cases x with
  | tmp t => rfl
  | const v => exact kofVal_v v
  | global g => rfl
  | func f => rfl

/-! ### What comes out -/
/-- 'lo': what lies below is not written. -/
def Out (P : Program) (B : Nat) (o : Oper) (τ : Nat → KV) (lo : Nat) (zm : KZ) (nx : Nat) (K : KT) : Prop :=
  ∃ (v : KV) (zm' : KZ) (nx' : Nat) (up rd : List Nat) (e : Eff), K v zm' nx' up rd ∧ e.v = v.v ∧ nx' = nx + e.nw.length ∧ e.up.map (·.1) = up ∧ e.rd = rd ∧ am zm' = put (am zm) nx e ∧
    OpSem P B o (opv Gl.G (tv' τ)) (am zm) nx e ∧ UpIn (am zm) e ∧ ∀ id ∈ up, lo ≤ id
section
variable {P : Program} {B : Nat} {o : Oper} {τ : Nat → KV} {lo : Nat} {zm : KZ} {nx : Nat} {K : KT}
theorem Out.pure {v : KV} {e : Eff} {rd : List Nat} (hK : K v zm nx [] rd) (h : OpSem P B o (opv Gl.G (tv' τ)) (am zm) nx e ∧ UpIn (am zm) e) (he : EImp e ⟨v.v, [], [], rd⟩) : Out P B o τ lo zm nx K :=
  ⟨v, zm, nx, [], rd, ⟨v.v, [], [], rd⟩, hK, rfl, rfl, rfl, rfl, by rw [put_pure], opsem_imp h.1 he, upin_imp h.2 he, by intro id hid; cases hid⟩
theorem Out.new {v : KV} {e : Eff} {rd : List Nat} {k : Kind} {sh : Shape} {x : KV} (hK : nwB k sh x zm nx fun zm nx => K v zm nx [] rd) (h : OpSem P B o (opv Gl.G (tv' τ)) (am zm) nx e ∧ UpIn (am zm) e) (he : EImp e ⟨v.v, [], [⟨k, sh, x.v⟩], rd⟩) : Out P B o τ lo zm nx K := by
  rw [nwB_eq] at hK
  exact ⟨v, _, _, [], rd, ⟨v.v, [], [⟨k, sh, x.v⟩], rd⟩, hK, rfl, rfl, rfl, rfl, by rw [put_new, am_set]; rfl, opsem_imp h.1 he, upin_imp h.2 he, by intro id hid; cases hid⟩
theorem Out.up {v : KV} {e : Eff} {rd : List Nat} {id : Nat} {k : Kind} {sh : Shape} {x : KV} (hK : upB id k sh x zm fun zm => K v zm nx [id] rd) (hlo : lo ≤ id) (h : OpSem P B o (opv Gl.G (tv' τ)) (am zm) nx e ∧ UpIn (am zm) e) (he : EImp e ⟨v.v, [(id, ⟨k, sh, x.v⟩)], [], rd⟩) : Out P B o τ lo zm nx K := by
  rw [upB_eq] at hK
  exact ⟨v, _, _, [id], rd, ⟨v.v, [(id, ⟨k, sh, x.v⟩)], [], rd⟩, hK, rfl, rfl, rfl, rfl, by rw [put_up, am_set]; rfl, opsem_imp h.1 he, upin_imp h.2 he, by intro i hi; simp only [List.mem_singleton] at hi; subst hi; exact hlo⟩
theorem Out.upnew {v : KV} {e : Eff} {rd : List Nat} {id : Nat} {k : Kind} {sh : Shape} {x : KV} {k2 : Kind} {sh2 : Shape} {x2 : KV} (hid : id < nx) (hK : upB id k2 sh2 x2 zm fun zm => nwB k sh x zm nx fun zm nx => K v zm nx [id] rd) (hlo : lo ≤ id) (h : OpSem P B o (opv Gl.G (tv' τ)) (am zm) nx e ∧ UpIn (am zm) e) (he : EImp e ⟨v.v, [(id, ⟨k2, sh2, x2.v⟩)], [⟨k, sh, x.v⟩], rd⟩) : Out P B o τ lo zm nx K := by
  rw [upB_eq, nwB_eq] at hK
  refine ⟨v, _, _, [id], rd, ⟨v.v, [(id, ⟨k2, sh2, x2.v⟩)], [⟨k, sh, x.v⟩], rd⟩, hK, rfl, rfl, rfl, rfl, ?_, opsem_imp h.1 he, upin_imp h.2 he, by intro i hi; simp only [List.mem_singleton] at hi; subst hi; exact hlo⟩
  rw [am_set, am_set]
  funext i
  unfold put touch upd
  simp only [List.length_cons, List.length_nil]
  by_cases h1 : i = nx
  · subst h1; simp; rfl
  · rw [if_neg h1, if_neg (show ¬ (nx ≤ i ∧ i < nx + (0 + 1)) by omega)]
    by_cases h2 : i = id
    · subst h2; simp [List.lookup]; rfl
    · have : (i == id) = false := by simpa using h2
      simp [List.lookup, this, h2]
end

/-! ### Values that fit -/
def isArr (s : Shape) (n : Nat) (f : Shape → Bool) : Bool := @Shape.rec (fun _ => Bool) false false (fun _ _ _ _ => false) (fun m e _ => @Bool.rec (fun _ => Bool) false (f e) (Nat.beq n m)) s
def isScB (s : Shape) : Bool := @Shape.rec (fun _ => Bool) true false (fun _ _ _ _ => false) (fun _ _ _ => false) s
def isNlB (s : Shape) : Bool := @Shape.rec (fun _ => Bool) false true (fun _ _ _ _ => false) (fun _ _ _ => false) s
def isCnB (s : Shape) (f : Shape → Shape → Bool) : Bool := @Shape.rec (fun _ => Bool) false false (fun a b _ _ => f a b) (fun _ _ _ => false) s
def nd (a b : Bool) : Bool := @Bool.rec (fun _ => Bool) false b a
omit [KGl] in
theorem nd_iff {a b : Bool} : nd a b = true ↔ a = true ∧ b = true := by cases a <;> simp [nd]
/-- It fits, and something is known of it ('m': a value; else a tree of places). -/
def kfit (v : KV) : Bool → Shape → Bool := @KV.rec (fun _ => Bool → Shape → Bool) (fun x0 x1 m sh => nd m (isScB sh)) (fun x0 m sh => nd m (isScB sh)) (fun x0 x1 m sh => nd m (isScB sh)) (fun  m sh => nd m (isNlB sh)) (fun x0 x1 r0 r1 m sh => nd m (isCnB sh fun a b => nd (r0 true a) (r1 true b))) (fun x0 x1 x2 m sh => nd m (isArr sh x1 isScB)) (fun x0 x1 x2 r0 r1 m sh => nd m (isArr sh x0 fun e => nd (r0 true e) (r1 false e))) (fun  m sh => @Bool.rec (fun _ => Bool) true false m) (fun x0 x1 x2 x3 r0 r1 r2 r3 m sh => @Bool.rec (fun _ => Bool) (nd (r0 false sh) (nd (r1 false sh) (nd (r2 false sh) (r3 false sh)))) false m) (fun x0 x1 x2 x3 x4 r0 r1 r2 r3 r4 m sh => @Bool.rec (fun _ => Bool) (nd (r0 true sh) (nd (r1 false sh) (nd (r2 false sh) (nd (r3 false sh) (r4 false sh))))) false m) (fun x0 x1 x2 m sh => nd m (isScB sh)) (fun x0 x1 x2 m sh => nd m (isScB sh)) (fun x0 x1 x2 x3 x4 x5 m sh => nd m (isScB sh)) (fun x0 x1 x2 r0 m sh => nd m (isScB sh)) (fun  m sh => nd m (isScB sh)) (fun  m sh => nd m (isScB sh)) (fun  m sh => nd m (isScB sh)) (fun x0 x1 x2 x3 x4 x5 r0 m sh => nd m (isScB sh)) (fun x0 x1 r0 m sh => nd m (isScB sh)) (fun x0 r0 m sh => false) (fun  m sh => false) v
omit [KGl] in
theorem isScB_s {s : Shape} (h : isScB s = true) : s = .sc := by cases s <;> first | rfl | cases h
omit [KGl] in
theorem isArr_s {s : Shape} {n : Nat} {f : Shape → Bool} (h : isArr s n f = true) : ∃ e, s = .arr n e ∧ f e = true := by
  cases s with
  | arr m e =>
    have h1 : @Bool.rec (fun _ => Bool) false (f e) (Nat.beq n m) = true := h
    cases hb : Nat.beq n m with
    | false => rw [hb] at h1; cases h1
    | true => rw [hb] at h1; rw [Nat.eq_of_beq_eq_true hb]; exact ⟨e, rfl, h1⟩
  | _ => cases h
def Fit (v : KV) (s : Shape) : Prop := v.v.fits s = true ∧ v.v.known = true
omit [KGl] in
theorem kfit_s (v : KV) : ∀ (s : Shape), (kfit v true s = true → Fit v s) ∧ (kfit v false s = true → ∀ (p : Pth) (z : V), z.fits s = true → (v.atv p z).fits s = true) := by
  induction v with
  | cons a b ih1 ih2 =>
    intro s
    refine ⟨fun h => ?_, fun h => (by cases h)⟩
    have h0 : isCnB s (fun x y => nd (kfit a true x) (kfit b true y)) = true := h
    cases s with
    | cons x y =>
      obtain ⟨h1, h2⟩ := nd_iff.1 (show nd (kfit a true x) (kfit b true y) = true from h0)
      have q1 := ((ih1 x).1 h1).1
      have q2 := ((ih2 y).1 h2).1
      refine ⟨?_, rfl⟩
      show (a.v.fits x && b.v.fits y) = true
      rw [q1, q2]; rfl
    | _ => cases h0
  | nl =>
    intro s
    refine ⟨fun h => ?_, fun h => (by cases h)⟩
    have h0 : isNlB s = true := h
    cases s <;> first | exact ⟨rfl, rfl⟩ | cases h0
  | pk k n x =>
    intro s
    refine ⟨fun h => ?_, fun h => (by cases h)⟩
    obtain ⟨e, rfl, he⟩ := isArr_s (show isArr s n isScB = true from h)
    obtain rfl := isScB_s he
    refine ⟨?_, rfl⟩
    show (n == n && (List.range n).all fun i => (V.int k (pkg k x i)).fits .sc) = true
    simp [V.fits]
  | ar n d t ih1 ih2 =>
    intro s
    refine ⟨fun h => ?_, fun h => (by cases h)⟩
    obtain ⟨e, rfl, he⟩ := isArr_s (show isArr s n (fun e => nd (kfit d true e) (kfit t false e)) = true from h)
    obtain ⟨h1, h2⟩ := nd_iff.1 he
    refine ⟨?_, rfl⟩
    show (n == n && (List.range n).all fun i => (t.atv (enc i) d.v).fits e) = true
    simp only [beq_self_eq_true, Bool.true_and, List.all_eq_true]
    intro i _
    exact (ih2 e).2 h2 _ _ ((ih1 e).1 h1).1
  | te => intro s; exact ⟨fun h => (by cases h), fun _ p z hz => hz⟩
  | tb a b c d ih1 ih2 ih3 ih4 =>
    intro s
    refine ⟨fun h => (by cases h), fun h p z hz => ?_⟩
    have h0 : nd (kfit a false s) (nd (kfit b false s) (nd (kfit c false s) (kfit d false s))) = true := h
    simp only [nd_iff] at h0
    cases p with
    | nil => exact hz
    | cons g p =>
      cases g
      · exact (ih1 s).2 h0.1 p z hz
      · exact (ih2 s).2 h0.2.1 p z hz
      · exact (ih3 s).2 h0.2.2.1 p z hz
      · exact (ih4 s).2 h0.2.2.2 p z hz
  | tn x a b c d ih0 ih1 ih2 ih3 ih4 =>
    intro s
    refine ⟨fun h => (by cases h), fun h p z hz => ?_⟩
    have h0 : nd (kfit x true s) (nd (kfit a false s) (nd (kfit b false s) (nd (kfit c false s) (kfit d false s)))) = true := h
    simp only [nd_iff] at h0
    cases p with
    | nil => exact ((ih0 s).1 h0.1).1
    | cons g p =>
      cases g
      · exact (ih1 s).2 h0.2.1 p z hz
      · exact (ih2 s).2 h0.2.2.1 p z hz
      · exact (ih3 s).2 h0.2.2.2.1 p z hz
      · exact (ih4 s).2 h0.2.2.2.2 p z hz
  | tup l => intro s; exact ⟨fun h => (by cases h), fun h => (by cases h)⟩
  | unk => intro s; exact ⟨fun h => (by cases h), fun h => (by cases h)⟩
  | _ =>
    intro s
    refine ⟨fun h => ?_, fun h => (by cases h)⟩
    obtain rfl := isScB_s (show isScB s = true from h)
    exact ⟨rfl, rfl⟩
def kfits (v : KV) (s : Shape) : Bool := kfit v true s
omit [KGl] in
theorem kfits_s {v : KV} {s : Shape} (h : kfits v s = true) : v.v.fits s = true ∧ v.v.known = true := (kfit_s v s).1 h
end
end Go.K
