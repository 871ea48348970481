/- Single operations: memory, operands, what comes out. No condition. Single operations: memory, addresses, numbers. No condition. -/
import Derived.Test.YthnhbdidiglcgaaGreatDoorK2
set_option linter.unusedVariables false
set_option linter.unusedSimpArgs false
namespace Go.K
open Go.Ab Go.RowKit Go.Y
noncomputable section
/-- What the globals are. -/
class KGl where
  g : Nat → KV
  cl : Bool := false
instance instGl [KGl] : Gl := { G := fun i => (KGl.g i).v, cl := KGl.cl }
variable [KGl]

/-! ### Tests -/
def chk (c : Bool) (n : Nat) (p : Prop) : Prop := @Bool.rec (fun _ => Prop) (BadN n) p c
omit [KGl] in
theorem chk_inv {c : Bool} {n : Nat} {p : Prop} (h : chk c n p) : c = true ∧ p := by
  cases c with
  | false => exact (show BadN n from h).elim
  | true => exact ⟨rfl, h⟩
def os {α : Type} (n : Nat) (f : α → Prop) (o : Option α) : Prop := @Option.rec α (fun _ => Prop) (BadN n) f o
omit [KGl] in
theorem os_inv {α : Type} {n : Nat} {f : α → Prop} {o : Option α} (h : os n f o) : ∃ x, o = some x ∧ f x := by
  cases o with
  | none => exact (show BadN n from h).elim
  | some x => exact ⟨x, rfl, h⟩

/-! ### Memory -/
structure KBlk where
  k : Kind
  sh : Shape
  v : KV
def KBlk.b (x : KBlk) : Blk := ⟨x.k, x.sh, x.v.v⟩
abbrev KZ := Tr (Option KBlk)
def kb (zm : KZ) (id : Nat) : Option KBlk := get none (enc id) zm
def am (zm : KZ) : Mem := fun id => (kb zm id).map KBlk.b
omit [KGl] in
theorem kb_set {zm : KZ} {x : Option KBlk} {i id : Nat} : kb (set x (enc i) zm) id = if id = i then x else kb zm id := get_set_n _ _ _ _ _
omit [KGl] in
theorem am_set {zm : KZ} {b : KBlk} {id : Nat} : am (set (some b) (enc id) zm) = upd (am zm) id (some b.b) := by
  funext i
  unfold am upd
  rw [kb_set]
  split <;> rfl
omit [KGl] in
theorem am_e : am .e = fun _ => none := by funext i; unfold am kb; rw [get_e]; rfl
omit [KGl] in
theorem am_some {zm : KZ} {id : Nat} {x : KBlk} (h : kb zm id = some x) : am zm id = some x.b := by unfold am; rw [h]; rfl
abbrev KT := KV → KZ → Nat → List Nat → List Nat → Prop
/-- A block. -/
def oB (zm : KZ) (id : Nat) (f : Kind → Shape → KV → Prop) : Prop := os 1 (fun x => @KBlk.rec (fun _ => Prop) (fun k sh v => f k sh v) x) (kb zm id)
omit [KGl] in
theorem oB_inv {zm : KZ} {id : Nat} {f : Kind → Shape → KV → Prop} (h : oB zm id f) : ∃ k sh v, kb zm id = some ⟨k, sh, v⟩ ∧ f k sh v := by
  obtain ⟨⟨k, sh, v⟩, h1, h2⟩ := os_inv h
  exact ⟨k, sh, v, h1, h2⟩
def isAl (k : Kind) : Bool := @Kind.rec (fun _ => Bool) (fun _ => true) (fun _ => true) false (fun _ _ _ _ => false) false k
omit [KGl] in
theorem isAl_eq (k : Kind) (sh : Shape) (v : V) : (Blk.mk k sh v).alive = isAl k := by cases k <;> rfl
def nwB (k : Kind) (sh : Shape) (v : KV) (zm : KZ) (nx : Nat) (K : KZ → Nat → Prop) : Prop := fV v fun v => setTK (some ⟨k, sh, v⟩) (enc nx) zm fun zm => forceN (Nat.succ nx) fun nx => K zm nx
theorem nwB_eq (k : Kind) (sh : Shape) (v : KV) (zm : KZ) (nx : Nat) (K : KZ → Nat → Prop) : nwB k sh v zm nx K = K (set (some ⟨k, sh, v⟩) (enc nx) zm) (nx + 1) := by
  unfold nwB; rw [fV_eq, setTK_eq, forceN_eq]
def upB (id : Nat) (k : Kind) (sh : Shape) (v : KV) (zm : KZ) (K : KZ → Prop) : Prop := fV v fun v => setTK (some ⟨k, sh, v⟩) (enc id) zm K
theorem upB_eq (id : Nat) (k : Kind) (sh : Shape) (v : KV) (zm : KZ) (K : KZ → Prop) : upB id k sh v zm K = K (set (some ⟨k, sh, v⟩) (enc id) zm) := by
  unfold upB; rw [fV_eq, setTK_eq]

/-! ### Operands -/
def packL : List UInt8 → Nat
  | [] => 0
  | b :: l => b.toNat + 256 * packL l
omit [KGl] in
theorem packL_get : ∀ (l : List UInt8) (i : Nat), pkr .u8 (packL l) i = (l.getD i 0).toNat
  | [], i => by
    show bts 0 (8 * i) 8 = 0
    apply Nat.eq_of_testBit_eq; intro b
    rw [bts_bit]; simp
  | b :: l, 0 => by
    show (b.toNat + 256 * packL l) >>> (8 * 0) % 2 ^ 8 = b.toNat
    have := b.toNat_lt
    rw [Nat.mul_zero, Nat.shiftRight_zero]; omega
  | b :: l, i + 1 => by
    have h := packL_get l i
    rw [show (b :: l).getD (i + 1) 0 = l.getD i 0 from rfl, ← h]
    show (b.toNat + 256 * packL l) >>> (8 * (i + 1)) % 2 ^ 8 = packL l >>> (8 * i) % 2 ^ 8
    have hb := b.toNat_lt
    rw [show 8 * (i + 1) = 8 + 8 * i by omega, Nat.shiftRight_add]
    congr 2
    rw [Nat.shiftRight_eq_div_pow]; omega
omit [KGl] in
theorem bytesOf_pack (s : ByteArray) : bytesOf s.size (packL s.data.toList) = s := by
  obtain ⟨⟨l⟩⟩ := s
  show ByteArray.mk ⟨_⟩ = _
  congr 2
  apply List.ext_getElem?
  intro i
  show ((List.range l.length).map fun i => UInt8.ofNat (pkr .u8 (packL l) i))[i]? = l[i]?
  rw [List.getElem?_map]
  by_cases hi : i < l.length
  · rw [List.getElem?_range hi, Option.map_some, packL_get, List.getElem?_eq_getElem hi]
    congr 1
    rw [List.getD_eq_getElem?_getD, List.getElem?_eq_getElem hi, Option.getD_some]
    exact UInt8.ofNat_toNat
  · rw [List.getElem?_eq_none (by simpa using hi), List.getElem?_eq_none (by simpa using hi)]; rfl
def kofVal (v : Value) : KV := match v with
  | .int k n => .int k n
  | .bool b => .bool b
  | .string s => .str s.size (packL s.data.toList)
  | .pointer none => .nilp
  | .slice none 0 0 => .nils
  | .nilFunc => .nilf
  | .nilIface => .fn 2147483648 .nl
  | _ => .unk
omit [KGl] in
theorem kofVal_v (v : Value) : (kofVal v).v = V.ofVal v := by
  unfold kofVal V.ofVal
  split
  · rfl
  · rfl
  · rw [v_str, bytesOf_pack]
  · rfl
  · rfl
  · rfl
  · rfl
  · split <;> first
      | rfl
      | (exfalso; simp_all; done)
def kev (τ : Nat → KV) (x : Operand) : KV := @Operand.rec (fun _ => (Nat → KV) → KV) (fun t τ => τ t) (fun v _ => kofVal v) (fun g _ => KGl.g g) (fun f _ => @Bool.rec (fun _ => KV) .unk (.fn f .nl) (Nat.blt f 1073741824)) x τ
/-- What the temporaries stand for. -/
def tv' (τ : Nat → KV) : Nat → V := fun t => (τ t).v
theorem kev_v (τ : Nat → KV) (x : Operand) : (kev τ x).v = opv Gl.G (tv' τ) x := by
  cases x with
  | tmp t => rfl
  | const v => exact kofVal_v v
  | global g => rfl
  | func f =>
    show (@Bool.rec (fun _ => KV) .unk (.fn f .nl) (Nat.blt f 1073741824)).v = @Bool.rec (fun _ => V) .unk (.fn f .nl) (Nat.blt f 1073741824)
    cases Nat.blt f 1073741824 <;> rfl

/-! ### What comes out -/
/-- 'lo': what lies below is not written. -/
def Out (P : Program) (B : Nat) (o : Oper) (τ : Nat → KV) (lo : Nat) (zm : KZ) (nx : Nat) (K : KT) : Prop :=
  ∃ (v : KV) (zm' : KZ) (nx' : Nat) (up rd : List Nat) (e : Eff), K v zm' nx' up rd ∧ e.v = v.v ∧ nx' = nx + e.nw.length ∧ e.up.map (·.1) = up ∧ e.rd = rd ∧ am zm' = put (am zm) nx e ∧
    OpSem P B o (opv Gl.G (tv' τ)) (am zm) nx e ∧ UpIn (am zm) e ∧ ∀ id ∈ up, lo ≤ id
section
variable {P : Program} {B : Nat} {o : Oper} {τ : Nat → KV} {lo : Nat} {zm : KZ} {nx : Nat} {K : KT}
theorem Out.pure {v : KV} {e : Eff} {rd : List Nat} (hK : K v zm nx [] rd) (h : OpSem P B o (opv Gl.G (tv' τ)) (am zm) nx e ∧ UpIn (am zm) e) (he : EImp e ⟨v.v, [], [], rd⟩) : Out P B o τ lo zm nx K :=
  ⟨v, zm, nx, [], rd, ⟨v.v, [], [], rd⟩, hK, rfl, rfl, rfl, rfl, by rw [put_pure], opsem_imp h.1 he, upin_imp h.2 he, by intro id hid; cases hid⟩
theorem Out.new {v : KV} {e : Eff} {rd : List Nat} {k : Kind} {sh : Shape} {x : KV} (hK : nwB k sh x zm nx fun zm nx => K v zm nx [] rd) (h : OpSem P B o (opv Gl.G (tv' τ)) (am zm) nx e ∧ UpIn (am zm) e) (he : EImp e ⟨v.v, [], [⟨k, sh, x.v⟩], rd⟩) : Out P B o τ lo zm nx K := by
  rw [nwB_eq] at hK
  exact ⟨v, _, _, [], rd, ⟨v.v, [], [⟨k, sh, x.v⟩], rd⟩, hK, rfl, rfl, rfl, rfl, by rw [put_new, am_set]; rfl, opsem_imp h.1 he, upin_imp h.2 he, by intro id hid; cases hid⟩
theorem Out.up {v : KV} {e : Eff} {rd : List Nat} {id : Nat} {k : Kind} {sh : Shape} {x : KV} (hK : upB id k sh x zm fun zm => K v zm nx [id] rd) (hlo : lo ≤ id) (h : OpSem P B o (opv Gl.G (tv' τ)) (am zm) nx e ∧ UpIn (am zm) e) (he : EImp e ⟨v.v, [(id, ⟨k, sh, x.v⟩)], [], rd⟩) : Out P B o τ lo zm nx K := by
  rw [upB_eq] at hK
  exact ⟨v, _, _, [id], rd, ⟨v.v, [(id, ⟨k, sh, x.v⟩)], [], rd⟩, hK, rfl, rfl, rfl, rfl, by rw [put_up, am_set]; rfl, opsem_imp h.1 he, upin_imp h.2 he, by intro i hi; simp only [List.mem_singleton] at hi; subst hi; exact hlo⟩
theorem Out.upnew {v : KV} {e : Eff} {rd : List Nat} {id : Nat} {k : Kind} {sh : Shape} {x : KV} {k2 : Kind} {sh2 : Shape} {x2 : KV} (hid : id < nx) (hK : upB id k2 sh2 x2 zm fun zm => nwB k sh x zm nx fun zm nx => K v zm nx [id] rd) (hlo : lo ≤ id) (h : OpSem P B o (opv Gl.G (tv' τ)) (am zm) nx e ∧ UpIn (am zm) e) (he : EImp e ⟨v.v, [(id, ⟨k2, sh2, x2.v⟩)], [⟨k, sh, x.v⟩], rd⟩) : Out P B o τ lo zm nx K := by
  rw [upB_eq, nwB_eq] at hK
  refine ⟨v, _, _, [id], rd, ⟨v.v, [(id, ⟨k2, sh2, x2.v⟩)], [⟨k, sh, x.v⟩], rd⟩, hK, rfl, rfl, rfl, rfl, ?_, opsem_imp h.1 he, upin_imp h.2 he, by intro i hi; simp only [List.mem_singleton] at hi; subst hi; exact hlo⟩
  rw [am_set, am_set]
  funext i
  unfold put touch upd
  simp only [List.length_cons, List.length_nil]
  by_cases h1 : i = nx
  · subst h1; simp; rfl
  · rw [if_neg h1, if_neg (show ¬ (nx ≤ i ∧ i < nx + (0 + 1)) by omega)]
    by_cases h2 : i = id
    · subst h2; simp [List.lookup]; rfl
    · have : (i == id) = false := by simpa using h2
      simp [List.lookup, this, h2]
end

/-! ### Values that fit -/
def isArr (s : Shape) (n : Nat) (f : Shape → Bool) : Bool := @Shape.rec (fun _ => Bool) false false (fun _ _ _ _ => false) (fun m e _ => @Bool.rec (fun _ => Bool) false (f e) (Nat.beq n m)) s
def isScB (s : Shape) : Bool := @Shape.rec (fun _ => Bool) true false (fun _ _ _ _ => false) (fun _ _ _ => false) s
def isNlB (s : Shape) : Bool := @Shape.rec (fun _ => Bool) false true (fun _ _ _ _ => false) (fun _ _ _ => false) s
def isCnB (s : Shape) (f : Shape → Shape → Bool) : Bool := @Shape.rec (fun _ => Bool) false false (fun a b _ _ => f a b) (fun _ _ _ => false) s
def nd (a b : Bool) : Bool := @Bool.rec (fun _ => Bool) false b a
omit [KGl] in
theorem nd_iff {a b : Bool} : nd a b = true ↔ a = true ∧ b = true := by cases a <;> simp [nd]
/-- It fits, and something is known of it ('m': a value; else a tree of places). -/
def kfit (v : KV) : Bool → Shape → Bool := @KV.rec (fun _ => Bool → Shape → Bool) (fun x0 x1 m sh => nd m (isScB sh)) (fun x0 m sh => nd m (isScB sh)) (fun x0 x1 m sh => nd m (isScB sh)) (fun  m sh => nd m (isNlB sh)) (fun x0 x1 r0 r1 m sh => nd m (isCnB sh fun a b => nd (r0 true a) (r1 true b))) (fun x0 x1 x2 m sh => nd m (isArr sh x1 isScB)) (fun x0 x1 x2 r0 r1 m sh => nd m (isArr sh x0 fun e => nd (r0 true e) (r1 false e))) (fun  m sh => @Bool.rec (fun _ => Bool) true false m) (fun x0 x1 x2 x3 r0 r1 r2 r3 m sh => @Bool.rec (fun _ => Bool) (nd (r0 false sh) (nd (r1 false sh) (nd (r2 false sh) (r3 false sh)))) false m) (fun x0 x1 x2 x3 x4 r0 r1 r2 r3 r4 m sh => @Bool.rec (fun _ => Bool) (nd (r0 true sh) (nd (r1 false sh) (nd (r2 false sh) (nd (r3 false sh) (r4 false sh))))) false m) (fun x0 x1 x2 m sh => nd m (isScB sh)) (fun x0 x1 x2 m sh => nd m (isScB sh)) (fun x0 x1 x2 x3 x4 x5 m sh => nd m (isScB sh)) (fun x0 x1 x2 r0 m sh => nd m (isScB sh)) (fun  m sh => nd m (isScB sh)) (fun  m sh => nd m (isScB sh)) (fun  m sh => nd m (isScB sh)) (fun x0 x1 x2 x3 x4 x5 r0 m sh => nd m (isScB sh)) (fun x0 x1 r0 m sh => nd m (isScB sh)) (fun x0 r0 m sh => false) (fun  m sh => false) (fun _ => (fun  m sh => nd m (isScB sh))) v
omit [KGl] in
theorem isScB_s {s : Shape} (h : isScB s = true) : s = .sc := by cases s <;> first | rfl | cases h
omit [KGl] in
theorem isArr_s {s : Shape} {n : Nat} {f : Shape → Bool} (h : isArr s n f = true) : ∃ e, s = .arr n e ∧ f e = true := by
  cases s with
  | arr m e =>
    have h1 : @Bool.rec (fun _ => Bool) false (f e) (Nat.beq n m) = true := h
    cases hb : Nat.beq n m with
    | false => rw [hb] at h1; cases h1
    | true => rw [hb] at h1; rw [Nat.eq_of_beq_eq_true hb]; exact ⟨e, rfl, h1⟩
  | _ => cases h
def Fit (v : KV) (s : Shape) : Prop := v.v.fits s = true ∧ v.v.known = true
omit [KGl] in
theorem kfit_s (v : KV) : ∀ (s : Shape), (kfit v true s = true → Fit v s) ∧ (kfit v false s = true → ∀ (p : Pth) (z : V), z.fits s = true → (v.atv p z).fits s = true) := by
  induction v with
  | cons a b ih1 ih2 =>
    intro s
    refine ⟨fun h => ?_, fun h => (by cases h)⟩
    have h0 : isCnB s (fun x y => nd (kfit a true x) (kfit b true y)) = true := h
    cases s with
    | cons x y =>
      obtain ⟨h1, h2⟩ := nd_iff.1 (show nd (kfit a true x) (kfit b true y) = true from h0)
      have q1 := ((ih1 x).1 h1).1
      have q2 := ((ih2 y).1 h2).1
      refine ⟨?_, rfl⟩
      show (a.v.fits x && b.v.fits y) = true
      rw [q1, q2]; rfl
    | _ => cases h0
  | nl =>
    intro s
    refine ⟨fun h => ?_, fun h => (by cases h)⟩
    have h0 : isNlB s = true := h
    cases s <;> first | exact ⟨rfl, rfl⟩ | cases h0
  | pk k n x =>
    intro s
    refine ⟨fun h => ?_, fun h => (by cases h)⟩
    obtain ⟨e, rfl, he⟩ := isArr_s (show isArr s n isScB = true from h)
    obtain rfl := isScB_s he
    refine ⟨?_, rfl⟩
    show (n == n && (List.range n).all fun i => (V.int k (pkg k x i)).fits .sc) = true
    simp [V.fits]
  | ar n d t ih1 ih2 =>
    intro s
    refine ⟨fun h => ?_, fun h => (by cases h)⟩
    obtain ⟨e, rfl, he⟩ := isArr_s (show isArr s n (fun e => nd (kfit d true e) (kfit t false e)) = true from h)
    obtain ⟨h1, h2⟩ := nd_iff.1 he
    refine ⟨?_, rfl⟩
    show (n == n && (List.range n).all fun i => (t.atv (enc i) d.v).fits e) = true
    simp only [beq_self_eq_true, Bool.true_and, List.all_eq_true]
    intro i _
    exact (ih2 e).2 h2 _ _ ((ih1 e).1 h1).1
  | te => intro s; exact ⟨fun h => (by cases h), fun _ p z hz => hz⟩
  | tb a b c d ih1 ih2 ih3 ih4 =>
    intro s
    refine ⟨fun h => (by cases h), fun h p z hz => ?_⟩
    have h0 : nd (kfit a false s) (nd (kfit b false s) (nd (kfit c false s) (kfit d false s))) = true := h
    simp only [nd_iff] at h0
    cases p with
    | nil => exact hz
    | cons g p =>
      cases g
      · exact (ih1 s).2 h0.1 p z hz
      · exact (ih2 s).2 h0.2.1 p z hz
      · exact (ih3 s).2 h0.2.2.1 p z hz
      · exact (ih4 s).2 h0.2.2.2 p z hz
  | tn x a b c d ih0 ih1 ih2 ih3 ih4 =>
    intro s
    refine ⟨fun h => (by cases h), fun h p z hz => ?_⟩
    have h0 : nd (kfit x true s) (nd (kfit a false s) (nd (kfit b false s) (nd (kfit c false s) (kfit d false s)))) = true := h
    simp only [nd_iff] at h0
    cases p with
    | nil => exact ((ih0 s).1 h0.1).1
    | cons g p =>
      cases g
      · exact (ih1 s).2 h0.2.1 p z hz
      · exact (ih2 s).2 h0.2.2.1 p z hz
      · exact (ih3 s).2 h0.2.2.2.1 p z hz
      · exact (ih4 s).2 h0.2.2.2.2 p z hz
  | tup l => intro s; exact ⟨fun h => (by cases h), fun h => (by cases h)⟩
  | unk => intro s; exact ⟨fun h => (by cases h), fun h => (by cases h)⟩
  | _ =>
    intro s
    refine ⟨fun h => ?_, fun h => (by cases h)⟩
    obtain rfl := isScB_s (show isScB s = true from h)
    exact ⟨rfl, rfl⟩
def kfits (v : KV) (s : Shape) : Bool := kfit v true s
omit [KGl] in
theorem kfits_s {v : KV} {s : Shape} (h : kfits v s = true) : v.v.fits s = true ∧ v.v.known = true := (kfit_s v s).1 h
end
end Go.K
set_option linter.unusedVariables false
set_option linter.unusedSimpArgs false
namespace Go.K
open Go.Ab Go.RowKit Go.Y
noncomputable section
variable [KGl]

/-! ### What types say -/
def kzarr (n : Nat) (z : KV) : KV := match z with
  | .int k a => bif nd Gl.cl (eqI a 0) then .pk k n 0 else .ar n z .te
  | z => .ar n z .te
theorem kzarr_v (n : Nat) (z : KV) : (kzarr n z).v = .arr n fun _ => z.v := by
  unfold kzarr
  split
  · rename_i k a
    cases h : nd Gl.cl (eqI a 0) with
    | false => rfl
    | true =>
      have h := (nd_iff.1 h).2
      rw [eqI_eq] at h
      obtain rfl : a = 0 := by simpa using h
      show V.arr n (fun i => .int k (pkg k 0 i)) = _
      congr 1; funext i; rw [pkg_zero]; rfl
  · rfl
def kztree (P : Program) : Nat → TypeId → KV
  | 0, _ => .unk
  | d + 1, t => match P.underlying t with
    | some (.struct fs) => fs.toList.foldr (fun f acc => .cons (kztree P d f.type) acc) .nl
    | some (.array n e) => kzarr n (kztree P d e)
    | _ => match P.info? t with
      | some i => match i.zero with
        | some z => kofVal z
        | none => .unk
      | none => .unk
theorem kztree_v (P : Program) : ∀ (d : Nat) (t : TypeId), (kztree P d t).v = ztree P d t
  | 0, _ => rfl
  | d + 1, t => by
    have ih := kztree_v P d
    unfold kztree ztree
    cases hu : P.underlying t with
    | none =>
      simp only
      cases P.info? t with
      | none => rfl
      | some i =>
        simp only
        cases i.zero with
        | none => rfl
        | some z => exact kofVal_v z
    | some x =>
      cases x <;> simp only
      case struct fs =>
        generalize fs.toList = l
        induction l with
        | nil => rfl
        | cons f l ihl => simp only [List.foldr_cons, v_cons, ih, ihl]
      case array n e => rw [kzarr_v, ih]
      all_goals
        cases P.info? t with
        | none => rfl
        | some i =>
          simp only
          cases i.zero with
          | none => rfl
          | some z => exact kofVal_v z
def kzero? (P : Program) (t : TypeId) : Option (Shape × KV) := match zero? P t with
  | some (s, _) => some (s, kztree P 12 t)
  | none => none
theorem kzero?_s {P : Program} {t : TypeId} {s : Shape} {z : KV} (h : kzero? P t = some (s, z)) : zero? P t = some (s, z.v) := by
  unfold kzero? at h
  split at h
  · rename_i s' z' hz
    simp only [Option.some.injEq, Prod.mk.injEq] at h
    obtain ⟨rfl, rfl⟩ := h
    rw [hz, kztree_v]
    unfold zero? at hz
    split at hz
    · split at hz
      · split at hz
        · simp only [Option.some.injEq, Prod.mk.injEq] at hz; rw [hz.2]
        · cases hz
      · cases hz
    · cases hz
  · cases h
def pr {α β : Type} (f : α → β → Prop) (x : α × β) : Prop := @Prod.rec α β (fun _ => Prop) f x
omit [KGl] in
theorem pr_inv {α β : Type} {f : α → β → Prop} {x : α × β} (h : pr f x) : f x.1 x.2 := h

section
variable {P : Program} {B : Nat} {o : Oper} {τ : Nat → KV} {lo : Nat} {zm : KZ} {nx : Nat} {K : KT}

/-! ### New variables -/
def kAlloc (P : Program) (t : TypeId) (zm : KZ) (nx : Nat) (K : KT) : Prop := os 30 (pr fun s z => nwB (.box t) s z zm nx fun zm nx' => K (.ptr nx [] s) zm nx' [] []) (kzero? P t)
theorem kAlloc_s {t : TypeId} (ho : o.op = .alloc t) (h : kAlloc P t zm nx K) : Out P B o τ lo zm nx K := by
  obtain ⟨⟨s, z⟩, h1, h2⟩ := os_inv h
  have hz := kzero?_s h1
  exact Out.new (v := .ptr nx [] s) h2 (yAlloc_s (e := ⟨.ptr nx [] s, [], [⟨.box t, s, z.v⟩], []⟩) ho (by unfold yAlloc; rw [hz]; rfl)) (EImp.refl _)
def kBox (P : Program) (t : TypeId) (x : KV) (zm : KZ) (nx : Nat) (K : KT) : Prop := os 31 (fun s => chk (kfits x s) 32 (nwB (.box t) s x zm nx fun zm nx' => K (.ptr nx [] s) zm nx' [] [])) (tshape P t)
theorem kBox_s {t : TypeId} {x : Operand} (ho : o.op = .box t x) (h : kBox P t (kev τ x) zm nx K) : Out P B o τ lo zm nx K := by
  obtain ⟨s, h1, h2⟩ := os_inv h
  obtain ⟨h3, h4⟩ := chk_inv h2
  obtain ⟨h5, h6⟩ := kfits_s h3
  exact Out.new (v := .ptr nx [] s) h4 (yBox_s (e := ⟨.ptr nx [] s, [], [⟨.box t, s, (kev τ x).v⟩], []⟩) ho (by unfold yBox; rw [h1, ← kev_v]; simp only [h5, h6, Bool.and_self, if_true]; rfl)) (EImp.refl _)

/-! ### Load, store -/
def ldS (P : Program) (t : TypeId) : Option Shape := match tshape P t, P.underlying t with
  | some s, some _ => some s
  | _, _ => none
omit [KGl] in
theorem ldS_s {t : TypeId} {s : Shape} (h : ldS P t = some s) : tshape P t = some s ∧ ∃ d, P.underlying t = some d := by
  unfold ldS at h
  split at h
  · rename_i h1 h2; cases h; exact ⟨h1, _, h2⟩
  · cases h
def ldP (s : Shape) (zm : KZ) (nx : Nat) (K : KT) (id : Nat) (p : List Step) (s' : Shape) : Prop := oB zm id fun k _ v => chk (nd (isAl k) (nd (pthOk p v) (s'.beq s))) 33 (fV (kpath p v) fun v => K v zm nx [] [id])
def ldR (s : Shape) (zm : KZ) (nx : Nat) (K : KT) (_ : Bool) (s' : Shape) (c : KV) : Prop := chk (s'.beq s) 34 (fV c fun v => K v zm nx [] [])
def kLoad (P : Program) (t : TypeId) (a : KV) (zm : KZ) (nx : Nat) (K : KT) : Prop := os 35 (fun s => onPtr (ldP s zm nx K) (onRef (ldR s zm nx K) (BadN 36) a) a) (ldS P t)
theorem kLoad_s {t : TypeId} {x : Operand} (ho : o.op = .load t x) (h : kLoad P t (kev τ x) zm nx K) : Out P B o τ lo zm nx K := by
  obtain ⟨s, h1, h2⟩ := os_inv h
  obtain ⟨hs, d, hu⟩ := ldS_s h1
  have hx := kev_v τ x
  rcases onPtr_inv h2 with ⟨id, p, s', hp, h3⟩ | ⟨_, h3⟩
  · obtain ⟨k, sh, v, hb, h4⟩ := oB_inv h3
    obtain ⟨h5, h6⟩ := chk_inv h4
    rw [fV_eq] at h6
    simp only [nd_iff] at h5
    rw [hp] at hx
    exact Out.pure h6 (yLoad_s (e := ⟨(kpath p v).v, [], [], [id]⟩) ho (by
      unfold yLoad; rw [hs, hu, ← hx]
      simp only [v_ptr, am_some hb, KBlk.b, isAl_eq, h5.1, h5.2.2, Bool.and_self, if_true, kpath_v p v h5.2.1]; rfl)) (EImp.refl _)
  · rcases onRef_inv h3 with ⟨u, s', c, hp, h4⟩ | ⟨_, h4⟩
    · obtain ⟨h5, h6⟩ := chk_inv h4
      rw [fV_eq] at h6
      rw [hp] at hx
      exact Out.pure h6 (yLoad_s (e := pureE c.v) ho (by
        unfold yLoad; rw [hs, hu, ← hx]
        simp only [v_ref, h5, if_true]; rfl)) (EImp.refl _)
    · exact h4.elim
def stP (lo : Nat) (x : KV) (s : Shape) (zm : KZ) (nx : Nat) (K : KT) (id : Nat) (p : List Step) (s' : Shape) : Prop :=
  oB zm id fun k sh v => chk (nd (Nat.ble lo id) (nd (isAl k) (nd (s'.beq s) (kfits x s)))) 37 (ksetP x p v fun v => upB id k sh v zm fun zm => K (.tup .nl) zm nx [id] [])
def kStore (lo : Nat) (P : Program) (t : TypeId) (a x : KV) (zm : KZ) (nx : Nat) (K : KT) : Prop := os 38 (fun s => onPtr (stP lo x s zm nx K) (BadN 39) a) (tshape P t)
theorem kStore_s {t : TypeId} {a x : Operand} (ho : o.op = .store t a x) (h : kStore lo P t (kev τ a) (kev τ x) zm nx K) : Out P B o τ lo zm nx K := by
  obtain ⟨s, hs, h2⟩ := os_inv h
  have hx := kev_v τ a
  rcases onPtr_inv h2 with ⟨id, p, s', hp, h3⟩ | ⟨_, h3⟩
  · obtain ⟨k, sh, v, hb, h4⟩ := oB_inv h3
    obtain ⟨h5, h6⟩ := chk_inv h4
    simp only [nd_iff] at h5
    obtain ⟨h7, h8, h9, h10⟩ := h5
    obtain ⟨h11, h12⟩ := kfits_s h10
    obtain ⟨v', h13, h14⟩ := ksetP_s _ _ _ _ h6
    rw [hp] at hx
    exact Out.up (v := .tup .nl) h13 (Nat.le_of_ble_eq_true h7) (yStore_s (e := ⟨.tup .nl, [(id, ⟨k, sh, v'.v⟩)], [], []⟩) ho (by
      unfold yStore; rw [hs, ← hx, ← kev_v]
      simp only [v_ptr, am_some hb, KBlk.b, isAl_eq, h8, h9, h11, h12, Bool.and_self, if_true, setX_eq, h14]; rfl)) (EImp.refl _)
  · exact h3.elim
def kNil (x : KV) (zm : KZ) (nx : Nat) (K : KT) : Prop := onPtr (fun _ _ _ => K x zm nx [] []) (onRef (fun _ _ _ => K x zm nx [] []) (onFn (fun f _ => chk (Nat.blt f 2147483648) 46 (K x zm nx [] [])) (BadN 40) x) x) x
theorem kNil_s {x : Operand} (ho : o.op = .nilCheck x) (h : kNil (kev τ x) zm nx K) : Out P B o τ lo zm nx K := by
  have hx := kev_v τ x
  rcases onPtr_inv h with ⟨_, _, _, hp, h3⟩ | ⟨_, h3⟩
  · exact Out.pure h3 (yNil_s (e := pureE (kev τ x).v) ho (by rw [← hx, hp]; rfl)) (EImp.refl _)
  · rcases onRef_inv h3 with ⟨_, _, _, hp, h3⟩ | ⟨_, h3⟩
    · exact Out.pure h3 (yNil_s (e := pureE (kev τ x).v) ho (by rw [← hx, hp]; rfl)) (EImp.refl _)
    · rcases onFn_inv h3 with ⟨f, c, hp, h3⟩ | ⟨_, h3⟩
      · obtain ⟨hf, h3⟩ := chk_inv h3
        exact Out.pure h3 (yNil_s (e := pureE (kev τ x).v) ho (by rw [← hx, hp, v_fn]; exact ⟨hf, rfl⟩)) (EImp.refl _)
      · exact h3.elim

/-! ### Addresses -/
def snocK (p : List Step) (s : Step) : (List Step → Prop) → Prop := @List.rec Step (fun _ => (List Step → Prop) → Prop) (fun K => K [s]) (fun x _ ih K => ih fun r => K (x :: r)) p
omit [KGl] in
theorem snocK_eq (s : Step) : ∀ (p : List Step) (K : List Step → Prop), snocK p s K = K (p ++ [s])
  | [], K => rfl
  | x :: p, K => snocK_eq s p fun r => K (x :: r)
/-- Of a field: the struct's shape, the field's. -/
def fdS (P : Program) (st : TypeId) (f : Nat) : Option (Shape × Shape) := match P.underlying st with
  | some (.struct fs) => match fs[f]? with
    | some fd => match P.info? fd.type, (shp P 12 st).fld f with
      | some i, some (d, s') => if i.size ≠ 0 ∧ d = fd.offset then some (shp P 12 st, s') else none
      | _, _ => none
    | none => none
  | _ => none
def fdP (f : Nat) (zm : KZ) (nx : Nat) (K : KT) (s s2 : Shape) (id : Nat) (p : List Step) (s' : Shape) : Prop := chk (s'.beq s) 41 (snocK p (.fld f) fun p => K (.ptr id p s2) zm nx [] [])
def fdR (f : Nat) (zm : KZ) (nx : Nat) (K : KT) (s s2 : Shape) (u : Bool) (s' : Shape) (c : KV) : Prop := chk (s'.beq s) 42 (fV (kfld f c) fun c => K (.ref u s2 c) zm nx [] [])
def kField (P : Program) (st : TypeId) (x : KV) (f : Nat) (zm : KZ) (nx : Nat) (K : KT) : Prop :=
  os 43 (pr fun s s2 => onPtr (fdP f zm nx K s s2) (onRef (fdR f zm nx K s s2) (BadN 44) x) x) (fdS P st f)
theorem kField_s {st : TypeId} {x : Operand} {f : Nat} (ho : o.op = .fieldAddr st x f) (h : kField P st (kev τ x) f zm nx K) : Out P B o τ lo zm nx K := by
  obtain ⟨⟨s, s2⟩, h1, h2⟩ := os_inv h
  have hx := kev_v τ x
  have key : ∃ fs fd i d, P.underlying st = some (.struct fs) ∧ fs[f]? = some fd ∧ P.info? fd.type = some i ∧ i.size ≠ 0 ∧ s.fld f = some (d, s2) ∧ d = fd.offset := by
    unfold fdS at h1
    split at h1
    · rename_i fs hu
      split at h1
      · rename_i fd hf
        split at h1
        · rename_i i d s' hi hd
          split at h1
          · rename_i hc
            simp only [Option.some.injEq, Prod.mk.injEq] at h1
            obtain ⟨rfl, rfl⟩ := h1
            exact ⟨fs, fd, i, d, hu, hf, hi, hc.1, hd, hc.2⟩
          · cases h1
        · cases h1
      · cases h1
    · cases h1
  obtain ⟨fs, fd, i, d, q1, q2, q3, q4, q5, q6⟩ := key
  rcases onPtr_inv h2 with ⟨id, p, s', hp, h3⟩ | ⟨_, h3⟩
  · obtain ⟨h4, h5⟩ := chk_inv h3
    rw [snocK_eq] at h5
    obtain rfl := Shape.eq_of_beq h4
    rw [hp] at hx
    exact Out.pure h5 (yField_s (e := pureE (.ptr id (p ++ [.fld f]) s2)) ho (by
      unfold yField; rw [q1, ← hx]
      simp only [q2, q3, q4, if_false, v_ptr, q5, q6, if_true]; rfl)) (EImp.refl _)
  · rcases onRef_inv h3 with ⟨u, s', c, hp, h3⟩ | ⟨_, h3⟩
    · obtain ⟨h4, h5⟩ := chk_inv h3
      rw [fV_eq] at h5
      obtain rfl := Shape.eq_of_beq h4
      rw [hp] at hx
      exact Out.pure h5 (yField_s (e := pureE (.ref u s2 (kfld f c).v)) ho (by
        unfold yField; rw [q1, ← hx]
        simp only [q2, q3, q4, if_false, v_ref, q5, q6, if_true, kfld_v]; rfl)) (EImp.refl _)
    · exact h3.elim
/-- Of an index: an array's length, or a slice; the size of an element. -/
inductive IxS where
  | arr (n z : Nat)
  | sli (z : Nat)
  | bad
def ixS (P : Program) (t : TypeId) : IxS := match P.underlying t with
  | some (.array n el) => match P.info? el with
    | some i => .arr n i.size
    | none => .bad
  | some (.slice el) => match P.info? el with
    | some i => .sli i.size
    | none => .bad
  | _ => .bad
def onIx (f : Nat → Nat → Prop) (g : Nat → Prop) (x : IxS) : Prop := @IxS.rec (fun _ => Prop) f g (BadN 45) x
omit [KGl] in
theorem onIx_inv {f : Nat → Nat → Prop} {g : Nat → Prop} {t : TypeId} (h : onIx f g (ixS P t)) :
    (∃ n el i, P.underlying t = some (.array n el) ∧ P.info? el = some i ∧ f n i.size) ∨ (∃ el i, P.underlying t = some (.slice el) ∧ P.info? el = some i ∧ g i.size) := by
  unfold ixS at h
  split at h
  · rename_i n el hu
    split at h
    · rename_i i hi; exact .inl ⟨n, el, i, hu, hi, h⟩
    · exact (show BadN 45 from h).elim
  · rename_i el hu
    split at h
    · rename_i i hi; exact .inr ⟨el, i, hu, hi, h⟩
    · exact (show BadN 45 from h).elim
  · exact (show BadN 45 from h).elim
def natI (j : Int) : Nat := @Int.rec (fun _ => Nat) (fun n => n) (fun _ => 0) j
omit [KGl] in
theorem natI_eq (j : Int) : natI j = j.toNat := by cases j <;> rfl
def shA (s : Shape) (f : Nat → Shape → Prop) (z : Prop) : Prop := @Shape.rec (fun _ => Prop) z z (fun _ _ _ _ => z) (fun n e _ => f n e) s
omit [KGl] in
theorem shA_inv {s : Shape} {f : Nat → Shape → Prop} {n : Nat} (h : shA s f (BadN n)) : ∃ m e, s = .arr m e ∧ f m e := by
  cases s with
  | arr m e => exact ⟨m, e, rfl, h⟩
  | sc => exact (show BadN n from h).elim
  | nl => exact (show BadN n from h).elim
  | cons a b => exact (show BadN n from h).elim
def ixP (j : Int) (n z : Nat) (zm : KZ) (nx : Nat) (K : KT) (id : Nat) (p : List Step) (s : Shape) : Prop :=
  shA s (fun n' e => chk (nd (Nat.beq n' n) (Nat.beq z e.size)) 46 (cnd (ixB j n) (fN (natI j) fun i => snocK p (.idx i) fun p => K (.ptr id p e) zm nx [] []))) (BadN 47)
def ixR (j : Int) (n z : Nat) (zm : KZ) (nx : Nat) (K : KT) (u : Bool) (s : Shape) (c : KV) : Prop :=
  shA s (fun n' e => chk (nd (Nat.beq n' n) (Nat.beq z e.size)) 48 (cnd (ixB j n) (fV (kidx (natI j) c) fun c => K (.ref u e c) zm nx [] []))) (BadN 49)
def ixW (j : Int) (z : Nat) (zm : KZ) (nx : Nat) (K : KT) (id : Nat) (e : Shape) (len : Nat) : Prop :=
  oB zm id fun k _ _ => chk (nd (isAl k) (Nat.beq z e.size)) 50 (cnd (ixB j len) (fN (natI j) fun i => K (.ptr id [.idx i] e) zm nx [] [id]))
def ixL (j : Int) (z : Nat) (zm : KZ) (nx : Nat) (K : KT) (id : Nat) (p : List Step) (e : Shape) (off len : Nat) (_ : Option Nat) : Prop :=
  chk (Nat.beq z e.size) 51 (cnd (ixB j len) (fN (Nat.add off (natI j)) fun i => snocK p (.idx i) fun p => K (.ptr id p e) zm nx [] []))
def ixO (j : Int) (z : Nat) (zm : KZ) (nx : Nat) (K : KT) (u _ : Bool) (e : Shape) (off len : Nat) (c : KV) : Prop :=
  chk (Nat.beq z e.size) 52 (cnd (ixB j len) (fV (kidx (Nat.add off (natI j)) c) fun c => K (.ref u e c) zm nx [] []))
def kIndex (P : Program) (t : TypeId) (x ix : KV) (zm : KZ) (nx : Nat) (K : KT) : Prop :=
  onInt (fun _ j => onIx (fun n z => onPtr (ixP j n z zm nx K) (onRef (ixR j n z zm nx K) (BadN 53) x) x) (fun z => onSl (ixL j z zm nx K) (onRow (ixW j z zm nx K) (onRo (ixO j z zm nx K) (BadN 54) x) x) x) (ixS P t)) (BadN 55) ix
omit [KGl] in
theorem beqE {a b : Nat} (h : Nat.beq a b = true) : a = b := Nat.eq_of_beq_eq_true h
omit [KGl] in
theorem tstE {c : Bool} {e : Eff} (h : c = true) : (RS.tst c e).is e := ⟨h, rfl⟩
theorem kIndex_s {t : TypeId} {x ix : Operand} (ho : o.op = .indexAddr t x ix) (h : kIndex P t (kev τ x) (kev τ ix) zm nx K) : Out P B o τ lo zm nx K := by
  have hx := kev_v τ x
  have hi := kev_v τ ix
  rcases onInt_inv h with ⟨k, j, hj, h1⟩ | ⟨_, h1⟩
  · rw [hj] at hi
    rcases onIx_inv h1 with ⟨n, el, i, hu, hif, h2⟩ | ⟨el, i, hu, hif, h2⟩
    · rcases onPtr_inv h2 with ⟨id, p, s, hp, h3⟩ | ⟨_, h3⟩
      · obtain ⟨n', e, rfl, h4⟩ := shA_inv h3
        obtain ⟨h5, h6⟩ := chk_inv h4
        obtain ⟨h7, h8⟩ := cnd_iff.1 h6
        rw [fN_eq, snocK_eq] at h8
        rw [nd_iff] at h5
        rw [hp] at hx
        exact Out.pure h8 (yIndex_s (e := pureE (.ptr id (p ++ [.idx j.toNat]) e)) ho (by
          unfold yIndex; rw [← hx, ← hi]
          simp only [v_int, hu, hif, v_ptr, beqE h5.1, beqE h5.2, and_self, if_true]
          exact tstE h7)) (by rw [natI_eq]; exact EImp.refl _)
      · rcases onRef_inv h3 with ⟨u, s, c, hp, h3⟩ | ⟨_, h3⟩
        · obtain ⟨n', e, rfl, h4⟩ := shA_inv h3
          obtain ⟨h5, h6⟩ := chk_inv h4
          obtain ⟨h7, h8⟩ := cnd_iff.1 h6
          rw [fV_eq] at h8
          rw [nd_iff] at h5
          rw [hp] at hx
          exact Out.pure h8 (yIndex_s (e := pureE (.ref u e (c.v.step (.idx j.toNat)))) ho (by
            unfold yIndex; rw [← hx, ← hi]
            simp only [v_int, hu, hif, v_ref, beqE h5.1, beqE h5.2, and_self, if_true]
            exact tstE h7)) (by rw [natI_eq, v_ref, kidx_v]; exact EImp.refl _)
        · exact h3.elim
    · rcases onSl_inv h2 with ⟨id, p, e, off, len, cap, hp, h3⟩ | ⟨_, h3⟩
      · obtain ⟨h5, h6⟩ := chk_inv h3
        obtain ⟨h7, h8⟩ := cnd_iff.1 h6
        rw [fN_eq, snocK_eq] at h8
        rw [hp] at hx
        exact Out.pure h8 (yIndex_s (e := pureE (.ptr id (p ++ [.idx (off + j.toNat)]) e)) ho (by
          unfold yIndex; rw [← hx, ← hi]
          simp only [v_int, hu, hif, v_sl, beqE h5, if_true]
          exact tstE h7)) (by rw [natI_eq]; exact EImp.refl _)
      · rcases onRow_inv h3 with ⟨id, e, len, hp, h3⟩ | ⟨_, h3⟩
        · obtain ⟨k', sh, v, hb, h4⟩ := oB_inv h3
          obtain ⟨h5, h6⟩ := chk_inv h4
          obtain ⟨h7, h8⟩ := cnd_iff.1 h6
          rw [fN_eq] at h8
          rw [nd_iff] at h5
          rw [hp] at hx
          exact Out.pure h8 (yIndex_s (e := ⟨.ptr id [.idx j.toNat] e, [], [], [id]⟩) ho (by
            unfold yIndex; rw [← hx, ← hi]
            simp only [v_int, hu, hif, v_row, am_some hb, KBlk.b, isAl_eq, h5.1, beqE h5.2, and_self, if_true]
            exact tstE h7)) (by rw [natI_eq]; exact EImp.refl _)
        · rcases onRo_inv h3 with ⟨u, clip, e, off, len, c, hp, h3⟩ | ⟨_, h3⟩
          · obtain ⟨h5, h6⟩ := chk_inv h3
            obtain ⟨h7, h8⟩ := cnd_iff.1 h6
            rw [fV_eq] at h8
            rw [hp] at hx
            exact Out.pure h8 (yIndex_s (e := pureE (.ref u e (c.v.step (.idx (off + j.toNat))))) ho (by
              unfold yIndex; rw [← hx, ← hi]
              simp only [v_int, hu, hif, v_ro, beqE h5, if_true]
              exact tstE h7)) (by rw [natI_eq, v_ref, kidx_v]; exact EImp.refl _)
          · exact h3.elim
  · exact h1.elim
end
end
end Go.K
