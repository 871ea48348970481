/- Single operations: memory, operands, what comes out. No condition. Single operations: memory, addresses, numbers. No condition. Single operations: numbers, comparisons. No condition. -/
import Derived.Test.YtfpmealbbibhpaaGreatDoorK2a
set_option linter.unusedVariables false
set_option linter.unusedSimpArgs false
namespace Go.K
open Go.Ab Go.RowKit Go.Y
noncomputable section
class KGl where
  g : Nat → KV
  cl : Bool := false
instance instGl [KGl] : Gl := { G := fun i => (KGl.g i).v, cl := KGl.cl }
variable [KGl]
def chk (c : Bool) (n : Nat) (p : Prop) : Prop := @Bool.rec (fun _ => Prop) (BadN n) p c
omit [KGl] in
theorem chk_inv {c : Bool} {n : Nat} {p : Prop} (h : chk c n p) : c = true ∧ p := by
  cases c with
  | false => exact (show BadN n from h).elim
  | true => exact ⟨rfl, h⟩
def os {α : Type} (n : Nat) (f : α → Prop) (o : Option α) : Prop := @Option.rec α (fun _ => Prop) (BadN n) f o
omit [KGl] in
theorem os_inv {α : Type} {n : Nat} {f : α → Prop} {o : Option α} (h : os n f o) : ∃ x, o = some x ∧ f x := by
  cases o with
  | none => exact (show BadN n from h).elim
  | some x => exact ⟨x, rfl, h⟩
structure KBlk where
  k : Kind
  sh : Shape
  v : KV
def KBlk.b (x : KBlk) : Blk := ⟨x.k, x.sh, x.v.v⟩
abbrev KZ := Tr (Option KBlk)
def kb (zm : KZ) (id : Nat) : Option KBlk := get none (enc id) zm
def am (zm : KZ) : Mem := fun id => (kb zm id).map KBlk.b
omit [KGl] in
theorem kb_set {zm : KZ} {x : Option KBlk} {i id : Nat} : kb (set x (enc i) zm) id = if id = i then x else kb zm id := get_set_n _ _ _ _ _
omit [KGl] in
theorem am_set {zm : KZ} {b : KBlk} {id : Nat} : am (set (some b) (enc id) zm) = upd (am zm) id (some b.b) := by
  funext i
  unfold am upd
  rw [kb_set]
  split <;> rfl
omit [KGl] in
theorem am_e : am .e = fun _ => none := by funext i; unfold am kb; rw [get_e]; rfl
omit [KGl] in
theorem am_some {zm : KZ} {id : Nat} {x : KBlk} (h : kb zm id = some x) : am zm id = some x.b := by unfold am; rw [h]; rfl
abbrev KT := KV → KZ → Nat → List Nat → List Nat → Prop
def oB (zm : KZ) (id : Nat) (f : Kind → Shape → KV → Prop) : Prop := os 1 (fun x => @KBlk.rec (fun _ => Prop) (fun k sh v => f k sh v) x) (kb zm id)
omit [KGl] in
theorem oB_inv {zm : KZ} {id : Nat} {f : Kind → Shape → KV → Prop} (h : oB zm id f) : ∃ k sh v, kb zm id = some ⟨k, sh, v⟩ ∧ f k sh v := by
  obtain ⟨⟨k, sh, v⟩, h1, h2⟩ := os_inv h
  exact ⟨k, sh, v, h1, h2⟩
def isAl (k : Kind) : Bool := @Kind.rec (fun _ => Bool) (fun _ => true) (fun _ => true) false (fun _ _ _ _ => false) false k
omit [KGl] in
theorem isAl_eq (k : Kind) (sh : Shape) (v : V) : (Blk.mk k sh v).alive = isAl k := by cases k <;> rfl
def nwB (k : Kind) (sh : Shape) (v : KV) (zm : KZ) (nx : Nat) (K : KZ → Nat → Prop) : Prop := fV v fun v => setTK (some ⟨k, sh, v⟩) (enc nx) zm fun zm => forceN (Nat.succ nx) fun nx => K zm nx
theorem nwB_eq (k : Kind) (sh : Shape) (v : KV) (zm : KZ) (nx : Nat) (K : KZ → Nat → Prop) : nwB k sh v zm nx K = K (set (some ⟨k, sh, v⟩) (enc nx) zm) (nx + 1) := by
  unfold nwB; rw [fV_eq, setTK_eq, forceN_eq]
def upB (id : Nat) (k : Kind) (sh : Shape) (v : KV) (zm : KZ) (K : KZ → Prop) : Prop := fV v fun v => setTK (some ⟨k, sh, v⟩) (enc id) zm K
theorem upB_eq (id : Nat) (k : Kind) (sh : Shape) (v : KV) (zm : KZ) (K : KZ → Prop) : upB id k sh v zm K = K (set (some ⟨k, sh, v⟩) (enc id) zm) := by
  unfold upB; rw [fV_eq, setTK_eq]
def packL : List UInt8 → Nat
  | [] => 0
  | b :: l => b.toNat + 256 * packL l
omit [KGl] in
theorem packL_get : ∀ (l : List UInt8) (i : Nat), pkr .u8 (packL l) i = (l.getD i 0).toNat
  | [], i => by
    show bts 0 (8 * i) 8 = 0
    apply Nat.eq_of_testBit_eq; intro b
    rw [bts_bit]; simp
  | b :: l, 0 => by
    show (b.toNat + 256 * packL l) >>> (8 * 0) % 2 ^ 8 = b.toNat
    have := b.toNat_lt
    rw [Nat.mul_zero, Nat.shiftRight_zero]; omega
  | b :: l, i + 1 => by
    have h := packL_get l i
    rw [show (b :: l).getD (i + 1) 0 = l.getD i 0 from rfl, ← h]
    show (b.toNat + 256 * packL l) >>> (8 * (i + 1)) % 2 ^ 8 = packL l >>> (8 * i) % 2 ^ 8
    have hb := b.toNat_lt
    rw [show 8 * (i + 1) = 8 + 8 * i by omega, Nat.shiftRight_add]
    congr 2
    rw [Nat.shiftRight_eq_div_pow]; omega
omit [KGl] in
theorem bytesOf_pack (s : ByteArray) : bytesOf s.size (packL s.data.toList) = s := by
  obtain ⟨⟨l⟩⟩ := s
  show ByteArray.mk ⟨_⟩ = _
  congr 2
  apply List.ext_getElem?
  intro i
  show ((List.range l.length).map fun i => UInt8.ofNat (pkr .u8 (packL l) i))[i]? = l[i]?
  rw [List.getElem?_map]
  by_cases hi : i < l.length
  · rw [List.getElem?_range hi, Option.map_some, packL_get, List.getElem?_eq_getElem hi]
    congr 1
    rw [List.getD_eq_getElem?_getD, List.getElem?_eq_getElem hi, Option.getD_some]
    exact UInt8.ofNat_toNat
  · rw [List.getElem?_eq_none (by simpa using hi), List.getElem?_eq_none (by simpa using hi)]; rfl
def kofVal (v : Value) : KV := match v with
  | .int k n => .int k n
  | .bool b => .bool b
  | .string s => .str s.size (packL s.data.toList)
  | .pointer none => .nilp
  | .slice none 0 0 => .nils
  | .nilFunc => .nilf
  | .nilIface => .fn 2147483648 .nl
  | _ => .unk
omit [KGl] in
theorem kofVal_v (v : Value) : (kofVal v).v = V.ofVal v := by
  unfold kofVal V.ofVal
  split
  · rfl
  · rfl
  · rw [v_str, bytesOf_pack]
  · rfl
  · rfl
  · rfl
  · rfl
  · split <;> first
      | rfl
      | (exfalso; simp_all; done)
def kev (τ : Nat → KV) (x : Operand) : KV := @Operand.rec (fun _ => (Nat → KV) → KV) (fun t τ => τ t) (fun v _ => kofVal v) (fun g _ => KGl.g g) (fun f _ => @Bool.rec (fun _ => KV) .unk (.fn f .nl) (Nat.blt f 1073741824)) x τ
def tv' (τ : Nat → KV) : Nat → V := fun t => (τ t).v
theorem kev_v (τ : Nat → KV) (x : Operand) : (kev τ x).v = opv Gl.G (tv' τ) x := by
  cases x with
  | tmp t => rfl
  | const v => exact kofVal_v v
  | global g => rfl
  | func f =>
    show (@Bool.rec (fun _ => KV) .unk (.fn f .nl) (Nat.blt f 1073741824)).v = @Bool.rec (fun _ => V) .unk (.fn f .nl) (Nat.blt f 1073741824)
    cases Nat.blt f 1073741824 <;> rfl
def Out (P : Program) (B : Nat) (o : Oper) (τ : Nat → KV) (lo : Nat) (zm : KZ) (nx : Nat) (K : KT) : Prop :=
  ∃ (v : KV) (zm' : KZ) (nx' : Nat) (up rd : List Nat) (e : Eff), K v zm' nx' up rd ∧ e.v = v.v ∧ nx' = nx + e.nw.length ∧ e.up.map (·.1) = up ∧ e.rd = rd ∧ am zm' = put (am zm) nx e ∧
    OpSem P B o (opv Gl.G (tv' τ)) (am zm) nx e ∧ UpIn (am zm) e ∧ ∀ id ∈ up, lo ≤ id
section
variable {P : Program} {B : Nat} {o : Oper} {τ : Nat → KV} {lo : Nat} {zm : KZ} {nx : Nat} {K : KT}
theorem Out.pure {v : KV} {e : Eff} {rd : List Nat} (hK : K v zm nx [] rd) (h : OpSem P B o (opv Gl.G (tv' τ)) (am zm) nx e ∧ UpIn (am zm) e) (he : EImp e ⟨v.v, [], [], rd⟩) : Out P B o τ lo zm nx K :=
  ⟨v, zm, nx, [], rd, ⟨v.v, [], [], rd⟩, hK, rfl, rfl, rfl, rfl, by rw [put_pure], opsem_imp h.1 he, upin_imp h.2 he, by intro id hid; cases hid⟩
theorem Out.new {v : KV} {e : Eff} {rd : List Nat} {k : Kind} {sh : Shape} {x : KV} (hK : nwB k sh x zm nx fun zm nx => K v zm nx [] rd) (h : OpSem P B o (opv Gl.G (tv' τ)) (am zm) nx e ∧ UpIn (am zm) e) (he : EImp e ⟨v.v, [], [⟨k, sh, x.v⟩], rd⟩) : Out P B o τ lo zm nx K := by
  rw [nwB_eq] at hK
  exact ⟨v, _, _, [], rd, ⟨v.v, [], [⟨k, sh, x.v⟩], rd⟩, hK, rfl, rfl, rfl, rfl, by rw [put_new, am_set]; rfl, opsem_imp h.1 he, upin_imp h.2 he, by intro id hid; cases hid⟩
theorem Out.up {v : KV} {e : Eff} {rd : List Nat} {id : Nat} {k : Kind} {sh : Shape} {x : KV} (hK : upB id k sh x zm fun zm => K v zm nx [id] rd) (hlo : lo ≤ id) (h : OpSem P B o (opv Gl.G (tv' τ)) (am zm) nx e ∧ UpIn (am zm) e) (he : EImp e ⟨v.v, [(id, ⟨k, sh, x.v⟩)], [], rd⟩) : Out P B o τ lo zm nx K := by
  rw [upB_eq] at hK
  exact ⟨v, _, _, [id], rd, ⟨v.v, [(id, ⟨k, sh, x.v⟩)], [], rd⟩, hK, rfl, rfl, rfl, rfl, by rw [put_up, am_set]; rfl, opsem_imp h.1 he, upin_imp h.2 he, by intro i hi; simp only [List.mem_singleton] at hi; subst hi; exact hlo⟩
theorem Out.upnew {v : KV} {e : Eff} {rd : List Nat} {id : Nat} {k : Kind} {sh : Shape} {x : KV} {k2 : Kind} {sh2 : Shape} {x2 : KV} (hid : id < nx) (hK : upB id k2 sh2 x2 zm fun zm => nwB k sh x zm nx fun zm nx => K v zm nx [id] rd) (hlo : lo ≤ id) (h : OpSem P B o (opv Gl.G (tv' τ)) (am zm) nx e ∧ UpIn (am zm) e) (he : EImp e ⟨v.v, [(id, ⟨k2, sh2, x2.v⟩)], [⟨k, sh, x.v⟩], rd⟩) : Out P B o τ lo zm nx K := by
  rw [upB_eq, nwB_eq] at hK
  refine ⟨v, _, _, [id], rd, ⟨v.v, [(id, ⟨k2, sh2, x2.v⟩)], [⟨k, sh, x.v⟩], rd⟩, hK, rfl, rfl, rfl, rfl, ?_, opsem_imp h.1 he, upin_imp h.2 he, by intro i hi; simp only [List.mem_singleton] at hi; subst hi; exact hlo⟩
  rw [am_set, am_set]
  funext i
  unfold put touch upd
  simp only [List.length_cons, List.length_nil]
  by_cases h1 : i = nx
  · subst h1; simp; rfl
  · rw [if_neg h1, if_neg (show ¬ (nx ≤ i ∧ i < nx + (0 + 1)) by omega)]
    by_cases h2 : i = id
    · subst h2; simp [List.lookup]; rfl
    · have : (i == id) = false := by simpa using h2
      simp [List.lookup, this, h2]
end
def isArr (s : Shape) (n : Nat) (f : Shape → Bool) : Bool := @Shape.rec (fun _ => Bool) false false (fun _ _ _ _ => false) (fun m e _ => @Bool.rec (fun _ => Bool) false (f e) (Nat.beq n m)) s
def isScB (s : Shape) : Bool := @Shape.rec (fun _ => Bool) true false (fun _ _ _ _ => false) (fun _ _ _ => false) s
def isNlB (s : Shape) : Bool := @Shape.rec (fun _ => Bool) false true (fun _ _ _ _ => false) (fun _ _ _ => false) s
def isCnB (s : Shape) (f : Shape → Shape → Bool) : Bool := @Shape.rec (fun _ => Bool) false false (fun a b _ _ => f a b) (fun _ _ _ => false) s
def nd (a b : Bool) : Bool := @Bool.rec (fun _ => Bool) false b a
omit [KGl] in
theorem nd_iff {a b : Bool} : nd a b = true ↔ a = true ∧ b = true := by cases a <;> simp [nd]
def kfit (v : KV) : Bool → Shape → Bool := @KV.rec (fun _ => Bool → Shape → Bool) (fun x0 x1 m sh => nd m (isScB sh)) (fun x0 m sh => nd m (isScB sh)) (fun x0 x1 m sh => nd m (isScB sh)) (fun  m sh => nd m (isNlB sh)) (fun x0 x1 r0 r1 m sh => nd m (isCnB sh fun a b => nd (r0 true a) (r1 true b))) (fun x0 x1 x2 m sh => nd m (isArr sh x1 isScB)) (fun x0 x1 x2 r0 r1 m sh => nd m (isArr sh x0 fun e => nd (r0 true e) (r1 false e))) (fun  m sh => @Bool.rec (fun _ => Bool) true false m) (fun x0 x1 x2 x3 r0 r1 r2 r3 m sh => @Bool.rec (fun _ => Bool) (nd (r0 false sh) (nd (r1 false sh) (nd (r2 false sh) (r3 false sh)))) false m) (fun x0 x1 x2 x3 x4 r0 r1 r2 r3 r4 m sh => @Bool.rec (fun _ => Bool) (nd (r0 true sh) (nd (r1 false sh) (nd (r2 false sh) (nd (r3 false sh) (r4 false sh))))) false m) (fun x0 x1 x2 m sh => nd m (isScB sh)) (fun x0 x1 x2 m sh => nd m (isScB sh)) (fun x0 x1 x2 x3 x4 x5 m sh => nd m (isScB sh)) (fun x0 x1 x2 r0 m sh => nd m (isScB sh)) (fun  m sh => nd m (isScB sh)) (fun  m sh => nd m (isScB sh)) (fun  m sh => nd m (isScB sh)) (fun x0 x1 x2 x3 x4 x5 r0 m sh => nd m (isScB sh)) (fun x0 x1 r0 m sh => nd m (isScB sh)) (fun x0 r0 m sh => false) (fun  m sh => false) (fun _ => (fun  m sh => nd m (isScB sh))) v
omit [KGl] in
theorem isScB_s {s : Shape} (h : isScB s = true) : s = .sc := by cases s <;> first | rfl | cases h
omit [KGl] in
theorem isArr_s {s : Shape} {n : Nat} {f : Shape → Bool} (h : isArr s n f = true) : ∃ e, s = .arr n e ∧ f e = true := by
  cases s with
  | arr m e =>
    have h1 : @Bool.rec (fun _ => Bool) false (f e) (Nat.beq n m) = true := h
    cases hb : Nat.beq n m with
    | false => rw [hb] at h1; cases h1
    | true => rw [hb] at h1; rw [Nat.eq_of_beq_eq_true hb]; exact ⟨e, rfl, h1⟩
  | _ => cases h
def Fit (v : KV) (s : Shape) : Prop := v.v.fits s = true ∧ v.v.known = true
omit [KGl] in
theorem kfit_s (v : KV) : ∀ (s : Shape), (kfit v true s = true → Fit v s) ∧ (kfit v false s = true → ∀ (p : Pth) (z : V), z.fits s = true → (v.atv p z).fits s = true) := by
  induction v with
  | cons a b ih1 ih2 =>
    intro s
    refine ⟨fun h => ?_, fun h => (by cases h)⟩
    have h0 : isCnB s (fun x y => nd (kfit a true x) (kfit b true y)) = true := h
    cases s with
    | cons x y =>
      obtain ⟨h1, h2⟩ := nd_iff.1 (show nd (kfit a true x) (kfit b true y) = true from h0)
      have q1 := ((ih1 x).1 h1).1
      have q2 := ((ih2 y).1 h2).1
      refine ⟨?_, rfl⟩
      show (a.v.fits x && b.v.fits y) = true
      rw [q1, q2]; rfl
    | _ => cases h0
  | nl =>
    intro s
    refine ⟨fun h => ?_, fun h => (by cases h)⟩
    have h0 : isNlB s = true := h
    cases s <;> first | exact ⟨rfl, rfl⟩ | cases h0
  | pk k n x =>
    intro s
    refine ⟨fun h => ?_, fun h => (by cases h)⟩
    obtain ⟨e, rfl, he⟩ := isArr_s (show isArr s n isScB = true from h)
    obtain rfl := isScB_s he
    refine ⟨?_, rfl⟩
    show (n == n && (List.range n).all fun i => (V.int k (pkg k x i)).fits .sc) = true
    simp [V.fits]
  | ar n d t ih1 ih2 =>
    intro s
    refine ⟨fun h => ?_, fun h => (by cases h)⟩
    obtain ⟨e, rfl, he⟩ := isArr_s (show isArr s n (fun e => nd (kfit d true e) (kfit t false e)) = true from h)
    obtain ⟨h1, h2⟩ := nd_iff.1 he
    refine ⟨?_, rfl⟩
    show (n == n && (List.range n).all fun i => (t.atv (enc i) d.v).fits e) = true
    simp only [beq_self_eq_true, Bool.true_and, List.all_eq_true]
    intro i _
    exact (ih2 e).2 h2 _ _ ((ih1 e).1 h1).1
  | te => intro s; exact ⟨fun h => (by cases h), fun _ p z hz => hz⟩
  | tb a b c d ih1 ih2 ih3 ih4 =>
    intro s
    refine ⟨fun h => (by cases h), fun h p z hz => ?_⟩
    have h0 : nd (kfit a false s) (nd (kfit b false s) (nd (kfit c false s) (kfit d false s))) = true := h
    simp only [nd_iff] at h0
    cases p with
    | nil => exact hz
    | cons g p =>
      cases g
      · exact (ih1 s).2 h0.1 p z hz
      · exact (ih2 s).2 h0.2.1 p z hz
      · exact (ih3 s).2 h0.2.2.1 p z hz
      · exact (ih4 s).2 h0.2.2.2 p z hz
  | tn x a b c d ih0 ih1 ih2 ih3 ih4 =>
    intro s
    refine ⟨fun h => (by cases h), fun h p z hz => ?_⟩
    have h0 : nd (kfit x true s) (nd (kfit a false s) (nd (kfit b false s) (nd (kfit c false s) (kfit d false s)))) = true := h
    simp only [nd_iff] at h0
    cases p with
    | nil => exact ((ih0 s).1 h0.1).1
    | cons g p =>
      cases g
      · exact (ih1 s).2 h0.2.1 p z hz
      · exact (ih2 s).2 h0.2.2.1 p z hz
      · exact (ih3 s).2 h0.2.2.2.1 p z hz
      · exact (ih4 s).2 h0.2.2.2.2 p z hz
  | tup l => intro s; exact ⟨fun h => (by cases h), fun h => (by cases h)⟩
  | unk => intro s; exact ⟨fun h => (by cases h), fun h => (by cases h)⟩
  | _ =>
    intro s
    refine ⟨fun h => ?_, fun h => (by cases h)⟩
    obtain rfl := isScB_s (show isScB s = true from h)
    exact ⟨rfl, rfl⟩
def kfits (v : KV) (s : Shape) : Bool := kfit v true s
omit [KGl] in
theorem kfits_s {v : KV} {s : Shape} (h : kfits v s = true) : v.v.fits s = true ∧ v.v.known = true := (kfit_s v s).1 h
end
end Go.K
namespace Go.K
open Go.Ab Go.RowKit Go.Y
noncomputable section
variable [KGl]
def kzarr (n : Nat) (z : KV) : KV := match z with
  | .int k a => bif nd Gl.cl (eqI a 0) then .pk k n 0 else .ar n z .te
  | z => .ar n z .te
theorem kzarr_v (n : Nat) (z : KV) : (kzarr n z).v = .arr n fun _ => z.v := by
  unfold kzarr
  split
  · rename_i k a
    cases h : nd Gl.cl (eqI a 0) with
    | false => rfl
    | true =>
      have h := (nd_iff.1 h).2
      rw [eqI_eq] at h
      obtain rfl : a = 0 := by simpa using h
      show V.arr n (fun i => .int k (pkg k 0 i)) = _
      congr 1; funext i; rw [pkg_zero]; rfl
  · rfl
def kztree (P : Program) : Nat → TypeId → KV
  | 0, _ => .unk
  | d + 1, t => match P.underlying t with
    | some (.struct fs) => fs.toList.foldr (fun f acc => .cons (kztree P d f.type) acc) .nl
    | some (.array n e) => kzarr n (kztree P d e)
    | _ => match P.info? t with
      | some i => match i.zero with
        | some z => kofVal z
        | none => .unk
      | none => .unk
theorem kztree_v (P : Program) : ∀ (d : Nat) (t : TypeId), (kztree P d t).v = ztree P d t
  | 0, _ => rfl
  | d + 1, t => by
    have ih := kztree_v P d
    unfold kztree ztree
    cases hu : P.underlying t with
    | none =>
      simp only
      cases P.info? t with
      | none => rfl
      | some i =>
        simp only
        cases i.zero with
        | none => rfl
        | some z => exact kofVal_v z
    | some x =>
      cases x <;> simp only
      case struct fs =>
        generalize fs.toList = l
        induction l with
        | nil => rfl
        | cons f l ihl => simp only [List.foldr_cons, v_cons, ih, ihl]
      case array n e => rw [kzarr_v, ih]
      all_goals
        cases P.info? t with
        | none => rfl
        | some i =>
          simp only
          cases i.zero with
          | none => rfl
          | some z => exact kofVal_v z
def kzero? (P : Program) (t : TypeId) : Option (Shape × KV) := match zero? P t with
  | some (s, _) => some (s, kztree P 12 t)
  | none => none
theorem kzero?_s {P : Program} {t : TypeId} {s : Shape} {z : KV} (h : kzero? P t = some (s, z)) : zero? P t = some (s, z.v) := by
  unfold kzero? at h
  split at h
  · rename_i s' z' hz
    simp only [Option.some.injEq, Prod.mk.injEq] at h
    obtain ⟨rfl, rfl⟩ := h
    rw [hz, kztree_v]
    unfold zero? at hz
    split at hz
    · split at hz
      · split at hz
        · simp only [Option.some.injEq, Prod.mk.injEq] at hz; rw [hz.2]
        · cases hz
      · cases hz
    · cases hz
  · cases h
def pr {α β : Type} (f : α → β → Prop) (x : α × β) : Prop := @Prod.rec α β (fun _ => Prop) f x
omit [KGl] in
theorem pr_inv {α β : Type} {f : α → β → Prop} {x : α × β} (h : pr f x) : f x.1 x.2 := h
section
variable {P : Program} {B : Nat} {o : Oper} {τ : Nat → KV} {lo : Nat} {zm : KZ} {nx : Nat} {K : KT}
def kAlloc (P : Program) (t : TypeId) (zm : KZ) (nx : Nat) (K : KT) : Prop := os 30 (pr fun s z => nwB (.box t) s z zm nx fun zm nx' => K (.ptr nx [] s) zm nx' [] []) (kzero? P t)
theorem kAlloc_s {t : TypeId} (ho : o.op = .alloc t) (h : kAlloc P t zm nx K) : Out P B o τ lo zm nx K := by
  obtain ⟨⟨s, z⟩, h1, h2⟩ := os_inv h
  have hz := kzero?_s h1
  exact Out.new (v := .ptr nx [] s) h2 (yAlloc_s (e := ⟨.ptr nx [] s, [], [⟨.box t, s, z.v⟩], []⟩) ho (by unfold yAlloc; rw [hz]; rfl)) (EImp.refl _)
def kBox (P : Program) (t : TypeId) (x : KV) (zm : KZ) (nx : Nat) (K : KT) : Prop := os 31 (fun s => chk (kfits x s) 32 (nwB (.box t) s x zm nx fun zm nx' => K (.ptr nx [] s) zm nx' [] [])) (tshape P t)
theorem kBox_s {t : TypeId} {x : Operand} (ho : o.op = .box t x) (h : kBox P t (kev τ x) zm nx K) : Out P B o τ lo zm nx K := by
  obtain ⟨s, h1, h2⟩ := os_inv h
  obtain ⟨h3, h4⟩ := chk_inv h2
  obtain ⟨h5, h6⟩ := kfits_s h3
  exact Out.new (v := .ptr nx [] s) h4 (yBox_s (e := ⟨.ptr nx [] s, [], [⟨.box t, s, (kev τ x).v⟩], []⟩) ho (by unfold yBox; rw [h1, ← kev_v]; simp only [h5, h6, Bool.and_self, if_true]; rfl)) (EImp.refl _)
def ldS (P : Program) (t : TypeId) : Option Shape := match tshape P t, P.underlying t with
  | some s, some _ => some s
  | _, _ => none
omit [KGl] in
theorem ldS_s {t : TypeId} {s : Shape} (h : ldS P t = some s) : tshape P t = some s ∧ ∃ d, P.underlying t = some d := by
  unfold ldS at h
  split at h
  · rename_i h1 h2; cases h; exact ⟨h1, _, h2⟩
  · cases h
def ldP (s : Shape) (zm : KZ) (nx : Nat) (K : KT) (id : Nat) (p : List Step) (s' : Shape) : Prop := oB zm id fun k _ v => chk (nd (isAl k) (nd (pthOk p v) (s'.beq s))) 33 (fV (kpath p v) fun v => K v zm nx [] [id])
def ldR (s : Shape) (zm : KZ) (nx : Nat) (K : KT) (_ : Bool) (s' : Shape) (c : KV) : Prop := chk (s'.beq s) 34 (fV c fun v => K v zm nx [] [])
def kLoad (P : Program) (t : TypeId) (a : KV) (zm : KZ) (nx : Nat) (K : KT) : Prop := os 35 (fun s => onPtr (ldP s zm nx K) (onRef (ldR s zm nx K) (BadN 36) a) a) (ldS P t)
theorem kLoad_s {t : TypeId} {x : Operand} (ho : o.op = .load t x) (h : kLoad P t (kev τ x) zm nx K) : Out P B o τ lo zm nx K := by
  obtain ⟨s, h1, h2⟩ := os_inv h
  obtain ⟨hs, d, hu⟩ := ldS_s h1
  have hx := kev_v τ x
  rcases onPtr_inv h2 with ⟨id, p, s', hp, h3⟩ | ⟨_, h3⟩
  · obtain ⟨k, sh, v, hb, h4⟩ := oB_inv h3
    obtain ⟨h5, h6⟩ := chk_inv h4
    rw [fV_eq] at h6
    simp only [nd_iff] at h5
    rw [hp] at hx
    exact Out.pure h6 (yLoad_s (e := ⟨(kpath p v).v, [], [], [id]⟩) ho (by
      unfold yLoad; rw [hs, hu, ← hx]
      simp only [v_ptr, am_some hb, KBlk.b, isAl_eq, h5.1, h5.2.2, Bool.and_self, if_true, kpath_v p v h5.2.1]; rfl)) (EImp.refl _)
  · rcases onRef_inv h3 with ⟨u, s', c, hp, h4⟩ | ⟨_, h4⟩
    · obtain ⟨h5, h6⟩ := chk_inv h4
      rw [fV_eq] at h6
      rw [hp] at hx
      exact Out.pure h6 (yLoad_s (e := pureE c.v) ho (by
        unfold yLoad; rw [hs, hu, ← hx]
        simp only [v_ref, h5, if_true]; rfl)) (EImp.refl _)
    · exact h4.elim
def stP (lo : Nat) (x : KV) (s : Shape) (zm : KZ) (nx : Nat) (K : KT) (id : Nat) (p : List Step) (s' : Shape) : Prop :=
  oB zm id fun k sh v => chk (nd (Nat.ble lo id) (nd (isAl k) (nd (s'.beq s) (kfits x s)))) 37 (ksetP x p v fun v => upB id k sh v zm fun zm => K (.tup .nl) zm nx [id] [])
def kStore (lo : Nat) (P : Program) (t : TypeId) (a x : KV) (zm : KZ) (nx : Nat) (K : KT) : Prop := os 38 (fun s => onPtr (stP lo x s zm nx K) (BadN 39) a) (tshape P t)
theorem kStore_s {t : TypeId} {a x : Operand} (ho : o.op = .store t a x) (h : kStore lo P t (kev τ a) (kev τ x) zm nx K) : Out P B o τ lo zm nx K := by
  obtain ⟨s, hs, h2⟩ := os_inv h
  have hx := kev_v τ a
  rcases onPtr_inv h2 with ⟨id, p, s', hp, h3⟩ | ⟨_, h3⟩
  · obtain ⟨k, sh, v, hb, h4⟩ := oB_inv h3
    obtain ⟨h5, h6⟩ := chk_inv h4
    simp only [nd_iff] at h5
    obtain ⟨h7, h8, h9, h10⟩ := h5
    obtain ⟨h11, h12⟩ := kfits_s h10
    obtain ⟨v', h13, h14⟩ := ksetP_s _ _ _ _ h6
    rw [hp] at hx
    exact Out.up (v := .tup .nl) h13 (Nat.le_of_ble_eq_true h7) (yStore_s (e := ⟨.tup .nl, [(id, ⟨k, sh, v'.v⟩)], [], []⟩) ho (by
      unfold yStore; rw [hs, ← hx, ← kev_v]
      simp only [v_ptr, am_some hb, KBlk.b, isAl_eq, h8, h9, h11, h12, Bool.and_self, if_true, setX_eq, h14]; rfl)) (EImp.refl _)
  · exact h3.elim
def kNil (x : KV) (zm : KZ) (nx : Nat) (K : KT) : Prop := onPtr (fun _ _ _ => K x zm nx [] []) (onRef (fun _ _ _ => K x zm nx [] []) (onFn (fun f _ => chk (Nat.blt f 2147483648) 46 (K x zm nx [] [])) (BadN 40) x) x) x
theorem kNil_s {x : Operand} (ho : o.op = .nilCheck x) (h : kNil (kev τ x) zm nx K) : Out P B o τ lo zm nx K := by
  have hx := kev_v τ x
  rcases onPtr_inv h with ⟨_, _, _, hp, h3⟩ | ⟨_, h3⟩
  · exact Out.pure h3 (yNil_s (e := pureE (kev τ x).v) ho (by rw [← hx, hp]; rfl)) (EImp.refl _)
  · rcases onRef_inv h3 with ⟨_, _, _, hp, h3⟩ | ⟨_, h3⟩
    · exact Out.pure h3 (yNil_s (e := pureE (kev τ x).v) ho (by rw [← hx, hp]; rfl)) (EImp.refl _)
    · rcases onFn_inv h3 with ⟨f, c, hp, h3⟩ | ⟨_, h3⟩
      · obtain ⟨hf, h3⟩ := chk_inv h3
        exact Out.pure h3 (yNil_s (e := pureE (kev τ x).v) ho (by rw [← hx, hp, v_fn]; exact ⟨hf, rfl⟩)) (EImp.refl _)
      · exact h3.elim
def snocK (p : List Step) (s : Step) : (List Step → Prop) → Prop := @List.rec Step (fun _ => (List Step → Prop) → Prop) (fun K => K [s]) (fun x _ ih K => ih fun r => K (x :: r)) p
omit [KGl] in
theorem snocK_eq (s : Step) : ∀ (p : List Step) (K : List Step → Prop), snocK p s K = K (p ++ [s])
  | [], K => rfl
  | x :: p, K => snocK_eq s p fun r => K (x :: r)
def fdS (P : Program) (st : TypeId) (f : Nat) : Option (Shape × Shape) := match P.underlying st with
  | some (.struct fs) => match fs[f]? with
    | some fd => match P.info? fd.type, (shp P 12 st).fld f with
      | some i, some (d, s') => if i.size ≠ 0 ∧ d = fd.offset then some (shp P 12 st, s') else none
      | _, _ => none
    | none => none
  | _ => none
def fdP (f : Nat) (zm : KZ) (nx : Nat) (K : KT) (s s2 : Shape) (id : Nat) (p : List Step) (s' : Shape) : Prop := chk (s'.beq s) 41 (snocK p (.fld f) fun p => K (.ptr id p s2) zm nx [] [])
def fdR (f : Nat) (zm : KZ) (nx : Nat) (K : KT) (s s2 : Shape) (u : Bool) (s' : Shape) (c : KV) : Prop := chk (s'.beq s) 42 (fV (kfld f c) fun c => K (.ref u s2 c) zm nx [] [])
def kField (P : Program) (st : TypeId) (x : KV) (f : Nat) (zm : KZ) (nx : Nat) (K : KT) : Prop :=
  os 43 (pr fun s s2 => onPtr (fdP f zm nx K s s2) (onRef (fdR f zm nx K s s2) (BadN 44) x) x) (fdS P st f)
theorem kField_s {st : TypeId} {x : Operand} {f : Nat} (ho : o.op = .fieldAddr st x f) (h : kField P st (kev τ x) f zm nx K) : Out P B o τ lo zm nx K := by
  obtain ⟨⟨s, s2⟩, h1, h2⟩ := os_inv h
  have hx := kev_v τ x
  have key : ∃ fs fd i d, P.underlying st = some (.struct fs) ∧ fs[f]? = some fd ∧ P.info? fd.type = some i ∧ i.size ≠ 0 ∧ s.fld f = some (d, s2) ∧ d = fd.offset := by
    unfold fdS at h1
    split at h1
    · rename_i fs hu
      split at h1
      · rename_i fd hf
        split at h1
        · rename_i i d s' hi hd
          split at h1
          · rename_i hc
            simp only [Option.some.injEq, Prod.mk.injEq] at h1
            obtain ⟨rfl, rfl⟩ := h1
            exact ⟨fs, fd, i, d, hu, hf, hi, hc.1, hd, hc.2⟩
          · cases h1
        · cases h1
      · cases h1
    · cases h1
  obtain ⟨fs, fd, i, d, q1, q2, q3, q4, q5, q6⟩ := key
  rcases onPtr_inv h2 with ⟨id, p, s', hp, h3⟩ | ⟨_, h3⟩
  · obtain ⟨h4, h5⟩ := chk_inv h3
    rw [snocK_eq] at h5
    obtain rfl := Shape.eq_of_beq h4
    rw [hp] at hx
    exact Out.pure h5 (yField_s (e := pureE (.ptr id (p ++ [.fld f]) s2)) ho (by
      unfold yField; rw [q1, ← hx]
      simp only [q2, q3, q4, if_false, v_ptr, q5, q6, if_true]; rfl)) (EImp.refl _)
  · rcases onRef_inv h3 with ⟨u, s', c, hp, h3⟩ | ⟨_, h3⟩
    · obtain ⟨h4, h5⟩ := chk_inv h3
      rw [fV_eq] at h5
      obtain rfl := Shape.eq_of_beq h4
      rw [hp] at hx
      exact Out.pure h5 (yField_s (e := pureE (.ref u s2 (kfld f c).v)) ho (by
        unfold yField; rw [q1, ← hx]
        simp only [q2, q3, q4, if_false, v_ref, q5, q6, if_true, kfld_v]; rfl)) (EImp.refl _)
    · exact h3.elim
inductive IxS where
  | arr (n z : Nat)
  | sli (z : Nat)
  | bad
def ixS (P : Program) (t : TypeId) : IxS := match P.underlying t with
  | some (.array n el) => match P.info? el with
    | some i => .arr n i.size
    | none => .bad
  | some (.slice el) => match P.info? el with
    | some i => .sli i.size
    | none => .bad
  | _ => .bad
def onIx (f : Nat → Nat → Prop) (g : Nat → Prop) (x : IxS) : Prop := @IxS.rec (fun _ => Prop) f g (BadN 45) x
omit [KGl] in
theorem onIx_inv {f : Nat → Nat → Prop} {g : Nat → Prop} {t : TypeId} (h : onIx f g (ixS P t)) :
    (∃ n el i, P.underlying t = some (.array n el) ∧ P.info? el = some i ∧ f n i.size) ∨ (∃ el i, P.underlying t = some (.slice el) ∧ P.info? el = some i ∧ g i.size) := by
  unfold ixS at h
  split at h
  · rename_i n el hu
    split at h
    · rename_i i hi; exact .inl ⟨n, el, i, hu, hi, h⟩
    · exact (show BadN 45 from h).elim
  · rename_i el hu
    split at h
    · rename_i i hi; exact .inr ⟨el, i, hu, hi, h⟩
    · exact (show BadN 45 from h).elim
  · exact (show BadN 45 from h).elim
def natI (j : Int) : Nat := @Int.rec (fun _ => Nat) (fun n => n) (fun _ => 0) j
omit [KGl] in
theorem natI_eq (j : Int) : natI j = j.toNat := by cases j <;> rfl
def shA (s : Shape) (f : Nat → Shape → Prop) (z : Prop) : Prop := @Shape.rec (fun _ => Prop) z z (fun _ _ _ _ => z) (fun n e _ => f n e) s
omit [KGl] in
theorem shA_inv {s : Shape} {f : Nat → Shape → Prop} {n : Nat} (h : shA s f (BadN n)) : ∃ m e, s = .arr m e ∧ f m e := by
  cases s with
  | arr m e => exact ⟨m, e, rfl, h⟩
  | sc => exact (show BadN n from h).elim
  | nl => exact (show BadN n from h).elim
  | cons a b => exact (show BadN n from h).elim
def ixP (j : Int) (n z : Nat) (zm : KZ) (nx : Nat) (K : KT) (id : Nat) (p : List Step) (s : Shape) : Prop :=
  shA s (fun n' e => chk (nd (Nat.beq n' n) (Nat.beq z e.size)) 46 (cnd (ixB j n) (fN (natI j) fun i => snocK p (.idx i) fun p => K (.ptr id p e) zm nx [] []))) (BadN 47)
def ixR (j : Int) (n z : Nat) (zm : KZ) (nx : Nat) (K : KT) (u : Bool) (s : Shape) (c : KV) : Prop :=
  shA s (fun n' e => chk (nd (Nat.beq n' n) (Nat.beq z e.size)) 48 (cnd (ixB j n) (fV (kidx (natI j) c) fun c => K (.ref u e c) zm nx [] []))) (BadN 49)
def ixW (j : Int) (z : Nat) (zm : KZ) (nx : Nat) (K : KT) (id : Nat) (e : Shape) (len : Nat) : Prop :=
  oB zm id fun k _ _ => chk (nd (isAl k) (Nat.beq z e.size)) 50 (cnd (ixB j len) (fN (natI j) fun i => K (.ptr id [.idx i] e) zm nx [] [id]))
def ixL (j : Int) (z : Nat) (zm : KZ) (nx : Nat) (K : KT) (id : Nat) (p : List Step) (e : Shape) (off len : Nat) (_ : Option Nat) : Prop :=
  chk (Nat.beq z e.size) 51 (cnd (ixB j len) (fN (Nat.add off (natI j)) fun i => snocK p (.idx i) fun p => K (.ptr id p e) zm nx [] []))
def ixO (j : Int) (z : Nat) (zm : KZ) (nx : Nat) (K : KT) (u _ : Bool) (e : Shape) (off len : Nat) (c : KV) : Prop :=
  chk (Nat.beq z e.size) 52 (cnd (ixB j len) (fV (kidx (Nat.add off (natI j)) c) fun c => K (.ref u e c) zm nx [] []))
def kIndex (P : Program) (t : TypeId) (x ix : KV) (zm : KZ) (nx : Nat) (K : KT) : Prop :=
  onInt (fun _ j => onIx (fun n z => onPtr (ixP j n z zm nx K) (onRef (ixR j n z zm nx K) (BadN 53) x) x) (fun z => onSl (ixL j z zm nx K) (onRow (ixW j z zm nx K) (onRo (ixO j z zm nx K) (BadN 54) x) x) x) (ixS P t)) (BadN 55) ix
omit [KGl] in
theorem beqE {a b : Nat} (h : Nat.beq a b = true) : a = b := Nat.eq_of_beq_eq_true h
omit [KGl] in
theorem tstE {c : Bool} {e : Eff} (h : c = true) : (RS.tst c e).is e := ⟨h, rfl⟩
theorem kIndex_s {t : TypeId} {x ix : Operand} (ho : o.op = .indexAddr t x ix) (h : kIndex P t (kev τ x) (kev τ ix) zm nx K) : Out P B o τ lo zm nx K := by
  have hx := kev_v τ x
  have hi := kev_v τ ix
  rcases onInt_inv h with ⟨k, j, hj, h1⟩ | ⟨_, h1⟩
  · rw [hj] at hi
    rcases onIx_inv h1 with ⟨n, el, i, hu, hif, h2⟩ | ⟨el, i, hu, hif, h2⟩
    · rcases onPtr_inv h2 with ⟨id, p, s, hp, h3⟩ | ⟨_, h3⟩
      · obtain ⟨n', e, rfl, h4⟩ := shA_inv h3
        obtain ⟨h5, h6⟩ := chk_inv h4
        obtain ⟨h7, h8⟩ := cnd_iff.1 h6
        rw [fN_eq, snocK_eq] at h8
        rw [nd_iff] at h5
        rw [hp] at hx
        exact Out.pure h8 (yIndex_s (e := pureE (.ptr id (p ++ [.idx j.toNat]) e)) ho (by
          unfold yIndex; rw [← hx, ← hi]
          simp only [v_int, hu, hif, v_ptr, beqE h5.1, beqE h5.2, and_self, if_true]
          exact tstE h7)) (by rw [natI_eq]; exact EImp.refl _)
      · rcases onRef_inv h3 with ⟨u, s, c, hp, h3⟩ | ⟨_, h3⟩
        · obtain ⟨n', e, rfl, h4⟩ := shA_inv h3
          obtain ⟨h5, h6⟩ := chk_inv h4
          obtain ⟨h7, h8⟩ := cnd_iff.1 h6
          rw [fV_eq] at h8
          rw [nd_iff] at h5
          rw [hp] at hx
          exact Out.pure h8 (yIndex_s (e := pureE (.ref u e (c.v.step (.idx j.toNat)))) ho (by
            unfold yIndex; rw [← hx, ← hi]
            simp only [v_int, hu, hif, v_ref, beqE h5.1, beqE h5.2, and_self, if_true]
            exact tstE h7)) (by rw [natI_eq, v_ref, kidx_v]; exact EImp.refl _)
        · exact h3.elim
    · rcases onSl_inv h2 with ⟨id, p, e, off, len, cap, hp, h3⟩ | ⟨_, h3⟩
      · obtain ⟨h5, h6⟩ := chk_inv h3
        obtain ⟨h7, h8⟩ := cnd_iff.1 h6
        rw [fN_eq, snocK_eq] at h8
        rw [hp] at hx
        exact Out.pure h8 (yIndex_s (e := pureE (.ptr id (p ++ [.idx (off + j.toNat)]) e)) ho (by
          unfold yIndex; rw [← hx, ← hi]
          simp only [v_int, hu, hif, v_sl, beqE h5, if_true]
          exact tstE h7)) (by rw [natI_eq]; exact EImp.refl _)
      · rcases onRow_inv h3 with ⟨id, e, len, hp, h3⟩ | ⟨_, h3⟩
        · obtain ⟨k', sh, v, hb, h4⟩ := oB_inv h3
          obtain ⟨h5, h6⟩ := chk_inv h4
          obtain ⟨h7, h8⟩ := cnd_iff.1 h6
          rw [fN_eq] at h8
          rw [nd_iff] at h5
          rw [hp] at hx
          exact Out.pure h8 (yIndex_s (e := ⟨.ptr id [.idx j.toNat] e, [], [], [id]⟩) ho (by
            unfold yIndex; rw [← hx, ← hi]
            simp only [v_int, hu, hif, v_row, am_some hb, KBlk.b, isAl_eq, h5.1, beqE h5.2, and_self, if_true]
            exact tstE h7)) (by rw [natI_eq]; exact EImp.refl _)
        · rcases onRo_inv h3 with ⟨u, clip, e, off, len, c, hp, h3⟩ | ⟨_, h3⟩
          · obtain ⟨h5, h6⟩ := chk_inv h3
            obtain ⟨h7, h8⟩ := cnd_iff.1 h6
            rw [fV_eq] at h8
            rw [hp] at hx
            exact Out.pure h8 (yIndex_s (e := pureE (.ref u e (c.v.step (.idx (off + j.toNat))))) ho (by
              unfold yIndex; rw [← hx, ← hi]
              simp only [v_int, hu, hif, v_ro, beqE h5, if_true]
              exact tstE h7)) (by rw [natI_eq, v_ref, kidx_v]; exact EImp.refl _)
          · exact h3.elim
  · exact h1.elim
end
end
end Go.K
namespace Go.K
open Go.Ab Go.RowKit Go.Y
noncomputable section
variable [KGl]
section
variable {P : Program} {B : Nat} {o : Oper} {τ : Nat → KV} {lo : Nat} {zm : KZ} {nx : Nat} {K : KT}
abbrev NF := IntKind → Int → IntKind → Int → (KV → Prop) → Prop
def bI (f : IntKind → Int → Int → Int) : NF := fun k a k' b K => chk (ikEq k k') 60 (fI (f k a b) fun r => K (.int k r))
def oNat (k : IntKind) (r : Nat) (K : Int → Prop) : Prop := @Bool.rec (fun _ => Prop) (K (.ofNat (Nat.mod r (mdl k)))) (cnd (Nat.blt r (hlf k)) (K (.ofNat r))) (sgn k)
omit [KGl] in
theorem oNat_s {k : IntKind} {r : Nat} {K : Int → Prop} (h : oNat k r K) : K (fitN k r) := by
  unfold oNat at h
  unfold fitN
  cases hs : sgn k with
  | false => rw [hs] at h; exact h
  | true =>
    rw [hs] at h
    obtain ⟨h1, h2⟩ := cnd_iff.1 (show cnd (Nat.blt r (hlf k)) (K (.ofNat r)) from h)
    show K (bif Nat.blt r (hlf k) then .ofNat r else k.wrap (.ofNat r))
    rw [h1]; exact h2
abbrev PF := IntKind → Int → Int → (Int → Prop) → Prop
def on2 (g : Nat → Nat → Prop) (z : Prop) (a b : Int) : Prop := @Int.rec (fun _ => Prop) (fun x => @Int.rec (fun _ => Prop) (fun y => g x y) (fun _ => z) b) (fun _ => z) a
omit [KGl] in
theorem on2_s {g : Nat → Nat → Prop} {z p : Prop} {a b : Int} (h : on2 g z a b) (h1 : ∀ x y, a = .ofNat x → b = .ofNat y → g x y → p) (h2 : z → p) : p := by
  cases a with
  | negSucc x => exact h2 h
  | ofNat x =>
    cases b with
    | negSucc y => exact h2 h
    | ofNat y => exact h1 x y rfl rfl h
def addP : PF := fun k a b K => on2 (fun x y => oNat k (Nat.add x y) K) (K (addI k a b)) a b
def mulP : PF := fun k a b K => on2 (fun x y => oNat k (Nat.mul x y) K) (K (mulI k a b)) a b
def divP : PF := fun k a b K => on2 (fun x y => oNat k (Nat.div x y) K) (K (divI k a b)) a b
def subP : PF := fun k a b K => on2 (fun x y => @Bool.rec (fun _ => Prop) (K (subI k a b)) (@Bool.rec (fun _ => Prop) (K (subI k a b)) (oNat k (Nat.sub x y) K) (sgn k)) (Nat.ble y x)) (K (subI k a b)) a b
omit [KGl] in
theorem addP_s {k : IntKind} {a b : Int} {K : Int → Prop} (h : addP k a b K) : K (addI k a b) := on2_s h (fun x y e1 e2 h => by subst e1; subst e2; exact oNat_s h) id
omit [KGl] in
theorem mulP_s {k : IntKind} {a b : Int} {K : Int → Prop} (h : mulP k a b K) : K (mulI k a b) := on2_s h (fun x y e1 e2 h => by subst e1; subst e2; exact oNat_s h) id
omit [KGl] in
theorem divP_s {k : IntKind} {a b : Int} {K : Int → Prop} (h : divP k a b K) : K (divI k a b) := on2_s h (fun x y e1 e2 h => by subst e1; subst e2; exact oNat_s h) id
omit [KGl] in
theorem subP_s {k : IntKind} {a b : Int} {K : Int → Prop} (h : subP k a b K) : K (subI k a b) := on2_s h (fun x y e1 e2 h => by
  subst e1; subst e2
  cases hb : Nat.ble y x with
  | false => rw [hb] at h; exact h
  | true =>
    rw [hb] at h
    cases hs : sgn k with
    | false => rw [hs] at h; exact h
    | true =>
      rw [hs] at h
      have := oNat_s (show oNat k (Nat.sub x y) K from h)
      show K (@Bool.rec (fun _ => Int) (fitN k (x + (mdl k - y % mdl k))) (bif Nat.ble y x then fitN k (x - y) else k.wrap (Int.ofNat x - Int.ofNat y)) (sgn k))
      rw [hs, hb]; exact this) id
def wrpP (k : IntKind) (a : Int) (K : Int → Prop) : Prop := @Int.rec (fun _ => Prop) (fun x => oNat k x K) (fun _ => K (wrpI k a)) a
omit [KGl] in
theorem wrpP_s {k : IntKind} {a : Int} {K : Int → Prop} (h : wrpP k a K) : K (wrpI k a) := by
  cases a with
  | ofNat x => exact oNat_s h
  | negSucc x => exact h
def bP (f : IntKind → Int → Int → Int) (p : PF) : NF := fun k a k' b K => chk (ikEq k k') 60 (@Bool.rec (fun _ => Prop) (p k a b fun r => K (.int k r)) (fI (f k a b) fun r => K (.int k r)) Gl.cl)
theorem bP_s {f : IntKind → Int → Int → Int} {p : PF} (hp : ∀ {k a b K}, p k a b K → K (f k a b)) {k k' : IntKind} {a b : Int} {K : KV → Prop} (h : bP f p k a k' b K) : bI f k a k' b K := by
  unfold bP at h
  unfold bI
  obtain ⟨h1, h2⟩ := chk_inv h
  rw [h1]
  show fI (f k a b) fun r => K (.int k r)
  rw [fI_eq]
  cases hc : (Gl.cl : Bool) with
  | false => rw [hc] at h2; exact hp (K := fun r => K (.int k r)) h2
  | true => rw [hc] at h2; have h2 : fI (f k a b) fun r => K (.int k r) := h2; rwa [fI_eq] at h2
def bD (f : IntKind → Int → Int → Int) : NF := fun k a k' b K => chk (ikEq k k') 61 (cnd (neB b) (fI (f k a b) fun r => K (.int k r)))
def bDP (f : IntKind → Int → Int → Int) (p : PF) : NF := fun k a k' b K => chk (ikEq k k') 61 (cnd (neB b) (@Bool.rec (fun _ => Prop) (p k a b fun r => K (.int k r)) (fI (f k a b) fun r => K (.int k r)) Gl.cl))
theorem bDP_s {f : IntKind → Int → Int → Int} {p : PF} (hp : ∀ {k a b K}, p k a b K → K (f k a b)) {k k' : IntKind} {a b : Int} {K : KV → Prop} (h : bDP f p k a k' b K) : bD f k a k' b K := by
  unfold bDP at h
  unfold bD
  obtain ⟨h1, h2⟩ := chk_inv h
  obtain ⟨h3, h4⟩ := cnd_iff.1 h2
  rw [h1]
  refine cnd_iff.2 ⟨h3, ?_⟩
  rw [fI_eq]
  cases hc : (Gl.cl : Bool) with
  | false => rw [hc] at h4; exact hp (K := fun r => K (.int k r)) h4
  | true => rw [hc] at h4; have h4 : fI (f k a b) fun r => K (.int k r) := h4; rwa [fI_eq] at h4
def bS (f : IntKind → Int → Nat → Int) : NF := fun k a _ b K => cnd (geB b) (fI (f k a (min b.toNat k.bits)) fun r => K (.int k r))
def bB (f : Int → Int → Bool) : NF := fun k a k' b K => chk (ikEq k k') 62 (fB (f a b) fun r => K (.bool r))
def remI (k : IntKind) (a b : Int) : Int := match a, b with
  | .ofNat x, .ofNat y => .ofNat (x % y)
  | a, b => a.tmod b
omit [KGl] in
theorem remI_eq (k : IntKind) (a b : Int) : remI k a b = a.tmod b := by
  unfold remI
  split
  · rfl
  · rfl
def anI (k : IntKind) (a b : Int) : Int := k.wrap (BitVec.ofInt k.bits a &&& ~~~ BitVec.ofInt k.bits b).toNat
def shrI (k : IntKind) (a : Int) (n : Nat) : Int := fdv a (2 ^ n)
def kNum (op : BinOp) : NF := @BinOp.rec (fun _ => NF) (bP addI addP) (bP subI subP) (bP mulI mulP) (bDP divI divP) (bD remI) (bI andI) (bI orI) (bI xorI) (bS shlI) (bS shrI) (bI anI)
  (bB eqI) (bB fun a b => !eqI a b) (bB ltI) (bB leI) (bB fun a b => ltI b a) (bB fun a b => leI b a) op
def kNumB (op : BinOp) (k : IntKind) (a : Int) (zm : KZ) (nx : Nat) (K : KT) (k' : IntKind) (b : Int) : Prop := kNum op k a k' b fun r => K r zm nx [] []
omit [KGl] in
theorem yBinA_int (op : BinOp) (t : TypeId) (k k' : IntKind) (a b : Int) : yBinA P op t (.int k a) (.int k' b) = yBin P op t (.int k a) (.int k' b) := rfl
omit [KGl] in
theorem yBinA_bool (op : BinOp) (t : TypeId) (a b : Bool) : yBinA P op t (.bool a) (.bool b) = yBin P op t (.bool a) (.bool b) := rfl
theorem kNum_s {op : BinOp} {t t' : TypeId} {x y : Operand} {k k' : IntKind} {a b : Int} (ho : o.op = .binOp op t x y t') (hx : kev τ x = .int k a) (hy : kev τ y = .int k' b) (h : kNum op k a k' b fun r => K r zm nx [] []) : Out P B o τ lo zm nx K := by
  have qx : opv Gl.G (tv' τ) x = .int k a := by rw [← kev_v, hx]; rfl
  have qy : opv Gl.G (tv' τ) y = .int k' b := by rw [← kev_v, hy]; rfl
  have fin : ∀ {r : KV}, K r zm nx [] [] → (yBinA P op t (.int k a) (.int k' b)).is (pureE r.v) → Out P B o τ lo zm nx K := fun hk hr =>
    Out.pure hk (yBinA_s (e := pureE _) ho (by rw [qx, qy]; exact hr)) (EImp.refl _)
  have hI : ∀ {f : IntKind → Int → Int → Int}, bI f k a k' b (fun r => K r zm nx [] []) → k' = k ∧ K (.int k (f k a b)) zm nx [] [] := fun h => by
    obtain ⟨h1, h2⟩ := chk_inv h
    rw [fI_eq] at h2
    exact ⟨(ikEq_eq h1).symm, h2⟩
  have hB : ∀ {f : Int → Int → Bool}, bB f k a k' b (fun r => K r zm nx [] []) → k' = k ∧ K (.bool (f a b)) zm nx [] [] := fun h => by
    obtain ⟨h1, h2⟩ := chk_inv h
    rw [fB_eq] at h2
    exact ⟨(ikEq_eq h1).symm, h2⟩
  have hD : ∀ {f : IntKind → Int → Int → Int}, bD f k a k' b (fun r => K r zm nx [] []) → k' = k ∧ neB b = true ∧ K (.int k (f k a b)) zm nx [] [] := fun h => by
    obtain ⟨h1, h2⟩ := chk_inv h
    obtain ⟨h3, h4⟩ := cnd_iff.1 h2
    rw [fI_eq] at h4
    exact ⟨(ikEq_eq h1).symm, h3, h4⟩
  have hS : ∀ {f : IntKind → Int → Nat → Int}, bS f k a k' b (fun r => K r zm nx [] []) → geB b = true ∧ K (.int k (f k a (min b.toNat k.bits))) zm nx [] [] := fun h => by
    obtain ⟨h3, h4⟩ := cnd_iff.1 h
    rw [fI_eq] at h4
    exact ⟨h3, h4⟩
  have ikr : ∀ k, ikEq k k = true := fun k => by cases k <;> rfl
  cases op
  case shl => obtain ⟨h1, h2⟩ := hS h; exact fin h2 ⟨h1, rfl⟩
  case shr => obtain ⟨h1, h2⟩ := hS h; exact fin h2 ⟨h1, rfl⟩
  case add => obtain ⟨rfl, h2⟩ := hI (bP_s addP_s h); exact fin h2 (by rw [yBinA_int]; simp only [yBin, ikr, if_true]; rfl)
  case sub => obtain ⟨rfl, h2⟩ := hI (bP_s subP_s h); exact fin h2 (by rw [yBinA_int]; simp only [yBin, ikr, if_true]; rfl)
  case mul => obtain ⟨rfl, h2⟩ := hI (bP_s mulP_s h); exact fin h2 (by rw [yBinA_int]; simp only [yBin, ikr, if_true]; rfl)
  case quo => obtain ⟨rfl, h1, h2⟩ := hD (bDP_s divP_s h); exact fin h2 (by rw [yBinA_int]; simp only [yBin, ikr, if_true]; exact ⟨h1, rfl⟩)
  case rem => obtain ⟨rfl, h1, h2⟩ := hD h; exact fin h2 (by rw [yBinA_int]; simp only [yBin, ikr, if_true]; exact ⟨h1, by rw [v_int, remI_eq]; rfl⟩)
  case eql => obtain ⟨rfl, h2⟩ := hB h; exact fin h2 (by rw [yBinA_int]; simp only [yBin, ikr, if_true]; rfl)
  case neq => obtain ⟨rfl, h2⟩ := hB (f := fun a b => !eqI a b) h; exact fin h2 (by rw [yBinA_int]; simp only [yBin, ikr, if_true]; rfl)
  case lss => obtain ⟨rfl, h2⟩ := hB h; exact fin h2 (by rw [yBinA_int]; simp only [yBin, ikr, if_true]; rfl)
  case leq => obtain ⟨rfl, h2⟩ := hB h; exact fin h2 (by rw [yBinA_int]; simp only [yBin, ikr, if_true]; rfl)
  case gtr => obtain ⟨rfl, h2⟩ := hB (f := fun a b => ltI b a) h; exact fin h2 (by rw [yBinA_int]; simp only [yBin, ikr, if_true]; rfl)
  case geq => obtain ⟨rfl, h2⟩ := hB (f := fun a b => leI b a) h; exact fin h2 (by rw [yBinA_int]; simp only [yBin, ikr, if_true]; rfl)
  all_goals
    obtain ⟨rfl, h2⟩ := hI h
    exact fin h2 (by rw [yBinA_int]; simp only [yBin, ikr, if_true]; rfl)
def isBoolT (P : Program) (t : TypeId) : Bool := match P.underlying t with | some .bool => true | _ => false
def eqn (op : BinOp) (b : Bool) (K : Bool → Prop) : Prop := @BinOp.rec (fun _ => Bool → (Bool → Prop) → Prop) (fun _ _ => BadN 63) (fun _ _ => BadN 63) (fun _ _ => BadN 63) (fun _ _ => BadN 63) (fun _ _ => BadN 63) (fun _ _ => BadN 63) (fun _ _ => BadN 63) (fun _ _ => BadN 63) (fun _ _ => BadN 63) (fun _ _ => BadN 63) (fun _ _ => BadN 63)
  (fun b K => fB b K) (fun b K => fB (!b) K) (fun _ _ => BadN 63) (fun _ _ => BadN 63) (fun _ _ => BadN 63) (fun _ _ => BadN 63) op b K
theorem eqn_inv {op : BinOp} {b : Bool} {K : Bool → Prop} (h : eqn op b K) : (op = .eql ∧ K b) ∨ (op = .neq ∧ K (!b)) := by
  cases op
  case eql => exact .inl ⟨rfl, by have h : fB b K := h; rwa [fB_eq] at h⟩
  case neq => exact .inr ⟨rfl, by have h : fB (!b) K := h; rwa [fB_eq] at h⟩
  all_goals exact (show BadN 63 from h).elim
def beqB (a b : Bool) : Bool := @Bool.rec (fun _ => Bool) (@Bool.rec (fun _ => Bool) true false b) b a
omit [KGl] in
theorem beqB_eq (a b : Bool) : beqB a b = (a == b) := by cases a <;> cases b <;> rfl
def strEq (n x m y : Nat) : Bool := nd (Nat.beq n m) (Nat.beq (pkx .u8 x 0 n) (pkx .u8 y 0 m))
omit [KGl] in
theorem pk_ext {k : IntKind} {x y n : Nat} (h : ∀ i, i < n → pkr k x i = pkr k y i) : pkx k x 0 n = pkx k y 0 n := by
  have hw : 0 < wd k := by cases k <;> decide
  apply Nat.eq_of_testBit_eq; intro b
  show (bts x (wd k * 0) (wd k * n)).testBit b = (bts y (wd k * 0) (wd k * n)).testBit b
  rw [bts_bit, bts_bit]
  by_cases hb : b < wd k * n
  · have hi : b / wd k < n := Nat.div_lt_of_lt_mul hb
    have h1 := congrArg (fun z => z.testBit (b % wd k)) (h _ hi)
    replace h1 : (bts x (wd k * (b / wd k)) (wd k)).testBit (b % wd k) = (bts y (wd k * (b / wd k)) (wd k)).testBit (b % wd k) := h1
    rw [bts_bit, bts_bit, Nat.div_add_mod] at h1
    have h2 : b % wd k < wd k := Nat.mod_lt _ hw
    simp only [h2, decide_true, Bool.true_and] at h1
    rw [Nat.mul_zero, Nat.zero_add, h1]
  · simp [hb]
omit [KGl] in
theorem pk_ext' {k : IntKind} {x y n : Nat} (h : pkx k x 0 n = pkx k y 0 n) (i : Nat) (hi : i < n) : pkr k x i = pkr k y i := by
  have h1 : pkr k (pkx k x 0 n) i = pkr k (pkx k y 0 n) i := by rw [h]
  rw [pkr_pkx hi, pkr_pkx hi, Nat.zero_add] at h1
  exact h1
omit [KGl] in
theorem dec_inj {k : IntKind} {r s : Nat} (hr : r < mdl k) (hs : s < mdl k) (h : dec k r = dec k s) : r = s := by
  have hh := hlf_mdl k
  unfold dec at h
  cases hsg : sgn k with
  | false => rw [hsg] at h; exact Int.ofNat.inj h
  | true =>
    rw [hsg] at h
    replace h : @Bool.rec (fun _ => Int) (Int.negSucc (mdl k - 1 - r)) (Int.ofNat r) (Nat.blt r (hlf k)) = @Bool.rec (fun _ => Int) (Int.negSucc (mdl k - 1 - s)) (Int.ofNat s) (Nat.blt s (hlf k)) := h
    cases h1 : Nat.blt r (hlf k) <;> cases h2 : Nat.blt s (hlf k) <;> rw [h1, h2] at h
    · have := Int.negSucc.inj h; omega
    · cases h
    · cases h
    · exact Int.ofNat.inj h
omit [KGl] in
theorem strEq_eq (n x m y : Nat) : lbeq (bytesOf n x).data.toList (bytesOf m y).data.toList = strEq n x m y := by
  rw [lbeq_eq]
  show ((List.range n).map (fun i => UInt8.ofNat (pkr .u8 x i)) == (List.range m).map fun i => UInt8.ofNat (pkr .u8 y i)) = nd (Nat.beq n m) _
  rw [Bool.eq_iff_iff, beq_iff_eq, nd_iff, Nat.beq_eq, Nat.beq_eq]
  constructor
  · intro h
    have hl := congrArg List.length h
    simp only [List.length_map, List.length_range] at hl
    subst hl
    refine ⟨rfl, pk_ext fun i hi => ?_⟩
    have := congrArg (fun l => l[i]?) h
    simp only [List.getElem?_map, List.getElem?_range hi, Option.map_some, Option.some.injEq] at this
    have h2 := congrArg UInt8.toNat this
    rw [UInt8.toNat_ofNat', UInt8.toNat_ofNat'] at h2
    have a1 := pkr_lt .u8 x i
    have a2 := pkr_lt .u8 y i
    simp only [mdl] at a1 a2
    omega
  · rintro ⟨rfl, h⟩
    apply List.map_congr_left
    intro i hi
    rw [List.mem_range] at hi
    rw [pk_ext' h i hi]
def allN (f : Nat → Option Bool) (n : Nat) : Option Bool := @Nat.rec (fun _ => Option Bool) (some true) (fun i ih => @Option.rec Bool (fun _ => Option Bool) none (fun b => @Option.rec Bool (fun _ => Option Bool) none (fun c => some (nd b c)) (f i)) ih) n
omit [KGl] in
theorem allN_s {f : Nat → Option Bool} {g : Nat → Bool} : ∀ (n : Nat) (b : Bool), (∀ i b, i < n → f i = some b → g i = b) → allN f n = some b → (List.range n).all g = b
  | 0, b, _, h => by cases h; rfl
  | n + 1, b, hf, h => by
    have h0 : @Option.rec Bool (fun _ => Option Bool) none (fun b => @Option.rec Bool (fun _ => Option Bool) none (fun c => some (nd b c)) (f n)) (allN f n) = some b := h
    cases h1 : allN f n with
    | none => rw [h1] at h0; cases h0
    | some b1 =>
      rw [h1] at h0
      cases h2 : f n with
      | none => rw [h2] at h0; cases h0
      | some c =>
        rw [h2] at h0
        have h3 : nd b1 c = b := Option.some.inj h0
        have q1 := allN_s n b1 (fun i b hi => hf i b (by omega)) h1
        have q2 := hf n c (by omega) h2
        rw [List.range_succ, List.all_append, q1]
        simp only [List.all_cons, List.all_nil, Bool.and_true, q2]
        rw [← h3]
        cases b1 <;> rfl
def keq : Nat → KV → KV → Option Bool
  | 0, _, _ => none
  | f + 1, v, w => match v, w with
    | .int _ a, .int _ b => some (eqI a b)
    | .bool a, .bool b => some (beqB a b)
    | .str n x, .str m y => some (strEq n x m y)
    | .nl, .nl => some true
    | .cons h t, .cons h' t' => match keq f h h', keq f t t' with
      | some a, some b => some (nd a b)
      | _, _ => none
    | .pk k n x, .pk k' _ y => bif ikEq k k' then some (Nat.beq (pkx k x 0 n) (pkx k y 0 n)) else none
    | .pk k n x, .ar m d t => allN (fun i => keq f (kidx i (.pk k n x)) (kidx i (.ar m d t))) n
    | .ar n d t, w => match w with
      | .ar _ _ _ => allN (fun i => keq f (kidx i (.ar n d t)) (kidx i w)) n
      | .pk _ _ _ => allN (fun i => keq f (kidx i (.ar n d t)) (kidx i w)) n
      | _ => none
    | _, _ => none
omit [KGl] in
theorem nd_eq (a b : Bool) : nd a b = (a && b) := by cases a <;> rfl
omit [KGl] in
theorem eqV_arr {v w : KV} {n m : Nat} {f g : Nat → V} (hv : v.v = .arr n f) (hw : w.v = .arr m g) : eqV v.v w.v = (List.range n).all fun i => eqV (kidx i v).v (kidx i w).v := by
  have h1 : ∀ i, (kidx i v).v = f i := fun i => by rw [kidx_v, hv]; rfl
  have h2 : ∀ i, (kidx i w).v = g i := fun i => by rw [kidx_v, hw]; rfl
  rw [hv, hw]
  show (List.range n).all (fun i => eqV (f i) (g i)) = _
  congr 1
  funext i
  rw [h1, h2]
omit [KGl] in
theorem keq_s : ∀ (f : Nat) (v w : KV) (b : Bool), keq f v w = some b → eqV v.v w.v = b
  | 0, _, _, _, h => by cases h
  | f + 1, v, w, b, h => by
    have ih := keq_s f
    unfold keq at h
    split at h
    · cases h; exact (eqI_eq _ _).symm
    · cases h; rw [beqB_eq]; rfl
    · rename_i n x m y
      cases h
      rw [← strEq_eq, lbeq_eq]
      show ((bytesOf n x).toList == (bytesOf m y).toList) = _
      rw [ByteArray.toList_eq, ByteArray.toList_eq]
    · cases h; rfl
    · split at h
      · rename_i a b' h1 h2
        cases h
        show (eqV (KV.v _) (KV.v _) && eqV (KV.v _) (KV.v _)) = _
        rw [ih _ _ _ h1, ih _ _ _ h2, nd_eq]
      · cases h
    · rename_i k n x k' m y
      cases hk : ikEq k k' with
      | false => rw [hk] at h; cases h
      | true =>
        rw [hk] at h
        obtain rfl := ikEq_eq hk
        have h1 : Nat.beq (pkx k x 0 n) (pkx k y 0 n) = b := Option.some.inj h
        rw [← h1]
        show ((List.range n).all fun i => pkg k x i == pkg k y i) = _
        rw [Bool.eq_iff_iff, Nat.beq_eq, List.all_eq_true]
        constructor
        · intro h2
          refine pk_ext fun i hi => ?_
          have := h2 i (List.mem_range.2 hi)
          rw [beq_iff_eq] at this
          exact dec_inj (pkr_lt _ _ _) (pkr_lt _ _ _) this
        · intro h2 i hi
          rw [beq_iff_eq]
          unfold pkg
          rw [pk_ext' h2 i (List.mem_range.1 hi)]
    · rw [eqV_arr (v_pk _ _ _) (v_ar _ _ _)]; exact allN_s _ _ (fun i b _ hb => ih _ _ _ hb) h
    · split at h
      · rw [eqV_arr (v_ar _ _ _) (v_ar _ _ _)]; exact allN_s _ _ (fun i b _ hb => ih _ _ _ hb) h
      · rw [eqV_arr (v_ar _ _ _) (v_pk _ _ _)]; exact allN_s _ _ (fun i b _ hb => ih _ _ _ hb) h
      · cases h
    · cases h
def cmpFs (r : TypeId → KV → Bool) : List Field → KV → Bool
  | [], .nl => true
  | f :: fs, .cons h t => nd (f.name != "_") (nd (r f.type h) (cmpFs r fs t))
  | _, _ => false
def allB (f : Nat → Bool) (n : Nat) : Bool := @Nat.rec (fun _ => Bool) true (fun i ih => nd ih (f i)) n
omit [KGl] in
theorem allB_s {f : Nat → Bool} : ∀ {n : Nat}, allB f n = true → ∀ i, i < n → f i = true
  | 0, _, i, hi => by omega
  | n + 1, h, i, hi => by
    obtain ⟨h1, h2⟩ := nd_iff.1 (show nd (allB f n) (f n) = true from h)
    rcases Nat.lt_or_ge i n with h3 | h3
    · exact allB_s h1 i h3
    · obtain rfl : i = n := by omega
      exact h2
def kcmp (P : Program) : Nat → TypeId → KV → Bool
  | 0, _, _ => false
  | d + 1, t, v => match P.underlying t with
    | some (.int k) => match v with | .int k' _ => ikEq k k' | _ => false
    | some .bool => match v with | .bool _ => true | _ => false
    | some .string => match v with | .str _ _ => true | _ => false
    | some (.struct fs) => nd (!P.stoodInHeld t) (cmpFs (kcmp P d) fs.toList v)
    | some (.array n e) => match v with
      | .pk k m _ => nd (Nat.beq n m) (match P.underlying e with | some (.int k') => nd (ikEq k' k) (Nat.blt 0 d) | _ => false)
      | .ar m d' t' => nd (Nat.beq n m) (allB (fun i => kcmp P d e (kidx i (.ar m d' t'))) n)
      | _ => false
    | _ => false
omit [KGl] in
theorem cmpFs_s {P : Program} {d : Nat} (ih : ∀ t v w, kcmp P d t v = true → kcmp P d t w = true → eqT P d t v.v w.v = true) : ∀ (fs : List Field) (v w : KV), cmpFs (kcmp P d) fs v = true → cmpFs (kcmp P d) fs w = true → eqFs (eqT P d) fs v.v w.v = true
  | [], v, w, h1, h2 => by
    cases v <;> first | (cases h1; done) | skip
    cases w <;> first | (cases h2; done) | rfl
  | f :: fs, v, w, h1, h2 => by
    cases v <;> first | (cases h1; done) | skip
    rename_i a b
    cases w <;> first | (cases h2; done) | skip
    rename_i a' b'
    have h3 : nd (f.name != "_") (nd (kcmp P d f.type a) (cmpFs (kcmp P d) fs b)) = true := h1
    have h4 : nd (f.name != "_") (nd (kcmp P d f.type a') (cmpFs (kcmp P d) fs b')) = true := h2
    simp only [nd_iff] at h3 h4
    show (f.name != "_" && eqT P d f.type a.v a'.v && eqFs (eqT P d) fs b.v b'.v) = true
    rw [h3.1, ih _ _ _ h3.2.1 h4.2.1, cmpFs_s ih fs b b' h3.2.2 h4.2.2]; rfl
omit [KGl] in
theorem kcmp_arr {P : Program} {d n : Nat} {t e : TypeId} {v : KV} (hu : P.underlying t = some (.array n e)) (h : kcmp P (d + 1) t v = true) : ∃ f, v.v = .arr n f ∧ ∀ i, i < n → ∃ x : KV, x.v = f i ∧ kcmp P d e x = true := by
  unfold kcmp at h
  rw [hu] at h
  simp only at h
  split at h
  · rename_i k m x
    obtain ⟨h1, h2⟩ := nd_iff.1 h
    obtain rfl := beqE h1
    split at h2
    · rename_i k' he
      obtain ⟨h3, h4⟩ := nd_iff.1 h2
      refine ⟨_, rfl, fun i _ => ⟨.int k (pkg k x i), rfl, ?_⟩⟩
      rw [nblt] at h4
      cases d with
      | zero => omega
      | succ d => unfold kcmp; rw [he]; exact h3
    · cases h2
  · rename_i m d' t'
    obtain ⟨h1, h2⟩ := nd_iff.1 h
    obtain rfl := beqE h1
    exact ⟨_, rfl, fun i hi => ⟨kidx i (.ar n d' t'), by rw [kidx_v]; rfl, allB_s h2 i hi⟩⟩
  · cases h
omit [KGl] in
theorem kcmp_s {P : Program} : ∀ (d : Nat) (t : TypeId) (v w : KV), kcmp P d t v = true → kcmp P d t w = true → eqT P d t v.v w.v = true
  | 0, _, _, _, h, _ => by cases h
  | d + 1, t, v, w, h1, h2 => by
    have ih := kcmp_s (P := P) d
    cases hu : P.underlying t with
    | none => unfold kcmp at h1; rw [hu] at h1; cases h1
    | some x =>
      cases x
      case array n e =>
        obtain ⟨f, hf, q1⟩ := kcmp_arr hu h1
        obtain ⟨g, hg, q2⟩ := kcmp_arr hu h2
        unfold eqT
        rw [hu, hf, hg]
        simp only [beq_self_eq_true, Bool.true_and, List.all_eq_true, List.mem_range]
        intro i hi
        obtain ⟨a, ha, ha'⟩ := q1 i hi
        obtain ⟨b, hb, hb'⟩ := q2 i hi
        rw [← ha, ← hb]
        exact ih _ _ _ ha' hb'
      case struct fs =>
        unfold kcmp at h1 h2
        unfold eqT
        rw [hu] at h1 h2 ⊢
        simp only [nd_iff] at h1 h2 ⊢
        rw [h1.1, cmpFs_s ih _ _ _ h1.2 h2.2]; rfl
      case int k =>
        unfold kcmp at h1 h2
        unfold eqT
        rw [hu] at h1 h2 ⊢
        simp only at h1 h2 ⊢
        split at h1
        · split at h2
          · have a := ikEq_eq h1; have b := ikEq_eq h2; subst a; subst b; simp [v_int]
          · cases h2
        · cases h1
      case bool =>
        unfold kcmp at h1 h2
        unfold eqT
        rw [hu] at h1 h2 ⊢
        simp only at h1 h2 ⊢
        split at h1
        · split at h2
          · rfl
          · cases h2
        · cases h1
      case string =>
        unfold kcmp at h1 h2
        unfold eqT
        rw [hu] at h1 h2 ⊢
        simp only at h1 h2 ⊢
        split at h1
        · split at h2
          · rfl
          · cases h2
        · cases h1
      all_goals (unfold kcmp at h1; rw [hu] at h1; cases h1)
def isAggK (v : KV) : Bool := match v with
  | .nl | .cons _ _ | .pk _ _ _ | .ar _ _ _ => true
  | _ => false
omit [KGl] in
theorem isAggK_s {v : KV} (h : isAggK v = true) : v.v.isAgg = true := by
  cases v <;> first | rfl | cases h
def eqS (P : Program) (t : TypeId) : Bool := nd (lay P 12 t) (!P.eqGuardType P.depth t)
def cmpS (P : Program) (t : TypeId) (v : KV) : Bool := nd (isAggK v) (nd (kcmp P 12 t v) (kfits v (shp P 12 t)))
def kAgg (P : Program) (op : BinOp) (t : TypeId) (x y : KV) (zm : KZ) (nx : Nat) (K : KT) : Prop :=
  chk (nd (eqS P t) (nd (cmpS P t x) (cmpS P t y))) 64 (os 65 (fun b => eqn op b fun r => K (.bool r) zm nx [] []) (keq 24 x y))
def isNilK (v : KV) : Option Bool := match v with
  | .nilp => some true
  | .ptr _ _ _ => some false
  | .ref _ _ _ => some false
  | _ => none
def isPtrT (P : Program) (t : TypeId) : Bool := match P.underlying t with | some (.pointer _) => true | _ => false
def kBoolB (P : Program) (op : BinOp) (t : TypeId) (a : Bool) (zm : KZ) (nx : Nat) (K : KT) (b : Bool) : Prop := chk (isBoolT P t) 66 (eqn op (beqB a b) fun r => K (.bool r) zm nx [] [])
def kStrB (op : BinOp) (n x : Nat) (zm : KZ) (nx : Nat) (K : KT) (m y : Nat) : Prop := eqn op (strEq n x m y) fun r => K (.bool r) zm nx [] []
def kNilB (P : Program) (op : BinOp) (t : TypeId) (x : KV) (zm : KZ) (nx : Nat) (K : KT) : Prop := chk (isPtrT P t) 67 (os 68 (fun b => eqn op b fun r => K (.bool r) zm nx [] []) (isNilK x))
def nilsV (m : Mem) (v : V) : Option (Bool × List Nat) := match v with
  | .nils => some (true, [])
  | .ro _ _ _ (_ + 1) _ => some (false, [])
  | .sl _ _ _ _ (_ + 1) _ => some (false, [])
  | .sl _ _ _ _ 0 (some (_ + 1)) => some (false, [])
  | .row id _ (_ + 1) => match m id with
    | some blk => if blk.alive then some (false, [id]) else none
    | none => none
  | _ => none
theorem sem_eq_nils {op : BinOp} {t t' e : TypeId} {x y : Operand} {ρ : Operand → V} {m : Mem} {n : Nat} {b : Bool} {rd : List Nat} (ho : o.op = .binOp op t x y t') (hop : op = .eql ∨ op = .neq) (hx : nilsV m (ρ x) = some (b, rd)) (hy : ρ y = .nils) (hu : P.underlying t = some (.slice e)) :
    OpSem P B o ρ m n ⟨.bool (if op = .eql then b else !b), [], [], rd⟩ :=
  OpSem.pure fun C M ρc hs hr hrel => by
    have h0 := hrel x (by simp [ho, Op.operands])
    have h1 := hrel y (by simp [ho, Op.operands])
    rw [hy] at h1
    have h1' : ρc y = .slice none 0 0 := h1
    obtain ⟨a, l, c, h2, h3⟩ : ∃ a l c, ρc x = .slice a l c ∧ a.isNone = b := by
      unfold nilsV at hx
      split at hx
      · rename_i hv
        cases hx
        rw [hv] at h0
        exact ⟨none, 0, 0, h0, rfl⟩
      · rename_i hv
        cases hx
        rw [hv] at h0
        obtain ⟨a, c, q1, q2, q3, q4⟩ := h0
        rcases q4 with q4 | ⟨g, o, rfl, _⟩
        · cases q4
        · exact ⟨_, _, _, q1, rfl⟩
      · rename_i hv
        cases hx
        rw [hv] at h0
        obtain ⟨hal, ad, c, o1, n1, q1, q2, q3, q4, q5, q6⟩ := h0
        rcases q6 with q6 | ⟨g, _, rfl⟩
        · omega
        · exact ⟨_, _, _, q1, rfl⟩
      · rename_i hv
        cases hx
        rw [hv] at h0
        obtain ⟨hal, ad, c, o1, n1, q1, q2, q3, q4, q5, q6⟩ := h0
        rcases q6 with q6 | ⟨g, _, rfl⟩
        · have := q3 _ rfl; omega
        · exact ⟨_, _, _, q1, rfl⟩
      · rename_i id e' k hv
        split at hx
        · rename_i blk hm
          split at hx
          · rename_i hal
            cases hx
            rw [hv] at h0
            obtain ⟨hal', ⟨a, c, q1⟩, q2, q3⟩ := h0
            have hM : M id = some blk := by rw [hr id (by simp), hm]
            have hbr := hs.mem id blk hM
            unfold BR at hbr; unfold Blk.alive at hal
            refine ⟨a, k + 1, c, by rw [← q1]; exact q3, ?_⟩
            cases hkd : blk.k <;> simp only [hkd] at hbr hal
            · obtain ⟨g, cur, e', h4, _⟩ := hbr
              rw [q1] at h4; cases h4
            · obtain ⟨n1, s1, cells, h4, h5, h6, _⟩ := hbr
              rcases h6.2 with ⟨h7, h8⟩ | ⟨g, cap, cur, hv, _⟩
              · rw [q1] at h7; cases h7
              · rw [q1] at hv; cases hv; rfl
            · simp at hal
            · simp at hal
            · simp at hal
          · cases hx
        · cases hx
      · cases hx
    have he : ∀ w, (Op.equal t (.slice a l c) (.slice none 0 0)).run P w = .ok a.isNone w := fun w => by
      show (Op.equalIn (9999 + 1) t (.slice a l c) (.slice none 0 0)).run P w = .ok a.isNone w
      generalize 9999 = d
      cases a <;> simp [Op.equalIn, run_underlying hu]
    rcases hop with rfl | rfl
    · exact ⟨.bool b, by simp [execOp, ho, h1', h2, eqGuard, binOp, he, h3], rfl⟩
    · exact ⟨.bool (!b), by simp [execOp, ho, h1', h2, eqGuard, binOp, he, h3], rfl⟩
def isSlT (P : Program) (t : TypeId) : Bool := match P.underlying t with | some (.slice _) => true | _ => false
def kNilS (P : Program) (op : BinOp) (t : TypeId) (x : KV) (zm : KZ) (nx : Nat) (K : KT) : Prop :=
  chk (isSlT P t) 241 (onNils (eqn op true fun r => K (.bool r) zm nx [] [])
    (onRo (fun _ _ _ _ len _ => chk (Nat.blt 0 len) 242 (eqn op false fun r => K (.bool r) zm nx [] []))
      (onSl (fun _ _ _ _ len cap => chk (Nat.blt 0 (@Option.rec Nat (fun _ => Nat) len (fun k => Nat.add len k) cap)) 243 (eqn op false fun r => K (.bool r) zm nx [] []))
        (onRow (fun id _ len => oB zm id fun kd _ _ => chk (nd (isAl kd) (Nat.blt 0 len)) 244 (eqn op false fun r => K (.bool r) zm nx [] [id])) (BadN 245) x) x) x) x)
theorem kNilS_s {op : BinOp} {t t' : TypeId} {x y : Operand} (ho : o.op = .binOp op t x y t') (hy0 : kev τ y = .nils) (h : kNilS P op t (kev τ x) zm nx K) : Out P B o τ lo zm nx K := by
  have hx := kev_v τ x
  have hy := kev_v τ y
  rw [hy0] at hy
  obtain ⟨h1, h2⟩ := chk_inv h
  obtain ⟨e, hu⟩ : ∃ e, P.underlying t = some (.slice e) := by
    unfold isSlT at h1
    split at h1
    · exact ⟨_, ‹_›⟩
    · cases h1
  have fin : ∀ (b : Bool) (rd : List Nat), (eqn op b fun r => K (.bool r) zm nx [] rd) → nilsV (am zm) (opv Gl.G (tv' τ) x) = some (b, rd) → (∀ id ∈ rd, ∃ b, am zm id = some b) → Out P B o τ lo zm nx K := by
    intro b rd hk hn hrd
    rcases eqn_inv hk with ⟨rfl, h5⟩ | ⟨rfl, h5⟩
    · exact Out.pure h5 ⟨sem_eq_nils (ρ := opv Gl.G (tv' τ)) (m := am zm) (n := nx) ho (.inl rfl) hn hy.symm hu, UpIn.rdL hrd⟩ (by rw [v_bool]; exact EImp.refl _)
    · exact Out.pure h5 ⟨sem_eq_nils (ρ := opv Gl.G (tv' τ)) (m := am zm) (n := nx) ho (.inr rfl) hn hy.symm hu, UpIn.rdL hrd⟩ (by rw [v_bool]; exact EImp.refl _)
  rcases onNils_inv h2 with ⟨hp, h3⟩ | ⟨_, h2⟩
  · rw [hp] at hx
    exact fin true [] h3 (by rw [← hx]; rfl) (fun _ h => (by cases h))
  rcases onRo_inv h2 with ⟨u, cl, s, off, len, c, hp, h3⟩ | ⟨_, h2⟩
  · obtain ⟨h4, h5⟩ := chk_inv h3
    rw [hp] at hx
    rw [nblt] at h4
    obtain ⟨k, rfl⟩ : ∃ k, len = k + 1 := ⟨len - 1, by omega⟩
    exact fin false [] h5 (by rw [← hx]; rfl) (fun _ h => (by cases h))
  rcases onSl_inv h2 with ⟨id, p, s, off, len, cap, hp, h3⟩ | ⟨_, h2⟩
  · obtain ⟨h4, h5⟩ := chk_inv h3
    rw [hp] at hx
    rw [nblt] at h4
    refine fin false [] h5 ?_ (fun _ h => (by cases h))
    rw [← hx]
    cases len with
    | succ k => rfl
    | zero =>
      cases cap with
      | none => exact absurd h4 (Nat.lt_irrefl 0)
      | some k =>
        cases k with
        | zero => exact absurd h4 (Nat.lt_irrefl 0)
        | succ k => rfl
  rcases onRow_inv h2 with ⟨id, s, len, hp, h3⟩ | ⟨_, h2⟩
  · obtain ⟨kd, sh, v, hb, h4⟩ := oB_inv h3
    obtain ⟨h5, h6⟩ := chk_inv h4
    obtain ⟨q1, q2⟩ := nd_iff.1 h5
    rw [hp] at hx
    rw [nblt] at q2
    obtain ⟨k, rfl⟩ : ∃ k, len = k + 1 := ⟨len - 1, by omega⟩
    refine fin false [id] h6 ?_ (fun i hi => by rw [List.mem_singleton] at hi; subst hi; exact ⟨_, am_some hb⟩)
    rw [← hx]
    show nilsV (am zm) (.row id s (k + 1)) = _
    unfold nilsV
    simp only [am_some hb, KBlk.b, isAl_eq, q1, if_true]
  · exact h2.elim
def kBin (P : Program) (op : BinOp) (t : TypeId) (x y : KV) (zm : KZ) (nx : Nat) (K : KT) : Prop :=
  onInt (fun k a => onInt (kNumB op k a zm nx K) (BadN 69) y)
    (onBool (fun a => onBool (kBoolB P op t a zm nx K) (BadN 70) y)
      (onStr (fun n s => onStr (kStrB op n s zm nx K) (BadN 71) y)
        (onNilp (kNilB P op t x zm nx K) (onNils (kNilS P op t x zm nx K) (kAgg P op t x y zm nx K) y) y) x) x) x
omit [KGl] in
theorem yBinA_nil {v : V} {b : Bool} {t e : TypeId} (h1 : ∀ s, v ≠ .str s) (h2 : v.isNilp = some b) (hu : P.underlying t = some (.pointer e)) : (yBinA P .eql t v .nilp).is (pureE (.bool b)) := by
  have : yBinA P .eql t v .nilp = okE (.bool b) := by
    cases v <;> first
      | exact absurd rfl (h1 _)
      | (cases h2; done)
      | (simp only [V.isNilp, Option.some.injEq] at h2; subst h2; simp [yBinA, strB, yBinS, hu, V.isNilp])
  rw [this]; rfl
omit [KGl] in
theorem yBinA_nil' {v : V} {b : Bool} {t e : TypeId} (h1 : ∀ s, v ≠ .str s) (h2 : v.isNilp = some b) (hu : P.underlying t = some (.pointer e)) : (yBinA P .neq t v .nilp).is (pureE (.bool !b)) := by
  have : yBinA P .neq t v .nilp = okE (.bool !b) := by
    cases v <;> first
      | exact absurd rfl (h1 _)
      | (cases h2; done)
      | (simp only [V.isNilp, Option.some.injEq] at h2; subst h2; simp [yBinA, strB, yBinS, hu, V.isNilp])
  rw [this]; rfl
theorem kBin_s {op : BinOp} {t t' : TypeId} {x y : Operand} (ho : o.op = .binOp op t x y t') (h : kBin P op t (kev τ x) (kev τ y) zm nx K) : Out P B o τ lo zm nx K := by
  have hx := kev_v τ x
  have hy := kev_v τ y
  rcases onInt_inv h with ⟨k, a, ha, h1⟩ | ⟨_, h1⟩
  · rcases onInt_inv h1 with ⟨k', b, hb, h2⟩ | ⟨_, h2⟩
    · exact kNum_s ho ha hb h2
    · exact h2.elim
  rcases onBool_inv h1 with ⟨a, ha, h1⟩ | ⟨_, h1⟩
  · rcases onBool_inv h1 with ⟨b, hb, h2⟩ | ⟨_, h2⟩
    · obtain ⟨h3, h4⟩ := chk_inv h2
      rw [ha] at hx; rw [hb] at hy
      have hu : P.underlying t = some .bool := by
        unfold isBoolT at h3
        split at h3
        · assumption
        · cases h3
      rcases eqn_inv h4 with ⟨rfl, h5⟩ | ⟨rfl, h5⟩
      · refine Out.pure h5 (yBinA_s (e := pureE (.bool (a == b))) ho ?_) (by rw [v_bool, beqB_eq]; exact EImp.refl _)
        rw [← hx, ← hy]
        show (yBinA P _ t (.bool a) (.bool b)).is _
        rw [yBinA_bool]
        simp only [yBin, hu]; rfl
      · refine Out.pure h5 (yBinA_s (e := pureE (.bool (!(a == b)))) ho ?_) (by rw [v_bool, beqB_eq]; exact EImp.refl _)
        rw [← hx, ← hy]
        show (yBinA P _ t (.bool a) (.bool b)).is _
        rw [yBinA_bool]
        simp only [yBin, hu]; rfl
    · exact h2.elim
  rcases onStr_inv h1 with ⟨n, a, ha, h1⟩ | ⟨_, h1⟩
  · rcases onStr_inv h1 with ⟨m, b, hb, h2⟩ | ⟨_, h2⟩
    · rw [ha] at hx; rw [hb] at hy
      rcases eqn_inv h2 with ⟨rfl, h5⟩ | ⟨rfl, h5⟩
      · refine Out.pure h5 (yBinA_s (e := pureE (.bool (lbeq (bytesOf n a).data.toList (bytesOf m b).data.toList))) ho ?_) (by rw [v_bool, strEq_eq]; exact EImp.refl _)
        rw [← hx, ← hy]; rfl
      · refine Out.pure h5 (yBinA_s (e := pureE (.bool !(lbeq (bytesOf n a).data.toList (bytesOf m b).data.toList))) ho ?_) (by rw [v_bool, strEq_eq]; exact EImp.refl _)
        rw [← hx, ← hy]; rfl
    · exact h2.elim
  rcases onNilp_inv h1 with ⟨hb, h1⟩ | ⟨hny, h1⟩
  · obtain ⟨h3, h4⟩ := chk_inv h1
    obtain ⟨b, h5, h6⟩ := os_inv h4
    rw [hb] at hy
    obtain ⟨e, hu⟩ : ∃ e, P.underlying t = some (.pointer e) := by
      unfold isPtrT at h3
      split at h3
      · exact ⟨_, ‹_›⟩
      · cases h3
    have hn : (kev τ x).v.isNilp = some b ∧ ∀ s, (kev τ x).v ≠ .str s := by
      unfold isNilK at h5
      split at h5
      · rename_i hv; cases h5; rw [hv]; exact ⟨rfl, fun s hs => by cases hs⟩
      · rename_i hv; cases h5; rw [hv]; exact ⟨rfl, fun s hs => by cases hs⟩
      · rename_i hv; cases h5; rw [hv]; exact ⟨rfl, fun s hs => by cases hs⟩
      · cases h5
    rcases eqn_inv h6 with ⟨rfl, h7⟩ | ⟨rfl, h7⟩
    · refine Out.pure h7 (yBinA_s (e := pureE (.bool b)) ho ?_) (EImp.refl _)
      rw [← hx, ← hy, v_nilp]
      exact yBinA_nil hn.2 hn.1 hu
    · refine Out.pure h7 (yBinA_s (e := pureE (.bool !b)) ho ?_) (EImp.refl _)
      rw [← hx, ← hy, v_nilp]
      exact yBinA_nil' hn.2 hn.1 hu
  rcases onNils_inv h1 with ⟨hb, h1⟩ | ⟨_, h1⟩
  · exact kNilS_s ho hb h1
  · obtain ⟨h3, h4⟩ := chk_inv h1
    obtain ⟨b, h5, h6⟩ := os_inv h4
    simp only [nd_iff, eqS, cmpS] at h3
    obtain ⟨⟨q1, q2⟩, ⟨p1, p2, p3⟩, r1, r2, r3⟩ := h3
    have hv : eqV (kev τ x).v (kev τ y).v = b := keq_s _ _ _ _ h5
    have ax := isAggK_s p1
    have ay := isAggK_s r1
    have hc : ∀ op', (yBinA P op' t (kev τ x).v (kev τ y).v) = (match op' with
      | .eql => okE (.bool b)
      | .neq => okE (.bool !b)
      | _ => .bad) := by
      intro op'
      have e1 : yBinA P op' t (kev τ x).v (kev τ y).v = yBin P op' t (kev τ x).v (kev τ y).v := by
        unfold yBinA
        have : strB (kev τ x).v (kev τ y).v = false := by
          cases hvx : (kev τ x).v <;> rw [hvx] at ax <;> first | (cases ax; done) | skip
          all_goals (cases hvy : (kev τ y).v <;> rw [hvy] at ay <;> first | (cases ay; done) | rfl)
        rw [this]
      rw [e1]
      unfold yBin
      split
      · rename_i e2 _; rw [e2] at ax; cases ax
      · rename_i e2 _; rw [e2] at ax; cases ax
      · rw [ax, ay, q1, kcmp_s _ _ _ _ p2 r2, (kfits_s p3).1, (kfits_s r3).1, q2, hv]; rfl
    rcases eqn_inv h6 with ⟨rfl, h7⟩ | ⟨rfl, h7⟩
    · exact Out.pure h7 (yBinA_s (e := pureE (.bool b)) ho (by rw [← hx, ← hy, hc]; rfl)) (EImp.refl _)
    · exact Out.pure h7 (yBinA_s (e := pureE (.bool !b)) ho (by rw [← hx, ← hy, hc]; rfl)) (EImp.refl _)
def kUn (op : UnOp) (x : KV) (zm : KZ) (nx : Nat) (K : KT) : Prop := @UnOp.rec (fun _ => KV → (KV → Prop) → Prop)
  (fun x K => onInt (fun k a => fI (k.wrap (0 - a)) fun r => K (.int k r)) (BadN 72) x) (fun x K => onInt (fun k a => fI (notI k a) fun r => K (.int k r)) (BadN 73) x)
  (fun x K => onBool (fun b => fB (!b) fun r => K (.bool r)) (BadN 74) x) (fun _ _ => BadN 75) op x fun r => K r zm nx [] []
theorem kUn_s {op : UnOp} {t : TypeId} {x : Operand} (ho : o.op = .unOp op t x) (h : kUn op (kev τ x) zm nx K) : Out P B o τ lo zm nx K := by
  have hx := kev_v τ x
  cases op
  · rcases onInt_inv (show onInt (fun k a => fI (k.wrap (0 - a)) fun r => K (.int k r) zm nx [] []) (BadN 72) (kev τ x) from h) with ⟨k, a, ha, h1⟩ | ⟨_, h1⟩
    · rw [fI_eq] at h1
      rw [ha] at hx
      exact Out.pure h1 (yUn_s (e := pureE _) ho (by rw [← hx]; rfl)) (EImp.refl _)
    · exact h1.elim
  · rcases onInt_inv (show onInt (fun k a => fI (notI k a) fun r => K (.int k r) zm nx [] []) (BadN 73) (kev τ x) from h) with ⟨k, a, ha, h1⟩ | ⟨_, h1⟩
    · rw [fI_eq] at h1
      rw [ha] at hx
      exact Out.pure h1 (yUn_s (e := pureE _) ho (by rw [← hx]; rfl)) (EImp.refl _)
    · exact h1.elim
  · rcases onBool_inv (show onBool (fun b => fB (!b) fun r => K (.bool r) zm nx [] []) (BadN 74) (kev τ x) from h) with ⟨b, ha, h1⟩ | ⟨_, h1⟩
    · rw [fB_eq] at h1
      rw [ha] at hx
      exact Out.pure h1 (yUn_s (e := pureE _) ho (by rw [← hx]; rfl)) (EImp.refl _)
    · exact h1.elim
  · exact (show BadN 75 from h).elim
end
end
end Go.K
