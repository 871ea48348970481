/- A run that the kernel carries out, over trees: names, memory, single operations. No condition. -/
import Derived.Test.YtkjoldifiniliaaB18
set_option linter.unusedVariables false
set_option linter.unusedSimpArgs false
namespace Go.Y
open Go.Ab Go.RowKit
noncomputable section

/-! ### Names -/
inductive Dg where
  | a | b | c | d
  deriving DecidableEq

abbrev Pth := List Dg

def Dg.n : Dg → Nat
  | .a => 0
  | .b => 1
  | .c => 2
  | .d => 3
def Dg.of (n : Nat) : Dg := @Nat.rec (fun _ => Dg) .a (fun n _ => @Nat.rec (fun _ => Dg) .b (fun n _ => @Nat.rec (fun _ => Dg) .c (fun _ _ => .d) n) n) n
theorem Dg.n_of : ∀ {n : Nat}, n < 4 → (Dg.of n).n = n
  | 0, _ => rfl
  | 1, _ => rfl
  | 2, _ => rfl
  | 3, _ => rfl
  | n + 4, h => by omega
theorem Dg.of_n (x : Dg) : Dg.of x.n = x := by cases x <;> rfl
theorem Dg.lt (x : Dg) : x.n < 4 := by cases x <;> decide

def num : Pth → Nat
  | [] => 0
  | x :: p => 4 * num p + x.n + 1

def encF : Nat → Nat → Pth
  | 0, _ => []
  | _ + 1, 0 => []
  | f + 1, n + 1 => Dg.of (Nat.mod n 4) :: encF f (Nat.div n 4)
def enc (n : Nat) : Pth := encF n n

theorem num_encF : ∀ (f n : Nat), n ≤ f → num (encF f n) = n
  | 0, n, h => by obtain rfl : n = 0 := by omega
                  rfl
  | f + 1, 0, _ => rfl
  | f + 1, n + 1, h => by
    show 4 * num (encF f (n / 4)) + (Dg.of (n % 4)).n + 1 = n + 1
    rw [num_encF f (n / 4) (by omega), Dg.n_of (Nat.mod_lt _ (by omega))]
    omega
theorem num_enc (n : Nat) : num (enc n) = n := num_encF n n (Nat.le_refl _)
theorem enc_inj {i j : Nat} (h : enc i = enc j) : i = j := by rw [← num_enc i, h, num_enc]
theorem enc_ne {i j : Nat} (h : i ≠ j) : enc i ≠ enc j := fun e => h (enc_inj e)

/-! ### Tries -/
inductive Tr (α : Type) where
  | e
  | m (a b c d : Tr α)
  | n (x : α) (a b c d : Tr α)
  deriving Inhabited

section
variable {α : Type}
def pick4 (g : Dg) (a b c d : Tr α) : Tr α := @Dg.rec (fun _ => Tr α) a b c d g
def get0 (x : α) (t : Tr α) : α := @Tr.rec α (fun _ => α) x (fun _ _ _ _ _ _ _ _ => x) (fun y _ _ _ _ _ _ _ _ => y) t
def get1 (x : α) (g : Dg) (ih : Tr α → α) (t : Tr α) : α := @Tr.rec α (fun _ => α) x (fun a b c d _ _ _ _ => ih (pick4 g a b c d)) (fun _ a b c d _ _ _ _ => ih (pick4 g a b c d)) t
/-- What lies at a place; 'x' if nothing does. -/
def get (x : α) (p : Pth) : Tr α → α := @List.rec Dg (fun _ => Tr α → α) (get0 x) (fun g _ ih => get1 x g ih) p
def set0 (x : α) (t : Tr α) : Tr α := @Tr.rec α (fun _ => Tr α) (.n x .e .e .e .e) (fun a b c d _ _ _ _ => .n x a b c d) (fun _ a b c d _ _ _ _ => .n x a b c d) t
def set1m (g : Dg) (ih : Tr α → Tr α) (a b c d : Tr α) : Tr α := @Dg.rec (fun _ => Tr α) (.m (ih a) b c d) (.m a (ih b) c d) (.m a b (ih c) d) (.m a b c (ih d)) g
def set1n (g : Dg) (ih : Tr α → Tr α) (x : α) (a b c d : Tr α) : Tr α := @Dg.rec (fun _ => Tr α) (.n x (ih a) b c d) (.n x a (ih b) c d) (.n x a b (ih c) d) (.n x a b c (ih d)) g
def set1 (g : Dg) (ih : Tr α → Tr α) (t : Tr α) : Tr α := @Tr.rec α (fun _ => Tr α) (set1m g ih .e .e .e .e) (fun a b c d _ _ _ _ => set1m g ih a b c d) (fun x a b c d _ _ _ _ => set1n g ih x a b c d) t
def set (x : α) (p : Pth) : Tr α → Tr α := @List.rec Dg (fun _ => Tr α → Tr α) (set0 x) (fun g _ ih => set1 g ih) p

theorem get_e (x : α) : ∀ p, get x p .e = x
  | [] => rfl
  | _ :: _ => rfl
theorem get_set_same (d x : α) : ∀ (p : Pth) (t : Tr α), get d p (set x p t) = x
  | [], t => by cases t <;> rfl
  | g :: p, t => by
    have ih := get_set_same d x p
    cases t <;> cases g <;> exact ih _
theorem get_set_ne (d x : α) : ∀ (p q : Pth) (t : Tr α), p ≠ q → get d p (set x q t) = get d p t
  | [], [], t, h => absurd rfl h
  | [], g :: q, t, _ => by cases t <;> cases g <;> rfl
  | g :: p, [], t, _ => by cases t <;> first | rfl | (cases g <;> exact get_e d p)
  | g :: p, g' :: q, t, h => by
    by_cases hg : g = g'
    · subst hg
      have hpq : p ≠ q := fun e => h (by rw [e])
      have ih := fun t => get_set_ne d x p q t hpq
      cases t with
      | e =>
        have h1 := ih .e
        rw [get_e] at h1
        cases g <;> exact h1
      | m a b c d1 => cases g <;> exact ih _
      | n y a b c d1 => cases g <;> exact ih _
    · cases t with
      | e => cases g <;> cases g' <;> first | exact absurd rfl hg | exact get_e d p
      | m a b c d1 => cases g <;> cases g' <;> first | exact absurd rfl hg | rfl
      | n y a b c d1 => cases g <;> cases g' <;> first | exact absurd rfl hg | rfl
theorem get_set (d x : α) (p q : Pth) (t : Tr α) : get d p (set x q t) = if p = q then x else get d p t := by
  by_cases h : p = q
  · subst h; rw [if_pos rfl, get_set_same]
  · rw [if_neg h, get_set_ne d x p q t h]
theorem get_set_n (d x : α) (i j : Nat) (t : Tr α) : get d (enc i) (set x (enc j) t) = if i = j then x else get d (enc i) t := by
  rw [get_set]
  by_cases h : i = j
  · subst h; simp
  · rw [if_neg h, if_neg (enc_ne h)]

/-! One after the other: what is handed on has been worked out. -/
def fT0 (x : α) (t : Tr α) (K : Tr α → Prop) : Prop := @Tr.rec α (fun _ => Prop) (K (.n x .e .e .e .e)) (fun a b c d _ _ _ _ => K (.n x a b c d)) (fun _ a b c d _ _ _ _ => K (.n x a b c d)) t
def fTm (g : Dg) (ih : Tr α → (Tr α → Prop) → Prop) (K : Tr α → Prop) (a b c d : Tr α) : Prop := @Dg.rec (fun _ => Prop) (ih a fun a => K (.m a b c d)) (ih b fun b => K (.m a b c d)) (ih c fun c => K (.m a b c d)) (ih d fun d => K (.m a b c d)) g
def fTn (g : Dg) (ih : Tr α → (Tr α → Prop) → Prop) (K : Tr α → Prop) (x : α) (a b c d : Tr α) : Prop := @Dg.rec (fun _ => Prop) (ih a fun a => K (.n x a b c d)) (ih b fun b => K (.n x a b c d)) (ih c fun c => K (.n x a b c d)) (ih d fun d => K (.n x a b c d)) g
def fT1 (g : Dg) (ih : Tr α → (Tr α → Prop) → Prop) (t : Tr α) (K : Tr α → Prop) : Prop := @Tr.rec α (fun _ => Prop) (fTm g ih K .e .e .e .e) (fun a b c d _ _ _ _ => fTm g ih K a b c d) (fun x a b c d _ _ _ _ => fTn g ih K x a b c d) t
def setTK (x : α) (p : Pth) : Tr α → (Tr α → Prop) → Prop := @List.rec Dg (fun _ => Tr α → (Tr α → Prop) → Prop) (fT0 x) (fun g _ ih => fT1 g ih) p
theorem setTK_eq (x : α) : ∀ (p : Pth) (t : Tr α) (K : Tr α → Prop), setTK x p t K = K (set x p t)
  | [], t, K => by cases t <;> rfl
  | g :: p, t, K => by
    have ih := setTK_eq x p
    cases t with
    | e => cases g <;> exact ih _ _
    | m a b c d => cases g <;> exact ih _ _
    | n y a b c d => cases g <;> exact ih _ _
end
def forceN (m : Nat) (f : Nat → Prop) : Prop := @Nat.rec (fun _ => Prop) (f (nat_lit 0)) (fun p _ => f (Nat.succ p)) m
theorem forceN_eq (m : Nat) (f : Nat → Prop) : forceN m f = f m := by cases m <;> rfl

/-! ### Memory -/
abbrev Tm := Tr V
abbrev Zm := Tr (Option Blk)
def gm (zm : Zm) : Mem := fun id => get none (enc id) zm
def tv (tm : Tm) (t : Nat) : V := get .unk (enc t) tm
def Sub (m M : Mem) : Prop := ∀ id b, m id = some b → M id = some b
/-- Of a test that need not be worked out. -/
def cnd (c : Bool) (p : Prop) : Prop := @Bool.rec (fun _ => Prop) False p c
theorem cnd_iff {c : Bool} {p : Prop} : cnd c p ↔ c = true ∧ p := by cases c <;> simp [cnd]
/-- Of two ways. -/
def alt (c : Bool) (p q : Prop) : Prop := @Bool.rec (fun _ => Prop) q p c
theorem alt_iff {c : Bool} {p q : Prop} : alt c p q ↔ (c = true → p) ∧ (c = false → q) := by cases c <;> simp [alt]
inductive RS where
  | bad
  | ok (e : Eff)
  | tst (c : Bool) (e : Eff)
  | prv (p : Prop) (e : Eff)
def RS.is (r : RS) (e : Eff) : Prop := match r with
  | .bad => False
  | .ok e' => e' = e
  | .tst c e' => c = true ∧ e' = e
  | .prv p e' => p ∧ e' = e
def okE (v : V) : RS := .ok (pureE v)

/-! ### Single operations -/
variable [Gl]
def yAlloc (P : Program) (t : TypeId) (n : Nat) : RS :=
  match zero? P t with
  | some (s, z) => .ok ⟨.ptr n [] s, [], [⟨.box, s, z⟩], []⟩
  | none => .bad
def yBox (P : Program) (t : TypeId) (x : V) (n : Nat) : RS :=
  match tshape P t with
  | some s => if x.fits s && x.known then .ok ⟨.ptr n [] s, [], [⟨.box, s, x⟩], []⟩ else .bad
  | none => .bad
def yBuild (P : Program) (t : TypeId) (ps : List (Nat × V)) : RS :=
  match zero? P t, places P t with
  | some (s, z), some (st, pl) => if bok s st pl ps then okE (bsetX st z ps) else .bad
  | _, _ => .bad
def yBuildSlice (P : Program) (t : TypeId) (len : Nat) (ps : List (Nat × V)) (n : Nat) : RS :=
  match P.underlying t with
  | some (.slice et) => match zero? P et with
    | some (s, z) => if decide (len * s.size ≤ 2 ^ 24) && decide (len * s.size ≠ 0) && bok (.arr len s) false (fun i => some (i * s.size, s.size)) ps then
        .ok ⟨.row n s len, [], [⟨.row et, .arr len s, bsetX false (.arr len fun _ => z) ps⟩], []⟩ else .bad
    | none => .bad
  | _ => .bad
def yLoad (P : Program) (t : TypeId) (x : V) (m : Mem) : RS :=
  match tshape P t, P.underlying t with
  | some s, some _ => match x with
    | .ptr id p s' => match m id with
      | some blk => if blk.alive && s'.beq s then .ok ⟨blk.v.path p, [], [], [id]⟩ else .bad
      | none => .bad
    | .ref u s' c => if s'.beq s then okE c else .bad
    | _ => .bad
  | _, _ => .bad
def yStore (P : Program) (t : TypeId) (a x : V) (m : Mem) : RS :=
  match tshape P t with
  | some s => match a with
    | .ptr id p s' => match m id with
      | some blk => if blk.alive && s'.beq s && x.fits s && x.known then .ok ⟨.tup .nl, [(id, ⟨blk.k, blk.sh, setX p x blk.v⟩)], [], []⟩ else .bad
      | none => .bad
    | _ => .bad
  | none => .bad
def yNil (x : V) : RS :=
  match x with
  | .ptr .. | .ref .. | .fn .. => okE x
  | _ => .bad
def ikEq (k l : IntKind) : Bool := match k, l with
  | .i8, .i8 | .i16, .i16 | .i32, .i32 | .i64, .i64 | .u8, .u8 | .u16, .u16 | .u32, .u32 | .u64, .u64 => true
  | _, _ => false
omit [Gl] in
theorem ikEq_eq {k l : IntKind} (h : ikEq k l = true) : k = l := by cases k <;> cases l <;> first | rfl | cases h
def neB (a : Int) : Bool := !(eqI a 0)
def geB (a : Int) : Bool := leI 0 a
def yBin (P : Program) (op : BinOp) (t : TypeId) (x y : V) : RS :=
  match x, y with
  | .int k a, .int k' b => match op with
    | .shl => .tst (geB b) (pureE (shift .shl k a b))
    | .shr => .tst (geB b) (pureE (shift .shr k a b))
    | .quo => if ikEq k k' then .tst (neB b) (pureE (bin .quo k a b)) else .bad
    | .rem => if ikEq k k' then .tst (neB b) (pureE (bin .rem k a b)) else .bad
    | op => if ikEq k k' then okE (bin op k a b) else .bad
  | .bool a, .bool b => match P.underlying t with
    | some .bool => match op with
      | .eql => okE (.bool (a == b))
      | .neq => okE (.bool (!(a == b)))
      | _ => .bad
    | _ => .bad
  | v, v' => if v.isAgg && v'.isAgg && lay P 12 t && eqT P 12 t v v' && v.fits (shp P 12 t) && v'.fits (shp P 12 t) && !P.eqGuardType P.depth t then
      match op with
      | .eql => okE (.bool (eqV v v'))
      | .neq => okE (.bool (!eqV v v'))
      | _ => .bad
    else .bad
def yUn (op : UnOp) (x : V) : RS :=
  match op, x with
  | .not, .bool b => okE (.bool !b)
  | .neg, .int k a => okE (unary .neg k a)
  | .xor, .int k a => okE (unary .xor k a)
  | _, _ => .bad
def yConv (P : Program) (src dst : TypeId) (x : V) : RS :=
  match x, P.underlying dst, P.underlying src with
  | .int _ a, some (.int k), some _ => okE (.int k (wrpI k a))
  | _, _, _ => .bad
def yField (P : Program) (st : TypeId) (x : V) (f : Nat) : RS :=
  match P.underlying st with
  | some (.struct fs) => match fs[f]? with
    | some fd => match P.info? fd.type with
      | some i => if i.size = 0 then .bad else match x with
        | .ptr id p s => match s.fld f with
          | some (d, s') => if d = fd.offset then okE (.ptr id (p ++ [.fld f]) s') else .bad
          | none => .bad
        | .ref u s c => match s.fld f with
          | some (d, s') => if d = fd.offset then okE (.ref u s' (c.fld f)) else .bad
          | none => .bad
        | _ => .bad
      | none => .bad
    | none => .bad
  | _ => .bad
def ixB (j : Int) (n : Nat) : Bool := leI 0 j && ltI j (.ofNat n)
def yIndex (P : Program) (t : TypeId) (x ix : V) (m : Mem) : RS :=
  match ix with
  | .int k j => match P.underlying t with
    | some (.array len el) => match P.info? el with
      | some i => match x with
        | .ptr id p (.arr len' e) => if len' = len ∧ i.size = e.size then .tst (ixB j len) (pureE (.ptr id (p ++ [.idx j.toNat]) e)) else .bad
        | .ref u (.arr len' e) c => if len' = len ∧ i.size = e.size then .tst (ixB j len) (pureE (.ref u e (c.step (.idx j.toNat)))) else .bad
        | _ => .bad
      | none => .bad
    | some (.slice el) => match P.info? el with
      | some i => match x with
        | .row id e len => match m id with
          | some blk => if i.size = e.size ∧ blk.alive = true then .tst (ixB j len) ⟨.ptr id [.idx j.toNat] e, [], [], [id]⟩ else .bad
          | none => .bad
        | .sl id p e off len cap => if i.size = e.size then .tst (ixB j len) (pureE (.ptr id (p ++ [.idx (off + j.toNat)]) e)) else .bad
        | .ro u clip e len f => if i.size = e.size then .tst (ixB j len) (pureE (.ref u e (f j.toNat))) else .bad
        | _ => .bad
      | none => .bad
    | _ => .bad
  | _ => .bad
def yLen (P : Program) (t : TypeId) (x : V) : RS :=
  match P.underlying t with
  | some (.slice _) => match x.len with
    | some k => okE (.int .i64 k)
    | none => .bad
  | some .string => match x with
    | .str s => okE (.int .i64 s.size)
    | _ => .bad
  | some (.array k _) => okE (.int .i64 k)
  | _ => .bad
def slB (l h : Int) (n : Nat) (mv : Option Int) : Bool := (leI 0 l && (leI l h && leI h (.ofNat n))) && match mv with
  | none => true
  | some m => leI h m && leI m (.ofNat n)
def ySl (P : Program) (el : TypeId) (x : V) (l : Int) (hi : Option V) (mv : Option Int) (m : Mem) : RS :=
  match P.info? el with
  | some i => match x with
    | .ro u clip e len f => if i.size = e.size then match V.bnd len hi with
      | some h => .tst (slB l h len mv) (pureE (.ro u (clipV clip len h mv) e (h.toNat - l.toNat) fun j => f (l.toNat + j)))
      | none => .bad
      else .bad
    | .row id e len => match m id with
      | some blk => if i.size = e.size ∧ blk.alive = true then match V.bnd len hi with
        | some h => .tst (slB l h len mv) ⟨.sl id [] e l.toNat (h.toNat - l.toNat) (subO l.toNat none mv), [], [], [id]⟩
        | none => .bad
        else .bad
      | none => .bad
    | .sl id p e off len cap => if i.size = e.size then match V.bnd len hi with
      | some h => .tst (slB l h len mv) (pureE (.sl id p e (off + l.toNat) (h.toNat - l.toNat) (subO l.toNat cap mv)))
      | none => .bad
      else .bad
    | .nils => match V.bnd (0 : Nat) hi, mv with
      | some h, none => .tst (slB l h 0 none) (pureE .nils)
      | _, _ => .bad
    | _ => .bad
  | none => .bad
def ySla (P : Program) (N : Nat) (el : TypeId) (x : V) (l : Int) (hi : Option V) (mv : Option Int) : RS :=
  match P.info? el, V.bnd N hi with
  | some i, some h => match x with
    | .ptr id p (.arr N' e) => if N' = N ∧ i.size = e.size then .tst (slB l h N mv) (pureE (.sl id p e l.toNat (h.toNat - l.toNat) (subO l.toNat (some N) mv))) else .bad
    | .ref u (.arr N' e) (.arr N2 f) => if N' = N ∧ N2 = N ∧ i.size = e.size then .tst (slB l h N mv) (pureE (.ro u (clipV true N h mv) e (h.toNat - l.toNat) fun j => f (l.toNat + j))) else .bad
    | _ => .bad
  | _, _ => .bad
def ySlice (P : Program) (t : TypeId) (x : V) (lo hi mx : Option V) (m : Mem) : RS :=
  if (mx.isNone || hi.isSome) = true then match V.bnd 0 lo, V.mxb mx with
    | some l, some mv => match P.underlying t with
      | some (.slice el) => ySl P el x l hi mv m
      | some (.array N el) => ySla P N el x l hi mv
      | some .string => match x, mv with
        | .str s, none => match V.bnd s.size hi with
          | some h => .tst (slB l h s.size none) (pureE (.str (s.extract l.toNat h.toNat)))
          | none => .bad
        | _, _ => .bad
      | _ => .bad
    | _, _ => .bad
  else .bad
def opSame (x y : Operand) : Bool := match x, y with
  | .tmp a, .tmp b => Nat.beq a b
  | .const (.int _ a), .const (.int _ b) => decide (a = b)
  | _, _ => false
def mkB (a b : Int) : Bool := leI 0 a && (leI a b && leI b 16777216)
def yMake (P : Program) (t : TypeId) (same : Bool) (l c : V) (n : Nat) : RS :=
  match P.underlying t with
  | some (.slice et) => match zero? P et, P.info? et with
    | some (s, z), some i => if i.bytes ≤ 1048576 then match l, c with
      | .int _ a, .int _ b => .tst (mkB a b) (match same with
        | true => ⟨.sl n [] s 0 a.toNat (some b.toNat), [], [⟨.box, .arr b.toNat s, .arr b.toNat fun _ => z⟩], []⟩
        | false => ⟨.row n s a.toNat, [], [⟨.row et, .arr a.toNat s, .arr a.toNat fun _ => z⟩], []⟩)
      | _, _ => .bad
      else .bad
    | _, _ => .bad
  | _ => .bad
def apB (a b : Nat) : Bool := Nat.ble (a + b) 134217728
def yApp (et : TypeId) (x : V) (s : Shape) (k : Nat) (f : Nat → V) (rd : List Nat) (m : Mem) (n : Nat) : RS :=
  match x with
  | .nils => .tst (apB 0 k) ⟨.row n s (0 + k), [], [⟨.row et, .arr (0 + k) s, .arr (0 + k) (appX 0 (fun _ => .unk) f)⟩], rd⟩
  | .row id s' len => match m id with
    | some blk => match blk.k, blk.v with
      | .row et', .arr n1 f0 => if s'.beq s = true ∧ et' = et ∧ Nat.blt id n = true then
          .tst (apB len k) ⟨.row n s (len + k), [(id, ⟨.dead, blk.sh, .unk⟩)], [⟨.row et, .arr (len + k) s, .arr (len + k) (appX len f0 f)⟩], rd⟩ else .bad
      | _, _ => .bad
    | none => .bad
  | .ro u true s' len f0 => if s'.beq s then .tst (apB len k && Nat.blt 0 k) ⟨.row n s (len + k), [], [⟨.row et, .arr (len + k) s, .arr (len + k) (appX len f0 f)⟩], rd⟩ else .bad
  | _ => .bad
def yAppend (P : Program) (t t' : TypeId) (x y : V) (m : Mem) (n : Nat) : RS :=
  if t' = t then match P.underlying t with
    | some (.slice et) => match zero? P et, P.info? et with
      | some (s, z), some i => if i.bytes ≤ 1048576 ∧ 0 < s.size then match srcW m s y with
        | some (s', k, f, rd) => if s'.beq s then yApp et x s k f rd m n else .bad
        | none => .bad
        else .bad
      | _, _ => .bad
    | _ => .bad
  else .bad
def yCopy (P : Program) (t : TypeId) (x y : V) (m : Mem) : RS :=
  match P.underlying t with
  | some (.slice et) => match P.info? et, x with
    | some i, .sl id p e off len cap => match m id with
      | some blk => match blk.v.path p, srcW m e y with
        | .arr N f0, some (e', k, f, rd) => if blk.alive = true ∧ e'.beq e = true ∧ i.size = e.size then
            .ok ⟨.int .i64 (min k len : Nat), [(id, ⟨blk.k, blk.sh, setX p (.arr N (cpX off (min k len) f0 f)) blk.v⟩)], [], rd⟩ else .bad
        | _, _ => .bad
      | none => .bad
    | _, _ => .bad
  | _ => .bad
def yCap (P : Program) (t : TypeId) (x : V) : RS :=
  match P.underlying t with
  | some (.slice _) => match x.cap with
    | some k => okE (.int .i64 k)
    | none => .bad
  | _ => .bad
def yMin (x y : V) : RS := match x, y with
  | .int k a, .int _ b => okE (minV k a b)
  | _, _ => .bad
def yIndexV (P : Program) (t : TypeId) (x ix : V) : RS :=
  match ix with
  | .int _ j => match P.underlying t, x with
    | some .string, .str s => .tst (ixB j s.size) (pureE (byteAt s j.toNat))
    | some (.array N el), .arr N' f => match tshape P el, P.underlying el with
      | some s, some _ => if N' = N then .tst (ixB j N && (f j.toNat).fits s) (pureE (f j.toNat)) else .bad
      | _, _ => .bad
    | _, _ => .bad
  | _ => .bad
def yFieldV (P : Program) (t : TypeId) (x : V) (k : Nat) : RS :=
  match P.underlying t, tshape P t with
  | some (.struct fs), some s => match fs[k]?, s.fld k with
    | some fd, some (d, s') => match tshape P fd.type, P.underlying fd.type with
      | some s2, some _ => if x.isAgg = true ∧ x.fits s = true ∧ d = fd.offset ∧ s2.beq s' = true then okE (x.fld k) else .bad
      | _, _ => .bad
    | _, _ => .bad
  | _, _ => .bad
def yConvS (P : Program) (src dst : TypeId) (x : V) (m : Mem) : RS :=
  match P.underlying src, P.underlying dst with
  | some .string, some .string => match x with
    | .str s => okE x
    | _ => .bad
  | some .string, some (.slice e) => match P.underlying e, x with
    | some (.int .u8), .str s => okE (.ro true false .sc s.size (byteAt s))
    | _, _ => .bad
  | some (.slice e), some .string => match P.underlying e with
    | some (.int .u8) => match srcV m x with
      | some (.sc, len, f, rd) => match u8s f len 0 with
        | some l => .ok ⟨.str (strOfNums l), [], [], rd⟩
        | none => .bad
      | _ => .bad
    | _ => .bad
  | some (.slice e), some (.slice _) => if dst = src then match P.underlying e, x with
    | some (.int .u8), .row id .sc len => match m id with
      | some blk => match blk.k, blk.v with
        | .row et, .arr n1 f => match u8s f len 0 with
          | some l => if Nat.blt 0 len then .ok ⟨.ro true false .sc len f, [(id, ⟨.dead, blk.sh, .unk⟩)], [], []⟩ else .bad
          | none => .bad
        | _, _ => .bad
      | none => .bad
    | _, _ => .bad
    else .bad
  | _, _ => .bad
def yArr (P : Program) (t : TypeId) (x : V) : RS :=
  match P.underlying t, x with
  | some (.array N el), .ro u clip e len f => .tst (Nat.blt 0 N && Nat.ble N len) (pureE (.ref u (.arr N e) (.arr N f)))
  | _, _ => .bad
def yBinS (P : Program) (op : BinOp) (t : TypeId) (x y : V) : RS :=
  match x, y with
  | .str a, .str b => match op with
    | .eql => okE (.bool (lbeq a.data.toList b.data.toList))
    | .neq => okE (.bool !(lbeq a.data.toList b.data.toList))
    | _ => .bad
  | x, .nilp => match P.underlying t, x.isNilp with
    | some (.pointer _), some b => match op with
      | .eql => okE (.bool b)
      | .neq => okE (.bool !b)
      | _ => .bad
    | _, _ => .bad
  | _, _ => .bad
end
end Go.Y
