/- A run that the kernel carries out, over trees: names, memory, single operations. No condition. A run that the kernel carries out, over trees: what single operations do, and that the model does the same. No condition. -/
import Derived.Test.YthnhbdidiglcgaaGreatDoorB16
set_option linter.unusedVariables false
set_option linter.unusedSimpArgs false
namespace Go.Y
open Go.Ab Go.RowKit
noncomputable section

/-! ### Names -/
inductive Dg where
  | a | b | c | d
  deriving DecidableEq

abbrev Pth := List Dg

def Dg.n : Dg → Nat
  | .a => 0
  | .b => 1
  | .c => 2
  | .d => 3
def Dg.of (n : Nat) : Dg := @Nat.rec (fun _ => Dg) .a (fun n _ => @Nat.rec (fun _ => Dg) .b (fun n _ => @Nat.rec (fun _ => Dg) .c (fun _ _ => .d) n) n) n
theorem Dg.n_of : ∀ {n : Nat}, n < 4 → (Dg.of n).n = n
  | 0, _ => rfl
  | 1, _ => rfl
  | 2, _ => rfl
  | 3, _ => rfl
  | n + 4, h => by omega
theorem Dg.of_n (x : Dg) : Dg.of x.n = x := by cases x <;> rfl
theorem Dg.lt (x : Dg) : x.n < 4 := by cases x <;> decide

def num : Pth → Nat
  | [] => 0
  | x :: p => 4 * num p + x.n + 1

def encF : Nat → Nat → Pth
  | 0, _ => []
  | _ + 1, 0 => []
  | f + 1, n + 1 => Dg.of (Nat.mod n 4) :: encF f (Nat.div n 4)
def enc (n : Nat) : Pth := encF n n

theorem num_encF : ∀ (f n : Nat), n ≤ f → num (encF f n) = n
  | 0, n, h => by obtain rfl : n = 0 := by omega
                  rfl
  | f + 1, 0, _ => rfl
  | f + 1, n + 1, h => by
    show 4 * num (encF f (n / 4)) + (Dg.of (n % 4)).n + 1 = n + 1
    rw [num_encF f (n / 4) (by omega), Dg.n_of (Nat.mod_lt _ (by omega))]
    omega
theorem num_enc (n : Nat) : num (enc n) = n := num_encF n n (Nat.le_refl _)
theorem enc_inj {i j : Nat} (h : enc i = enc j) : i = j := by rw [← num_enc i, h, num_enc]
theorem enc_ne {i j : Nat} (h : i ≠ j) : enc i ≠ enc j := fun e => h (enc_inj e)

/-! ### Tries -/
inductive Tr (α : Type) where
  | e
  | m (a b c d : Tr α)
  | n (x : α) (a b c d : Tr α)
  deriving Inhabited

section
variable {α : Type}
def pick4 (g : Dg) (a b c d : Tr α) : Tr α := @Dg.rec (fun _ => Tr α) a b c d g
def get0 (x : α) (t : Tr α) : α := @Tr.rec α (fun _ => α) x (fun _ _ _ _ _ _ _ _ => x) (fun y _ _ _ _ _ _ _ _ => y) t
def get1 (x : α) (g : Dg) (ih : Tr α → α) (t : Tr α) : α := @Tr.rec α (fun _ => α) x (fun a b c d _ _ _ _ => ih (pick4 g a b c d)) (fun _ a b c d _ _ _ _ => ih (pick4 g a b c d)) t
/-- What lies at a place; 'x' if nothing does. -/
def get (x : α) (p : Pth) : Tr α → α := @List.rec Dg (fun _ => Tr α → α) (get0 x) (fun g _ ih => get1 x g ih) p
def set0 (x : α) (t : Tr α) : Tr α := @Tr.rec α (fun _ => Tr α) (.n x .e .e .e .e) (fun a b c d _ _ _ _ => .n x a b c d) (fun _ a b c d _ _ _ _ => .n x a b c d) t
def set1m (g : Dg) (ih : Tr α → Tr α) (a b c d : Tr α) : Tr α := @Dg.rec (fun _ => Tr α) (.m (ih a) b c d) (.m a (ih b) c d) (.m a b (ih c) d) (.m a b c (ih d)) g
def set1n (g : Dg) (ih : Tr α → Tr α) (x : α) (a b c d : Tr α) : Tr α := @Dg.rec (fun _ => Tr α) (.n x (ih a) b c d) (.n x a (ih b) c d) (.n x a b (ih c) d) (.n x a b c (ih d)) g
def set1 (g : Dg) (ih : Tr α → Tr α) (t : Tr α) : Tr α := @Tr.rec α (fun _ => Tr α) (set1m g ih .e .e .e .e) (fun a b c d _ _ _ _ => set1m g ih a b c d) (fun x a b c d _ _ _ _ => set1n g ih x a b c d) t
def set (x : α) (p : Pth) : Tr α → Tr α := @List.rec Dg (fun _ => Tr α → Tr α) (set0 x) (fun g _ ih => set1 g ih) p

theorem get_e (x : α) : ∀ p, get x p .e = x
  | [] => rfl
  | _ :: _ => rfl
theorem get_set_same (d x : α) : ∀ (p : Pth) (t : Tr α), get d p (set x p t) = x
  | [], t => by cases t <;> rfl
  | g :: p, t => by
    have ih := get_set_same d x p
    cases t <;> cases g <;> exact ih _
theorem get_set_ne (d x : α) : ∀ (p q : Pth) (t : Tr α), p ≠ q → get d p (set x q t) = get d p t
  | [], [], t, h => absurd rfl h
  | [], g :: q, t, _ => by cases t <;> cases g <;> rfl
  | g :: p, [], t, _ => by cases t <;> first | rfl | (cases g <;> exact get_e d p)
  | g :: p, g' :: q, t, h => by
    by_cases hg : g = g'
    · subst hg
      have hpq : p ≠ q := fun e => h (by rw [e])
      have ih := fun t => get_set_ne d x p q t hpq
      cases t with
      | e =>
        have h1 := ih .e
        rw [get_e] at h1
        cases g <;> exact h1
      | m a b c d1 => cases g <;> exact ih _
      | n y a b c d1 => cases g <;> exact ih _
    · cases t with
      | e => cases g <;> cases g' <;> first | exact absurd rfl hg | exact get_e d p
      | m a b c d1 => cases g <;> cases g' <;> first | exact absurd rfl hg | rfl
      | n y a b c d1 => cases g <;> cases g' <;> first | exact absurd rfl hg | rfl
theorem get_set (d x : α) (p q : Pth) (t : Tr α) : get d p (set x q t) = if p = q then x else get d p t := by
  by_cases h : p = q
  · subst h; rw [if_pos rfl, get_set_same]
  · rw [if_neg h, get_set_ne d x p q t h]
theorem get_set_n (d x : α) (i j : Nat) (t : Tr α) : get d (enc i) (set x (enc j) t) = if i = j then x else get d (enc i) t := by
  rw [get_set]
  by_cases h : i = j
  · subst h; simp
  · rw [if_neg h, if_neg (enc_ne h)]

/-! One after the other: what is handed on has been worked out. -/
def fT0 (x : α) (t : Tr α) (K : Tr α → Prop) : Prop := @Tr.rec α (fun _ => Prop) (K (.n x .e .e .e .e)) (fun a b c d _ _ _ _ => K (.n x a b c d)) (fun _ a b c d _ _ _ _ => K (.n x a b c d)) t
def fTm (g : Dg) (ih : Tr α → (Tr α → Prop) → Prop) (K : Tr α → Prop) (a b c d : Tr α) : Prop := @Dg.rec (fun _ => Prop) (ih a fun a => K (.m a b c d)) (ih b fun b => K (.m a b c d)) (ih c fun c => K (.m a b c d)) (ih d fun d => K (.m a b c d)) g
def fTn (g : Dg) (ih : Tr α → (Tr α → Prop) → Prop) (K : Tr α → Prop) (x : α) (a b c d : Tr α) : Prop := @Dg.rec (fun _ => Prop) (ih a fun a => K (.n x a b c d)) (ih b fun b => K (.n x a b c d)) (ih c fun c => K (.n x a b c d)) (ih d fun d => K (.n x a b c d)) g
def fT1 (g : Dg) (ih : Tr α → (Tr α → Prop) → Prop) (t : Tr α) (K : Tr α → Prop) : Prop := @Tr.rec α (fun _ => Prop) (fTm g ih K .e .e .e .e) (fun a b c d _ _ _ _ => fTm g ih K a b c d) (fun x a b c d _ _ _ _ => fTn g ih K x a b c d) t
def setTK (x : α) (p : Pth) : Tr α → (Tr α → Prop) → Prop := @List.rec Dg (fun _ => Tr α → (Tr α → Prop) → Prop) (fT0 x) (fun g _ ih => fT1 g ih) p
theorem setTK_eq (x : α) : ∀ (p : Pth) (t : Tr α) (K : Tr α → Prop), setTK x p t K = K (set x p t)
  | [], t, K => by cases t <;> rfl
  | g :: p, t, K => by
    have ih := setTK_eq x p
    cases t with
    | e => cases g <;> exact ih _ _
    | m a b c d => cases g <;> exact ih _ _
    | n y a b c d => cases g <;> exact ih _ _
end
def forceN (m : Nat) (f : Nat → Prop) : Prop := @Nat.rec (fun _ => Prop) (f (nat_lit 0)) (fun p _ => f (Nat.succ p)) m
theorem forceN_eq (m : Nat) (f : Nat → Prop) : forceN m f = f m := by cases m <;> rfl

/-! ### Memory -/
abbrev Tm := Tr V
abbrev Zm := Tr (Option Blk)
def gm (zm : Zm) : Mem := fun id => get none (enc id) zm
def tv (tm : Tm) (t : Nat) : V := get .unk (enc t) tm
def Sub (m M : Mem) : Prop := ∀ id b, m id = some b → M id = some b
/-- Of a test that need not be worked out. -/
def cnd (c : Bool) (p : Prop) : Prop := @Bool.rec (fun _ => Prop) False p c
theorem cnd_iff {c : Bool} {p : Prop} : cnd c p ↔ c = true ∧ p := by cases c <;> simp [cnd]
/-- Of two ways. -/
def alt (c : Bool) (p q : Prop) : Prop := @Bool.rec (fun _ => Prop) q p c
theorem alt_iff {c : Bool} {p q : Prop} : alt c p q ↔ (c = true → p) ∧ (c = false → q) := by cases c <;> simp [alt]
inductive RS where
  | bad
  | ok (e : Eff)
  | tst (c : Bool) (e : Eff)
  | prv (p : Prop) (e : Eff)
def RS.is (r : RS) (e : Eff) : Prop := match r with
  | .bad => False
  | .ok e' => e' = e
  | .tst c e' => c = true ∧ e' = e
  | .prv p e' => p ∧ e' = e
def okE (v : V) : RS := .ok (pureE v)

/-! ### Single operations -/
variable [Gl]
def yAlloc (P : Program) (t : TypeId) (n : Nat) : RS :=
  match zero? P t with
  | some (s, z) => .ok ⟨.ptr n [] s, [], [⟨.box t, s, z⟩], []⟩
  | none => .bad
def yBox (P : Program) (t : TypeId) (x : V) (n : Nat) : RS :=
  match tshape P t with
  | some s => if x.fits s && x.known then .ok ⟨.ptr n [] s, [], [⟨.box t, s, x⟩], []⟩ else .bad
  | none => .bad
def yBuild (P : Program) (t : TypeId) (ps : List (Nat × V)) : RS :=
  match zero? P t, places P t with
  | some (s, z), some (st, pl) => if bok s st pl ps then okE (bsetX st z ps) else .bad
  | _, _ => .bad
def yBuildSlice (P : Program) (t : TypeId) (len : Nat) (ps : List (Nat × V)) (n : Nat) : RS :=
  match P.underlying t with
  | some (.slice et) => match zero? P et with
    | some (s, z) => if decide (len * s.size ≤ 2 ^ 24) && decide (len * s.size ≠ 0) && bok (.arr len s) false (fun i => some (i * s.size, s.size)) ps then
        .ok ⟨.row n s len, [], [⟨.row et, .arr len s, bsetX false (.arr len fun _ => z) ps⟩], []⟩ else .bad
    | none => .bad
  | _ => .bad
def yLoad (P : Program) (t : TypeId) (x : V) (m : Mem) : RS :=
  match tshape P t, P.underlying t with
  | some s, some _ => match x with
    | .ptr id p s' => match m id with
      | some blk => if blk.alive && s'.beq s then .ok ⟨blk.v.path p, [], [], [id]⟩ else .bad
      | none => .bad
    | .ref u s' c => if s'.beq s then okE c else .bad
    | _ => .bad
  | _, _ => .bad
def yStore (P : Program) (t : TypeId) (a x : V) (m : Mem) : RS :=
  match tshape P t with
  | some s => match a with
    | .ptr id p s' => match m id with
      | some blk => if blk.alive && s'.beq s && x.fits s && x.known then .ok ⟨.tup .nl, [(id, ⟨blk.k, blk.sh, setX p x blk.v⟩)], [], []⟩ else .bad
      | none => .bad
    | _ => .bad
  | none => .bad
def yNil (x : V) : RS :=
  match x with
  | .ptr .. | .ref .. => okE x
  | .fn f _ => .tst (Nat.blt f 2147483648) (pureE x)
  | _ => .bad
def ikEq (k l : IntKind) : Bool := match k, l with
  | .i8, .i8 | .i16, .i16 | .i32, .i32 | .i64, .i64 | .u8, .u8 | .u16, .u16 | .u32, .u32 | .u64, .u64 => true
  | _, _ => false
omit [Gl] in
theorem ikEq_eq {k l : IntKind} (h : ikEq k l = true) : k = l := by cases k <;> cases l <;> first | rfl | cases h
def neB (a : Int) : Bool := !(eqI a 0)
def geB (a : Int) : Bool := leI 0 a
def yBin (P : Program) (op : BinOp) (t : TypeId) (x y : V) : RS :=
  match x, y with
  | .int k a, .int k' b => match op with
    | .shl => .tst (geB b) (pureE (shift .shl k a b))
    | .shr => .tst (geB b) (pureE (shift .shr k a b))
    | .quo => if ikEq k k' then .tst (neB b) (pureE (bin .quo k a b)) else .bad
    | .rem => if ikEq k k' then .tst (neB b) (pureE (bin .rem k a b)) else .bad
    | op => if ikEq k k' then okE (bin op k a b) else .bad
  | .bool a, .bool b => match P.underlying t with
    | some .bool => match op with
      | .eql => okE (.bool (a == b))
      | .neq => okE (.bool (!(a == b)))
      | _ => .bad
    | _ => .bad
  | v, v' => if v.isAgg && v'.isAgg && lay P 12 t && eqT P 12 t v v' && v.fits (shp P 12 t) && v'.fits (shp P 12 t) && !P.eqGuardType P.depth t then
      match op with
      | .eql => okE (.bool (eqV v v'))
      | .neq => okE (.bool (!eqV v v'))
      | _ => .bad
    else .bad
def yUn (op : UnOp) (x : V) : RS :=
  match op, x with
  | .not, .bool b => okE (.bool !b)
  | .neg, .int k a => okE (unary .neg k a)
  | .xor, .int k a => okE (unary .xor k a)
  | _, _ => .bad
def yConv (P : Program) (src dst : TypeId) (x : V) : RS :=
  match x, P.underlying dst, P.underlying src with
  | .int _ a, some (.int k), some _ => okE (.int k (wrpI k a))
  | _, _, _ => .bad
def yField (P : Program) (st : TypeId) (x : V) (f : Nat) : RS :=
  match P.underlying st with
  | some (.struct fs) => match fs[f]? with
    | some fd => match P.info? fd.type with
      | some i => if i.size = 0 then .bad else match x with
        | .ptr id p s => match s.fld f with
          | some (d, s') => if d = fd.offset then okE (.ptr id (p ++ [.fld f]) s') else .bad
          | none => .bad
        | .ref u s c => match s.fld f with
          | some (d, s') => if d = fd.offset then okE (.ref u s' (c.fld f)) else .bad
          | none => .bad
        | _ => .bad
      | none => .bad
    | none => .bad
  | _ => .bad
def ixB (j : Int) (n : Nat) : Bool := leI 0 j && ltI j (.ofNat n)
def yIndex (P : Program) (t : TypeId) (x ix : V) (m : Mem) : RS :=
  match ix with
  | .int k j => match P.underlying t with
    | some (.array len el) => match P.info? el with
      | some i => match x with
        | .ptr id p (.arr len' e) => if len' = len ∧ i.size = e.size then .tst (ixB j len) (pureE (.ptr id (p ++ [.idx j.toNat]) e)) else .bad
        | .ref u (.arr len' e) c => if len' = len ∧ i.size = e.size then .tst (ixB j len) (pureE (.ref u e (c.step (.idx j.toNat)))) else .bad
        | _ => .bad
      | none => .bad
    | some (.slice el) => match P.info? el with
      | some i => match x with
        | .row id e len => match m id with
          | some blk => if i.size = e.size ∧ blk.alive = true then .tst (ixB j len) ⟨.ptr id [.idx j.toNat] e, [], [], [id]⟩ else .bad
          | none => .bad
        | .sl id p e off len cap => if i.size = e.size then .tst (ixB j len) (pureE (.ptr id (p ++ [.idx (off + j.toNat)]) e)) else .bad
        | .ro u clip e len f => if i.size = e.size then .tst (ixB j len) (pureE (.ref u e (f j.toNat))) else .bad
        | _ => .bad
      | none => .bad
    | _ => .bad
  | _ => .bad
def yLen (P : Program) (t : TypeId) (x : V) : RS :=
  match P.underlying t with
  | some (.slice _) => match x.len with
    | some k => okE (.int .i64 k)
    | none => .bad
  | some .string => match x with
    | .str s => okE (.int .i64 s.size)
    | _ => .bad
  | some (.array k _) => okE (.int .i64 k)
  | _ => .bad
def slB (l h : Int) (n : Nat) (mv : Option Int) : Bool := (leI 0 l && (leI l h && leI h (.ofNat n))) && match mv with
  | none => true
  | some m => leI h m && leI m (.ofNat n)
def ySl (P : Program) (el : TypeId) (x : V) (l : Int) (hi : Option V) (mv : Option Int) (m : Mem) : RS :=
  match P.info? el with
  | some i => match x with
    | .ro u clip e len f => if i.size = e.size then match V.bnd len hi with
      | some h => .tst (slB l h len mv) (pureE (.ro u (clipV clip len h mv) e (h.toNat - l.toNat) fun j => f (l.toNat + j)))
      | none => .bad
      else .bad
    | .row id e len => match m id with
      | some blk => if i.size = e.size ∧ blk.alive = true then match V.bnd len hi with
        | some h => .tst (slB l h len mv) ⟨.sl id [] e l.toNat (h.toNat - l.toNat) (subO l.toNat none mv), [], [], [id]⟩
        | none => .bad
        else .bad
      | none => .bad
    | .sl id p e off len cap => if i.size = e.size then match V.bnd len hi with
      | some h => .tst (slB l h len mv) (pureE (.sl id p e (off + l.toNat) (h.toNat - l.toNat) (subO l.toNat cap mv)))
      | none => .bad
      else .bad
    | .nils => match V.bnd (0 : Nat) hi with
      | some h => .tst (slB l h 0 mv) (pureE .nils)
      | none => .bad
    | _ => .bad
  | none => .bad
def ySla (P : Program) (N : Nat) (el : TypeId) (x : V) (l : Int) (hi : Option V) (mv : Option Int) : RS :=
  match P.info? el, V.bnd N hi with
  | some i, some h => match x with
    | .ptr id p (.arr N' e) => if N' = N ∧ i.size = e.size then .tst (slB l h N mv) (pureE (.sl id p e l.toNat (h.toNat - l.toNat) (subO l.toNat (some N) mv))) else .bad
    | .ref u (.arr N' e) (.arr N2 f) => if N' = N ∧ N2 = N ∧ i.size = e.size then .tst (slB l h N mv) (pureE (.ro u (clipV true N h mv) e (h.toNat - l.toNat) fun j => f (l.toNat + j))) else .bad
    | _ => .bad
  | _, _ => .bad
def ySlice (P : Program) (t : TypeId) (x : V) (lo hi mx : Option V) (m : Mem) : RS :=
  if (mx.isNone || hi.isSome) = true then match V.bnd 0 lo, V.mxb mx with
    | some l, some mv => match P.underlying t with
      | some (.slice el) => ySl P el x l hi mv m
      | some (.array N el) => ySla P N el x l hi mv
      | some .string => match x, mv with
        | .str s, none => match V.bnd s.size hi with
          | some h => .tst (slB l h s.size none) (pureE (.str (s.extract l.toNat h.toNat)))
          | none => .bad
        | _, _ => .bad
      | _ => .bad
    | _, _ => .bad
  else .bad
def opSame (x y : Operand) : Bool := match x, y with
  | .tmp a, .tmp b => Nat.beq a b
  | .const (.int _ a), .const (.int _ b) => decide (a = b)
  | _, _ => false
def mkB (a b : Int) : Bool := leI 0 a && (leI a b && leI b 16777216)
def yMake (P : Program) (t : TypeId) (same : Bool) (l c : V) (n : Nat) : RS :=
  match P.underlying t with
  | some (.slice et) => match zero? P et, P.info? et with
    | some (s, z), some i => if i.bytes ≤ 1048576 then match l, c with
      | .int _ a, .int _ b => .tst (mkB a b) (match same with
        | true => ⟨.sl n [] s 0 a.toNat (some b.toNat), [], [⟨.box et, .arr b.toNat s, .arr b.toNat fun _ => z⟩], []⟩
        | false => ⟨.row n s a.toNat, [], [⟨.row et, .arr a.toNat s, .arr a.toNat fun _ => z⟩], []⟩)
      | _, _ => .bad
      else .bad
    | _, _ => .bad
  | _ => .bad
def apB (a b : Nat) : Bool := Nat.ble (a + b) 134217728
def yApp (et : TypeId) (x : V) (s : Shape) (k : Nat) (f : Nat → V) (rd : List Nat) (m : Mem) (n : Nat) : RS :=
  match x with
  | .nils => .tst (apB 0 k) ⟨.row n s (0 + k), [], [⟨.row et, .arr (0 + k) s, .arr (0 + k) (appX 0 (fun _ => .unk) f)⟩], rd⟩
  | .row id s' len => match m id with
    | some blk => match blk.k, blk.v with
      | .row et', .arr n1 f0 => if s'.beq s = true ∧ et' = et ∧ Nat.blt id n = true then
          .tst (apB len k) ⟨.row n s (len + k), [(id, ⟨.dead, blk.sh, .unk⟩)], [⟨.row et, .arr (len + k) s, .arr (len + k) (appX len f0 f)⟩], rd⟩ else .bad
      | _, _ => .bad
    | none => .bad
  | .ro u true s' len f0 => if s'.beq s then .tst (apB len k && Nat.blt 0 k) ⟨.row n s (len + k), [], [⟨.row et, .arr (len + k) s, .arr (len + k) (appX len f0 f)⟩], rd⟩ else .bad
  | .sl id p s' off len (some cap) => match m id with
    | some blk => match blk.v.path p with
      | .arr N f0 => if blk.alive = true ∧ s'.beq s = true then
          if Nat.ble (len + k) cap = true then .tst (Nat.ble (off + len + k) N) ⟨.sl id p s' off (len + k) (some cap), [(id, ⟨blk.k, blk.sh, setX p (.arr N (cpX (off + len) k f0 f)) blk.v⟩)], [], rd⟩
          else .tst (apB len k && Nat.blt 0 k) ⟨.row n s (len + k), [], [⟨.row et, .arr (len + k) s, .arr (len + k) (appX len (fun i => f0 (off + i)) f)⟩], id :: rd⟩
        else .bad
      | _ => .bad
    | none => .bad
  | _ => .bad
def yAppend (P : Program) (t t' : TypeId) (x y : V) (m : Mem) (n : Nat) : RS :=
  if t' = t then match P.underlying t with
    | some (.slice et) => match zero? P et, P.info? et with
      | some (s, z), some i => if i.bytes ≤ 1048576 ∧ 0 < s.size then match srcW m s y with
        | some (s', k, f, rd) => if s'.beq s then yApp et x s k f rd m n else .bad
        | none => .bad
        else .bad
      | _, _ => .bad
    | _ => .bad
  else .bad
def yCopy (P : Program) (t : TypeId) (x y : V) (m : Mem) : RS :=
  match P.underlying t with
  | some (.slice et) => match P.info? et, x with
    | some i, .sl id p e off len cap => match m id with
      | some blk => match blk.v.path p, srcW m e y with
        | .arr N f0, some (e', k, f, rd) => if blk.alive = true ∧ e'.beq e = true ∧ i.size = e.size then
            .ok ⟨.int .i64 (min k len : Nat), [(id, ⟨blk.k, blk.sh, setX p (.arr N (cpX off (min k len) f0 f)) blk.v⟩)], [], rd⟩ else .bad
        | _, _ => .bad
      | none => .bad
    | _, _ => .bad
  | _ => .bad
def yCap (P : Program) (t : TypeId) (x : V) : RS :=
  match P.underlying t with
  | some (.slice _) => match x.cap with
    | some k => okE (.int .i64 k)
    | none => .bad
  | _ => .bad
def yMin (x y : V) : RS := match x, y with
  | .int k a, .int _ b => okE (minV k a b)
  | _, _ => .bad
def yIndexV (P : Program) (t : TypeId) (x ix : V) : RS :=
  match ix with
  | .int _ j => match P.underlying t, x with
    | some .string, .str s => .tst (ixB j s.size) (pureE (byteAt s j.toNat))
    | some (.array N el), .arr N' f => match tshape P el, P.underlying el with
      | some s, some _ => if N' = N then .tst (ixB j N && (f j.toNat).fits s) (pureE (f j.toNat)) else .bad
      | _, _ => .bad
    | _, _ => .bad
  | _ => .bad
def yFieldV (P : Program) (t : TypeId) (x : V) (k : Nat) : RS :=
  match P.underlying t, tshape P t with
  | some (.struct fs), some s => match fs[k]?, s.fld k with
    | some fd, some (d, s') => match tshape P fd.type, P.underlying fd.type with
      | some s2, some _ => if x.isAgg = true ∧ x.fits s = true ∧ d = fd.offset ∧ s2.beq s' = true then okE (x.fld k) else .bad
      | _, _ => .bad
    | _, _ => .bad
  | _, _ => .bad
def yConvS (P : Program) (src dst : TypeId) (x : V) (m : Mem) : RS :=
  match P.underlying src, P.underlying dst with
  | some .string, some .string => match x with
    | .str s => okE x
    | _ => .bad
  | some .string, some (.slice e) => match P.underlying e, x with
    | some (.int .u8), .str s => okE (.ro true false .sc s.size (byteAt s))
    | _, _ => .bad
  | some (.slice e), some .string => match P.underlying e with
    | some (.int .u8) => match srcV m x with
      | some (.sc, len, f, rd) => match u8s f len 0 with
        | some l => .ok ⟨.str (strOfNums l), [], [], rd⟩
        | none => .bad
      | _ => .bad
    | _ => .bad
  | some (.slice e), some (.slice _) => if dst = src then match P.underlying e, x with
    | some (.int .u8), .row id .sc len => match m id with
      | some blk => match blk.k, blk.v with
        | .row et, .arr n1 f => match u8s f len 0 with
          | some l => if Nat.blt 0 len then .ok ⟨.ro true false .sc len f, [(id, ⟨.dead, blk.sh, .unk⟩)], [], []⟩ else .bad
          | none => .bad
        | _, _ => .bad
      | none => .bad
    | _, _ => .bad
    else .bad
  | _, _ => .bad
def yArr (P : Program) (t : TypeId) (x : V) : RS :=
  match P.underlying t, x with
  | some (.array N el), .ro u clip e len f => .tst (Nat.blt 0 N && Nat.ble N len) (pureE (.ref u (.arr N e) (.arr N f)))
  | _, _ => .bad
def yBinS (P : Program) (op : BinOp) (t : TypeId) (x y : V) : RS :=
  match x, y with
  | .str a, .str b => match op with
    | .eql => okE (.bool (lbeq a.data.toList b.data.toList))
    | .neq => okE (.bool !(lbeq a.data.toList b.data.toList))
    | _ => .bad
  | x, .nilp => match P.underlying t, x.isNilp with
    | some (.pointer _), some b => match op with
      | .eql => okE (.bool b)
      | .neq => okE (.bool !b)
      | _ => .bad
    | _, _ => .bad
  | _, _ => .bad
end
end Go.Y
set_option linter.unusedVariables false
set_option linter.unusedSimpArgs false
namespace Go.Y
open Go.Ab Go.RowKit
noncomputable section
variable [Gl]

def yExtract (x : V) (k : Nat) : RS := match x with
  | .tup l => match l.nth k with
    | some v => okE v
    | none => .bad
  | _ => .bad
def yPick (c a b : V) : RS := match c with
  | .bool t => okE (V.ite t a b)
  | _ => .bad
def yBuiltin (P : Program) (b : Builtin) (ts : List TypeId) (args : List V) (m : Mem) (n : Nat) : RS :=
  match b, ts, args with
  | .len, [t], [x] => yLen P t x
  | .cap, [t], [x] => yCap P t x
  | .min, _, [x, y] => yMin x y
  | .append, [t, t'], [x, y] => yAppend P t t' x y m n
  | .copy, [t, _], [x, y] => yCopy P t x y m
  | _, _, _ => .bad
def yMk (P : Program) (t : TypeId) (l c : Operand) (x y : V) (n : Nat) : RS := yMake P t true x y n
def yBS (P : Program) (t : TypeId) (len : Nat) (ps : List (Nat × V)) (n : Nat) : RS := match len, ps with
  | 0, [] => match P.underlying t with
    | some (.slice et) => match zero? P et with
      | some (s, z) => .ok ⟨.row n s 0, [], [⟨.row et, .arr 0 s, .arr 0 fun _ => z⟩], []⟩
      | none => .bad
    | _ => .bad
  | len, ps => yBuildSlice P t len ps n
def isIntV : V → Bool
  | .int .. => true
  | _ => false
def yConvA (P : Program) (src dst : TypeId) (x : V) (m : Mem) : RS := @Bool.rec (fun _ => RS) (yConvS P src dst x m) (yConv P src dst x) (isIntV x)
def strB : V → V → Bool
  | .str _, _ => true
  | _, .nilp => true
  | _, _ => false
def yBinA (P : Program) (op : BinOp) (t : TypeId) (x y : V) : RS := @Bool.rec (fun _ => RS) (yBin P op t x y) (yBinS P op t x y) (strB x y)
def yMakeFunc (f : Fn) (a : List Operand) (caps : List V) : RS := match f, a with
  | .func f, [] => .tst (Nat.blt f 1073741824) (pureE (.fn f (mkL caps)))
  | _, _ => .bad

def yop1 (P : Program) (o : Op) (ρ : Operand → V) (m : Mem) (n : Nat) : RS :=
  match o with
  | .move x => okE (ρ x)
  | .assign x => okE (ρ x)
  | .pick c a b => yPick (ρ c) (ρ a) (ρ b)
  | .alloc t => yAlloc P t n
  | .box t x => yBox P t (ρ x) n
  | .build t ps => yBuild P t (ps.toList.map fun x => (x.1, ρ x.2))
  | .buildSlice t len ps => yBS P t len (ps.toList.map fun x => (x.1, ρ x.2)) n
  | .load t x => yLoad P t (ρ x) m
  | .store t a x => yStore P t (ρ a) (ρ x) m
  | .nilCheck x => yNil (ρ x)
  | .binOp op t x y _ => yBinA P op t (ρ x) (ρ y)
  | .unOp op _ x => yUn op (ρ x)
  | .convert src dst x => yConvA P src dst (ρ x) m
  | .fieldAddr st x f => yField P st (ρ x) f
  | .indexAddr t x ix => yIndex P t (ρ x) (ρ ix) m
  | .extract x k => yExtract (ρ x) k
  | .makeFunc f a cap => yMakeFunc f a.toList (cap.toList.map ρ)
  | .call ⟨.builtin b, args, ts⟩ => yBuiltin P b ts.toList (args.toList.map ρ) m n
  | .slice t x lo hi mx => ySlice P t (ρ x) (lo.map ρ) (hi.map ρ) (mx.map ρ) m
  | .makeSlice t l c => yMk P t l c (ρ l) (ρ c) n
  | .index t x ix => yIndexV P t (ρ x) (ρ ix)
  | .field t x k => yFieldV P t (ρ x) k
  | .sliceToArrayPointer t x => yArr P t (ρ x)
  | _ => .bad

omit [Gl] in
theorem okE_is {v : V} {e : Eff} (h : (okE v).is e) : e = pureE v := (show pureE v = e from h).symm
omit [Gl] in
theorem ite_is {c : Prop} [Decidable c] {r : RS} {e : Eff} (h : (if c then r else RS.bad).is e) : c ∧ r.is e := by
  by_cases hc : c
  · rw [if_pos hc] at h; exact ⟨hc, h⟩
  · rw [if_neg hc] at h; exact h.elim

section
variable {P : Program} {B : Nat} {o : Oper} {ρ : Operand → V} {m : Mem} {n : Nat} {e : Eff}

/-- What is written, or looked at, was there. -/
structure UpIn (m : Mem) (e : Eff) : Prop where
  up : ∀ x ∈ e.up, ∃ b, m x.1 = some b
  rd : ∀ id ∈ e.rd, ∃ b, m id = some b
omit [Gl] in
theorem UpIn.nil {v : V} {nw : List Blk} : UpIn m ⟨v, [], nw, []⟩ := ⟨(fun _ h => (by cases h)), (fun _ h => (by cases h))⟩
omit [Gl] in
theorem UpIn.rd1 {v : V} {id : Nat} {c : Blk} {nw : List Blk} (h : m id = some c) : UpIn m ⟨v, [], nw, [id]⟩ := ⟨(fun _ h => (by cases h)), fun x hx => by
  simp only [List.mem_singleton] at hx
  subst hx
  exact ⟨c, h⟩⟩
omit [Gl] in
theorem UpIn.one {v : V} {id : Nat} {b c : Blk} {nw : List Blk} (h : m id = some c) : UpIn m ⟨v, [(id, b)], nw, []⟩ := ⟨fun x hx => by
  simp only [List.mem_singleton] at hx
  subst hx
  exact ⟨c, h⟩, (fun _ h => (by cases h))⟩

theorem yAlloc_s {t : TypeId} (ho : o.op = .alloc t) (h : (yAlloc P t n).is e) : OpSem P B o ρ m n e ∧ UpIn m e := by
  unfold yAlloc at h
  split at h
  · rename_i s z hz
    cases (show _ = e from h)
    exact ⟨sem_alloc ho hz, UpIn.nil⟩
  · exact h.elim
theorem yBox_s {t : TypeId} {x : Operand} (ho : o.op = .box t x) (h : (yBox P t (ρ x) n).is e) : OpSem P B o ρ m n e ∧ UpIn m e := by
  unfold yBox at h
  split at h
  · obtain ⟨hc, h⟩ := ite_is h
    simp only [Bool.and_eq_true] at hc
    cases (show _ = e from h)
    exact ⟨sem_box ho hc.1 hc.2, UpIn.nil⟩
  · exact h.elim
theorem yBuild_s {t : TypeId} {ps : Array (Nat × Operand)} (ho : o.op = .build t ps) (h : (yBuild P t (ps.toList.map fun x => (x.1, ρ x.2))).is e) : OpSem P B o ρ m n e ∧ UpIn m e := by
  unfold yBuild at h
  simp only [bsetX_eq] at h
  split at h
  · rename_i s z st pl hz hpl
    obtain ⟨hc, h⟩ := ite_is h
    cases okE_is h
    exact ⟨sem_build ho hz hpl hc, UpIn.nil⟩
  · exact h.elim
theorem yBuildSlice_s {t : TypeId} {len : Nat} {ps : Array (Nat × Operand)} (ho : o.op = .buildSlice t len ps) (h : (yBuildSlice P t len (ps.toList.map fun x => (x.1, ρ x.2)) n).is e) : OpSem P B o ρ m n e ∧ UpIn m e := by
  unfold yBuildSlice at h
  simp only [bsetX_eq] at h
  split at h
  · rename_i et hu
    split at h
    · rename_i s z hz
      obtain ⟨hc, h⟩ := ite_is h
      simp only [Bool.and_eq_true, decide_eq_true_eq] at hc
      cases (show _ = e from h)
      exact ⟨sem_buildSlice ho hu hz hc.1.1 hc.1.2 hc.2, UpIn.nil⟩
    · exact h.elim
  · exact h.elim
theorem yLoad_s {t : TypeId} {x : Operand} (ho : o.op = .load t x) (h : (yLoad P t (ρ x) m).is e) : OpSem P B o ρ m n e ∧ UpIn m e := by
  unfold yLoad at h
  split at h
  · rename_i s d hs hd
    split at h
    · rename_i id p s' hx
      split at h
      · rename_i blk hm
        obtain ⟨hc, h⟩ := ite_is h
        simp only [Bool.and_eq_true] at hc
        cases (show _ = e from h)
        obtain rfl := Shape.eq_of_beq hc.2
        exact ⟨sem_load ho hx hm hc.1 hs hd, UpIn.rd1 hm⟩
      · exact h.elim
    · rename_i u s' c hx
      obtain ⟨hc, h⟩ := ite_is h
      cases okE_is h
      obtain rfl := Shape.eq_of_beq hc
      exact ⟨sem_load_ref ho hx hs hd, UpIn.nil⟩
    · exact h.elim
  · exact h.elim
theorem yStore_s {t : TypeId} {a x : Operand} (ho : o.op = .store t a x) (h : (yStore P t (ρ a) (ρ x) m).is e) : OpSem P B o ρ m n e ∧ UpIn m e := by
  unfold yStore at h
  simp only [setX_eq] at h
  split at h
  · rename_i s hs
    split at h
    · rename_i id p s' hx
      split at h
      · rename_i blk hm
        obtain ⟨hc, h⟩ := ite_is h
        simp only [Bool.and_eq_true] at hc
        cases (show _ = e from h)
        obtain rfl := Shape.eq_of_beq hc.1.1.2
        exact ⟨sem_store ho hx hm hc.1.1.1 hs hc.1.2 hc.2, UpIn.one hm⟩
      · exact h.elim
    · exact h.elim
  · exact h.elim
theorem yNil_s {x : Operand} (ho : o.op = .nilCheck x) (h : (yNil (ρ x)).is e) : OpSem P B o ρ m n e ∧ UpIn m e := by
  unfold yNil at h
  split at h
  · rename_i hx; cases okE_is h; exact ⟨sem_nilCheck ho (.inl ⟨_, _, _, hx⟩), UpIn.nil⟩
  · rename_i hx; cases okE_is h; exact ⟨sem_nilCheck ho (.inr (.inl ⟨_, _, _, hx⟩)), UpIn.nil⟩
  · rename_i f c hx
    obtain ⟨h1, rfl⟩ := (show _ ∧ _ from h)
    exact ⟨sem_nilCheck ho (.inr (.inr ⟨_, _, hx, by simpa [Nat.blt_eq] using h1⟩)), UpIn.nil⟩
  · exact h.elim
theorem yBin_s {op : BinOp} {t t' : TypeId} {x y : Operand} (ho : o.op = .binOp op t x y t') (h : (yBin P op t (ρ x) (ρ y)).is e) : OpSem P B o ρ m n e ∧ UpIn m e := by
  unfold yBin at h
  split at h
  · rename_i k a k' b hx hy
    split at h
    · obtain ⟨h1, rfl⟩ := (show _ ∧ _ from h); exact ⟨sem_shift ho (.inl rfl) hx hy (by simpa [geB, leI_eq] using h1), UpIn.nil⟩
    · obtain ⟨h1, rfl⟩ := (show _ ∧ _ from h); exact ⟨sem_shift ho (.inr rfl) hx hy (by simpa [geB, leI_eq] using h1), UpIn.nil⟩
    · obtain ⟨hk, h2⟩ := ite_is h
      clear h
      obtain rfl := ikEq_eq hk
      obtain ⟨h1, rfl⟩ := (show _ ∧ _ from h2); exact ⟨sem_bin ho hx hy (by simpa [neB, binOk, eqI_eq] using h1), UpIn.nil⟩
    · obtain ⟨hk, h2⟩ := ite_is h
      clear h
      obtain rfl := ikEq_eq hk
      obtain ⟨h1, rfl⟩ := (show _ ∧ _ from h2); exact ⟨sem_bin ho hx hy (by simpa [neB, binOk, eqI_eq] using h1), UpIn.nil⟩
    · rename_i h1 h2 h3 h4
      obtain ⟨hk, h5⟩ := ite_is h
      clear h
      obtain rfl := ikEq_eq hk
      cases okE_is h5
      refine ⟨sem_bin ho hx hy ?_, UpIn.nil⟩
      unfold binOk
      split
      · exact absurd rfl h3
      · exact absurd rfl h4
      · exact absurd rfl h1
      · exact absurd rfl h2
      · trivial
  · rename_i a b hx hy
    split at h
    · rename_i hu
      split at h
      · cases okE_is h; exact ⟨sem_eq_bool ho (.inl rfl) hx hy hu, UpIn.nil⟩
      · cases okE_is h; exact ⟨sem_eq_bool ho (.inr rfl) hx hy hu, UpIn.nil⟩
      · exact h.elim
    · exact h.elim
  · obtain ⟨hc, h⟩ := ite_is h
    simp only [Bool.and_eq_true, Bool.not_eq_true'] at hc
    obtain ⟨⟨⟨⟨⟨⟨c1, c2⟩, c3⟩, c4⟩, c5⟩, c6⟩, c7⟩ := hc
    split at h
    · cases okE_is h; exact ⟨sem_eq_agg ho (.inl rfl) c3 c4 c5 c6 c1 c2 c7, UpIn.nil⟩
    · cases okE_is h; exact ⟨sem_eq_agg ho (.inr rfl) c3 c4 c5 c6 c1 c2 c7, UpIn.nil⟩
    · exact h.elim
theorem yUn_s {op : UnOp} {t : TypeId} {x : Operand} (ho : o.op = .unOp op t x) (h : (yUn op (ρ x)).is e) : OpSem P B o ρ m n e ∧ UpIn m e := by
  unfold yUn at h
  split at h
  · rename_i b hx; cases okE_is h; exact ⟨sem_not ho hx, UpIn.nil⟩
  · rename_i k a hx; cases okE_is h; exact ⟨sem_unary ho (.inl rfl) hx, UpIn.nil⟩
  · rename_i k a hx; cases okE_is h; exact ⟨sem_unary ho (.inr rfl) hx, UpIn.nil⟩
  · exact h.elim
theorem yConv_s {src dst : TypeId} {x : Operand} (ho : o.op = .convert src dst x) (h : (yConv P src dst (ρ x)).is e) : OpSem P B o ρ m n e ∧ UpIn m e := by
  unfold yConv at h
  split at h
  · rename_i k0 a k d hx hd hs
    cases okE_is h; exact ⟨sem_conv ho hx hd (by rw [hs]; rfl), UpIn.nil⟩
  · exact h.elim
theorem yField_s {st : TypeId} {x : Operand} {f : Nat} (ho : o.op = .fieldAddr st x f) (h : (yField P st (ρ x) f).is e) : OpSem P B o ρ m n e ∧ UpIn m e := by
  unfold yField at h
  split at h
  · rename_i fs hu
    split at h
    · rename_i fd hf
      split at h
      · rename_i i hi
        split at h
        · exact h.elim
        · rename_i hz
          split at h
          · rename_i id p s hx
            split at h
            · rename_i d s' hs
              obtain ⟨hd, h5⟩ := ite_is h
              clear h
              subst hd
              cases okE_is h5; exact ⟨sem_fieldAddr ho hx hu hf hi hz hs, UpIn.nil⟩
            · exact h.elim
          · rename_i u s c hx
            split at h
            · rename_i d s' hs
              obtain ⟨hd, h5⟩ := ite_is h
              clear h
              subst hd
              cases okE_is h5; exact ⟨sem_fieldAddr_ref ho hx hu hf hi hz hs, UpIn.nil⟩
            · exact h.elim
          · exact h.elim
      · exact h.elim
    · exact h.elim
  · exact h.elim
theorem yIndex_s {t : TypeId} {x ix : Operand} (ho : o.op = .indexAddr t x ix) (h : (yIndex P t (ρ x) (ρ ix) m).is e) : OpSem P B o ρ m n e ∧ UpIn m e := by
  unfold yIndex at h
  split at h
  · rename_i k j hix
    split at h
    · rename_i len el hu
      split at h
      · rename_i i hi
        split at h
        · rename_i id p len' e' hx
          obtain ⟨⟨rfl, hz⟩, h⟩ := ite_is h
          obtain ⟨h1, rfl⟩ := (show _ ∧ _ from h)
          exact ⟨sem_indexAddr_array ho hx hix hu hi hz (by simpa [ixB, leI_eq, ltI_eq] using h1), UpIn.nil⟩
        · rename_i u len' e' c hx
          obtain ⟨⟨rfl, hz⟩, h⟩ := ite_is h
          obtain ⟨h1, rfl⟩ := (show _ ∧ _ from h)
          exact ⟨sem_indexAddr_ref ho hx hix hu hi hz (by simpa [ixB, leI_eq, ltI_eq] using h1), UpIn.nil⟩
        · exact h.elim
      · exact h.elim
    · rename_i el hu
      split at h
      · rename_i i hi
        split at h
        · rename_i id e' len hx
          split at h
          · rename_i blk hm
            obtain ⟨⟨hz, hal⟩, h⟩ := ite_is h
            obtain ⟨h1, rfl⟩ := (show _ ∧ _ from h)
            exact ⟨sem_indexAddr_row ho hx hix hm hal hu hi hz (by simpa [ixB, leI_eq, ltI_eq] using h1), UpIn.rd1 hm⟩
          · exact h.elim
        · rename_i id p e' off len cap hx
          obtain ⟨hz, h⟩ := ite_is h
          obtain ⟨h1, rfl⟩ := (show _ ∧ _ from h)
          exact ⟨sem_indexAddr_sl ho hx hix hu hi hz (by simpa [ixB, leI_eq, ltI_eq] using h1), UpIn.nil⟩
        · rename_i u clip e' len f hx
          obtain ⟨hz, h⟩ := ite_is h
          obtain ⟨h1, rfl⟩ := (show _ ∧ _ from h)
          exact ⟨sem_indexAddr_ro ho hx hix hu hi hz (by simpa [ixB, leI_eq, ltI_eq] using h1), UpIn.nil⟩
        · exact h.elim
      · exact h.elim
    · exact h.elim
  · exact h.elim
theorem yExtract_s {x : Operand} {k : Nat} (ho : o.op = .extract x k) (h : (yExtract (ρ x) k).is e) : OpSem P B o ρ m n e ∧ UpIn m e := by
  unfold yExtract at h
  split at h
  · rename_i l hx
    split at h
    · rename_i v hv
      cases okE_is h; exact ⟨sem_extract ho hx hv, UpIn.nil⟩
    · exact h.elim
  · exact h.elim
theorem yPick_s {c a b : Operand} (ho : o.op = .pick c a b) (h : (yPick (ρ c) (ρ a) (ρ b)).is e) : OpSem P B o ρ m n e ∧ UpIn m e := by
  unfold yPick at h
  split at h
  · rename_i t hc
    cases okE_is h; exact ⟨sem_pick ho hc, UpIn.nil⟩
  · exact h.elim
theorem yMakeFunc_s {f : Fn} {a cap : Array Operand} (ho : o.op = .makeFunc f a cap) (h : (yMakeFunc f a.toList (cap.toList.map ρ)).is e) : OpSem P B o ρ m n e ∧ UpIn m e := by
  unfold yMakeFunc at h
  split at h
  · rename_i f' ha
    obtain ⟨l⟩ := a
    obtain rfl : l = [] := by simpa using ha
    have h : Nat.blt f' 1073741824 = true ∧ _ := h
    obtain ⟨h1, rfl⟩ := h
    exact ⟨sem_makeFunc ho (by rw [Nat.blt_eq] at h1; exact h1), UpIn.nil⟩
  · exact h.elim
theorem yLen_s {t : TypeId} {x : Operand} (ho : o.op = .call ⟨.builtin .len, #[x], #[t]⟩) (h : (yLen P t (ρ x)).is e) : OpSem P B o ρ m n e ∧ UpIn m e := by
  unfold yLen at h
  split at h
  · rename_i e' hu
    split at h
    · rename_i k hk
      cases okE_is h; exact ⟨sem_len ho hk hu, UpIn.nil⟩
    · exact h.elim
  · rename_i hu
    split at h
    · rename_i s hs
      cases okE_is h; exact ⟨sem_len_str ho hs hu, UpIn.nil⟩
    · exact h.elim
  · rename_i k e' hu
    cases okE_is h; exact ⟨sem_len_arr ho hu, UpIn.nil⟩
  · exact h.elim
omit [Gl] in
theorem map_one {l : List Operand} {v : V} (h : l.map ρ = [v]) : ∃ x, l = [x] ∧ ρ x = v := by
  match l, h with
  | [x], h => exact ⟨x, rfl, by simpa using h⟩
omit [Gl] in
theorem map_two {l : List Operand} {v w : V} (h : l.map ρ = [v, w]) : ∃ x y, l = [x, y] ∧ ρ x = v ∧ ρ y = w := by
  match l, h with
  | [x, y], h => simp only [List.map_cons, List.map_nil, List.cons.injEq, and_true] at h; exact ⟨x, y, rfl, h.1, h.2⟩
omit [Gl] in
theorem arr_of {α : Type} {a : Array α} {l : List α} (h : a.toList = l) : a = ⟨l⟩ := by obtain ⟨k⟩ := a; exact congrArg Array.mk h
omit [Gl] in
theorem tst_is {c : Bool} {e' : Eff} (h : (RS.tst c e').is e) : c = true ∧ e' = e := h
theorem yCap_s {t : TypeId} {x : Operand} (ho : o.op = .call ⟨.builtin .cap, #[x], #[t]⟩) (h : (yCap P t (ρ x)).is e) : OpSem P B o ρ m n e ∧ UpIn m e := by
  unfold yCap at h
  split at h
  · rename_i e' hu
    split at h
    · rename_i k hk
      cases okE_is h; exact ⟨sem_cap ho hk hu, UpIn.nil⟩
    · exact h.elim
  · exact h.elim
theorem yMin_s {ts : Array TypeId} {x y : Operand} (ho : o.op = .call ⟨.builtin .min, #[x, y], ts⟩) (h : (yMin (ρ x) (ρ y)).is e) : OpSem P B o ρ m n e ∧ UpIn m e := by
  unfold yMin at h
  split at h
  · rename_i k a k' b hx hy
    cases okE_is h; exact ⟨sem_min ho hx hy, UpIn.nil⟩
  · exact h.elim
omit [Gl] in
theorem UpIn.rdL {v : V} {nw : List Blk} {rd : List Nat} (h : ∀ id ∈ rd, ∃ b, m id = some b) : UpIn m ⟨v, [], nw, rd⟩ := ⟨(fun _ h => (by cases h)), h⟩
omit [Gl] in
theorem UpIn.oneL {v : V} {id : Nat} {b c : Blk} {nw : List Blk} {rd : List Nat} (h1 : m id = some c) (h : ∀ id ∈ rd, ∃ b, m id = some b) : UpIn m ⟨v, [(id, b)], nw, rd⟩ := ⟨fun x hx => by
  simp only [List.mem_singleton] at hx
  subst hx
  exact ⟨c, h1⟩, h⟩
theorem yAppend_s {t t' : TypeId} {x y : Operand} (ho : o.op = .call ⟨.builtin .append, #[x, y], #[t, t']⟩) (h : (yAppend P t t' (ρ x) (ρ y) m n).is e) : OpSem P B o ρ m n e ∧ UpIn m e := by
  unfold yAppend at h
  obtain ⟨rfl, h⟩ := ite_is h
  split at h
  · rename_i et hu
    split at h
    · rename_i s z i hz hi
      obtain ⟨⟨hby, hpos⟩, h⟩ := ite_is h
      split at h
      · rename_i s' k f rd hy
        obtain ⟨hs, h⟩ := ite_is h
        obtain rfl := Shape.eq_of_beq hs
        have hrd := srcW_rd hy
        unfold yApp at h
        simp only [appX_eq, setX_eq, cpX_eq] at h
        split at h
        · rename_i hx
          obtain ⟨h1, rfl⟩ := tst_is h
          exact ⟨sem_append (old := none) ho hu hz hi hby hpos (.inl ⟨rfl, hx, rfl⟩) hy (by simpa [apB] using h1) (fun _ h => by cases h), UpIn.rdL hrd⟩
        · rename_i id s2 len hx
          split at h
          · rename_i blk hm
            split at h
            · rename_i et' n1 f0 hk hv
              obtain ⟨⟨hs2, rfl, hlt⟩, h⟩ := ite_is h
              obtain rfl := Shape.eq_of_beq hs2
              obtain ⟨h1, rfl⟩ := tst_is h
              exact ⟨sem_append (old := some (id, blk)) ho hu hz hi hby hpos (.inr ⟨id, blk, n1, rfl, hx, hm, hk, hv⟩) hy (by simpa [apB] using h1) (fun x hx => by cases hx; simpa using hlt), UpIn.oneL hm hrd⟩
            · exact h.elim
          · exact h.elim
        · rename_i u s2 len f0 hx
          obtain ⟨hs2, h⟩ := ite_is h
          obtain rfl := Shape.eq_of_beq hs2
          obtain ⟨h1, rfl⟩ := tst_is h
          simp only [Bool.and_eq_true, apB, Nat.ble_eq, Nat.blt_eq] at h1
          exact ⟨sem_append_ro ho hu hz hi hby hpos hx hy h1.1 h1.2, UpIn.rdL hrd⟩
        · rename_i id p s2 off len cap hx
          split at h
          · rename_i blk hm
            split at h
            · rename_i N f0 hv0
              obtain ⟨⟨ha, hs2⟩, h⟩ := ite_is h
              obtain rfl := Shape.eq_of_beq hs2
              by_cases hc : Nat.ble (len + k) cap = true
              · rw [if_pos hc] at h
                obtain ⟨h1, rfl⟩ := tst_is h
                obtain ⟨i', zv, hi', _, hsz, _, _⟩ := zero_of hz
                rw [hi] at hi'; cases hi'
                exact ⟨sem_append_sl ho hu hi hsz hx hm ha hv0 hy (Nat.le_of_ble_eq_true hc) (Nat.le_of_ble_eq_true h1), UpIn.oneL hm hrd⟩
              · rw [if_neg hc] at h
                obtain ⟨h1, rfl⟩ := tst_is h
                simp only [Bool.and_eq_true, apB, Nat.ble_eq, Nat.blt_eq] at h1
                rw [Nat.ble_eq] at hc
                exact ⟨sem_append_slg ho hu hz hi hby hpos hx hm ha hv0 hy h1.1 (by omega) h1.2, UpIn.rdL (by
                  intro i hi
                  rcases List.mem_cons.1 hi with rfl | hi
                  · exact ⟨_, hm⟩
                  · exact hrd i hi)⟩
            · exact h.elim
          · exact h.elim
        · exact h.elim
      · exact h.elim
    · exact h.elim
  · exact h.elim
theorem yCopy_s {t t' : TypeId} {x y : Operand} (ho : o.op = .call ⟨.builtin .copy, #[x, y], #[t, t']⟩) (h : (yCopy P t (ρ x) (ρ y) m).is e) : OpSem P B o ρ m n e ∧ UpIn m e := by
  unfold yCopy at h
  simp only [setX_eq, cpX_eq] at h
  split at h
  · rename_i et hu
    split at h
    · rename_i i id p e0 off len cap hi hx
      split at h
      · rename_i blk hm
        split at h
        · rename_i N f0 e' k f rd hv0 hy
          obtain ⟨⟨ha, he, hz⟩, h9⟩ := ite_is h
          clear h
          obtain rfl := Shape.eq_of_beq he
          cases (show _ = e from h9)
          exact ⟨sem_copy ho hx hm ha hv0 hy hu hi hz, UpIn.oneL hm (srcW_rd hy)⟩
        · exact h.elim
      · exact h.elim
    · exact h.elim
  · exact h.elim
theorem yBuiltin_s {b : Builtin} {args : Array Operand} {ts : Array TypeId} (ho : o.op = .call ⟨.builtin b, args, ts⟩) (h : (yBuiltin P b ts.toList (args.toList.map ρ) m n).is e) : OpSem P B o ρ m n e ∧ UpIn m e := by
  unfold yBuiltin at h
  split at h
  · rename_i t v hts hargs
    obtain ⟨x, hx, rfl⟩ := map_one hargs
    rw [arr_of hx, arr_of hts] at ho
    exact yLen_s ho h
  · rename_i t v hts hargs
    obtain ⟨x, hx, rfl⟩ := map_one hargs
    rw [arr_of hx, arr_of hts] at ho
    exact yCap_s ho h
  · rename_i v w hargs
    obtain ⟨x, y, hx, rfl, rfl⟩ := map_two hargs
    rw [arr_of hx] at ho
    exact yMin_s ho h
  · rename_i t t' v w hts hargs
    obtain ⟨x, y, hx, rfl, rfl⟩ := map_two hargs
    rw [arr_of hx, arr_of hts] at ho
    exact yAppend_s ho h
  · rename_i t t' v w hts hargs
    obtain ⟨x, y, hx, rfl, rfl⟩ := map_two hargs
    rw [arr_of hx, arr_of hts] at ho
    exact yCopy_s ho h
  · exact h.elim

omit [Gl] in
theorem slB_bds {lo hi mx : Option Operand} {l h : Int} {len : Nat} {mv : Option Int} (h1 : V.bnd 0 (lo.map ρ) = some l) (h2 : V.bnd len (hi.map ρ) = some h) (h3 : V.mxb (mx.map ρ) = some mv) (h4 : ((mx.map ρ).isNone || (hi.map ρ).isSome) = true) (hb : slB l h len mv = true) : Bds ρ lo hi mx len l h mv := by
  simp only [slB, leI_eq, Bool.and_eq_true, decide_eq_true_eq, Int.ofNat_eq_natCast] at hb
  refine ⟨h1, h2, h3, ?_, hb.1.1, hb.1.2.1, hb.1.2.2, ?_⟩
  · rintro rfl
    cases mx with
    | none => rfl
    | some _ => simp at h4
  · rintro m rfl
    simpa using hb.2
theorem ySlice_s {t : TypeId} {x : Operand} {lo hi mx : Option Operand} (ho : o.op = .slice t x lo hi mx) (h : (ySlice P t (ρ x) (lo.map ρ) (hi.map ρ) (mx.map ρ) m).is e) : OpSem P B o ρ m n e ∧ UpIn m e := by
  unfold ySlice at h
  obtain ⟨h4, h⟩ := ite_is h
  split at h
  · rename_i l mv h1 h3
    split at h
    · rename_i el hu
      unfold ySl at h
      split at h
      · rename_i i hi'
        split at h
        · rename_i u clip e' len f hx
          obtain ⟨hz, h⟩ := ite_is h
          split at h
          · rename_i hh h2
            obtain ⟨hb, rfl⟩ := tst_is h
            exact ⟨sem_slice_roM ho hx hu hi' hz (slB_bds h1 h2 h3 h4 hb), UpIn.nil⟩
          · exact h.elim
        · rename_i id e' len hx
          split at h
          · rename_i blk hm
            obtain ⟨⟨hz, ha⟩, h⟩ := ite_is h
            split at h
            · rename_i hh h2
              obtain ⟨hb, rfl⟩ := tst_is h
              exact ⟨sem_slice_row ho hx hm ha hu hi' hz (slB_bds h1 h2 h3 h4 hb), UpIn.rd1 hm⟩
            · exact h.elim
          · exact h.elim
        · rename_i id p e' off len cap hx
          obtain ⟨hz, h⟩ := ite_is h
          split at h
          · rename_i hh h2
            obtain ⟨hb, rfl⟩ := tst_is h
            exact ⟨sem_slice_sl ho hx hu hi' hz (slB_bds h1 h2 h3 h4 hb), UpIn.nil⟩
          · exact h.elim
        · rename_i hx
          split at h
          · rename_i hh h2
            obtain ⟨hb, rfl⟩ := tst_is h
            exact ⟨sem_slice_nils ho hx hu hi' (slB_bds h1 h2 h3 h4 hb), UpIn.nil⟩
          · exact h.elim
        · exact h.elim
      · exact h.elim
    · rename_i N el hu
      unfold ySla at h
      split at h
      · rename_i i hh hi' h2
        split at h
        · rename_i id p N' e' hx
          obtain ⟨⟨rfl, hz⟩, h⟩ := ite_is h
          obtain ⟨hb, rfl⟩ := tst_is h
          exact ⟨sem_slice_ptr ho hx hu hi' hz (slB_bds h1 h2 h3 h4 hb), UpIn.nil⟩
        · rename_i u N' e' N2 f hx
          obtain ⟨⟨rfl, rfl, hz⟩, h⟩ := ite_is h
          obtain ⟨hb, rfl⟩ := tst_is h
          exact ⟨sem_slice_ref ho hx hu hi' hz (slB_bds h1 h2 h3 h4 hb), UpIn.nil⟩
        · exact h.elim
      · exact h.elim
    · rename_i hu
      split at h
      · rename_i s hx
        split at h
        · rename_i hh h2
          obtain ⟨hb, rfl⟩ := tst_is h
          have hb' := slB_bds h1 h2 h3 h4 hb
          obtain rfl : mx = none := by
            cases mx with
            | none => rfl
            | some y =>
              simp only [Option.map_some] at h3
              cases hy : ρ y <;> rw [hy] at h3 <;> simp [V.mxb] at h3
          exact ⟨sem_slice_str ho hx hu hb', UpIn.nil⟩
        · exact h.elim
      · exact h.elim
    · exact h.elim
  · exact h.elim
theorem yMk_s {t : TypeId} {l c : Operand} (ho : o.op = .makeSlice t l c) (h : (yMk P t l c (ρ l) (ρ c) n).is e) : OpSem P B o ρ m n e ∧ UpIn m e := by
  unfold yMk yMake at h
  split at h
  · rename_i et hu
    split at h
    · rename_i s z i hz hi
      obtain ⟨hby, h⟩ := ite_is h
      split at h
      · rename_i k a k' b hl hc
        obtain ⟨hb, h⟩ := tst_is h
        simp only [mkB, leI_eq, Bool.and_eq_true, decide_eq_true_eq] at hb
        have e1 : ((a.toNat : Nat) : Int) = a := Int.toNat_of_nonneg hb.1
        have e2 : ((b.toNat : Nat) : Int) = b := Int.toNat_of_nonneg (by omega)
        rw [← e1] at hl
        rw [← e2] at hc
        split at h
        · subst h
          exact ⟨sem_makeSl ho hl hc hu hz hi hby (by omega) (by omega), UpIn.nil⟩
        · subst h
          exact ⟨sem_makeRow ho hl hc hu hz hi hby (by omega) (by omega), UpIn.nil⟩
      · exact h.elim
    · exact h.elim
  · exact h.elim
theorem yBS_s {t : TypeId} {len : Nat} {ps : Array (Nat × Operand)} (ho : o.op = .buildSlice t len ps) (h : (yBS P t len (ps.toList.map fun x => (x.1, ρ x.2)) n).is e) : OpSem P B o ρ m n e ∧ UpIn m e := by
  unfold yBS at h
  split at h
  · rename_i hps
    split at h
    · rename_i et hu
      split at h
      · rename_i s z hz
        cases (show _ = e from h)
        have : ps = #[] := by
          obtain ⟨l⟩ := ps
          have : l = [] := by simpa using hps
          rw [this]
        subst this
        exact ⟨sem_buildNone ho hu hz, UpIn.nil⟩
      · exact h.elim
    · exact h.elim
  · exact yBuildSlice_s ho h
theorem yIndexV_s {t : TypeId} {x ix : Operand} (ho : o.op = .index t x ix) (h : (yIndexV P t (ρ x) (ρ ix)).is e) : OpSem P B o ρ m n e ∧ UpIn m e := by
  unfold yIndexV at h
  split at h
  · rename_i k j hix
    split at h
    · rename_i s hu hx
      obtain ⟨hb, rfl⟩ := tst_is h
      exact ⟨sem_index_str ho hx hix hu (by simpa [ixB, leI_eq, ltI_eq] using hb), UpIn.nil⟩
    · rename_i N el N' f hu hx
      split at h
      · rename_i s d hs hd
        obtain ⟨rfl, h⟩ := ite_is h
        obtain ⟨hb, rfl⟩ := tst_is h
        simp only [ixB, leI_eq, ltI_eq, Bool.and_eq_true, decide_eq_true_eq, Int.ofNat_eq_natCast] at hb
        exact ⟨sem_index_arr ho hx hix hu hs hd hb.2 hb.1, UpIn.nil⟩
      · exact h.elim
    · exact h.elim
  · exact h.elim
theorem yFieldV_s {t : TypeId} {x : Operand} {k : Nat} (ho : o.op = .field t x k) (h : (yFieldV P t (ρ x) k).is e) : OpSem P B o ρ m n e ∧ UpIn m e := by
  unfold yFieldV at h
  split at h
  · rename_i fs s hu hs
    split at h
    · rename_i fd d s' hf hk
      split at h
      · rename_i s2 dd hs2 hd
        obtain ⟨⟨h1, h2, h3, h4⟩, h9⟩ := ite_is h
        clear h
        obtain rfl := Shape.eq_of_beq h4
        cases okE_is h9
        exact ⟨sem_field ho rfl h1 hu hf hs h2 hk h3 hs2 hd, UpIn.nil⟩
      · exact h.elim
    · exact h.elim
  · exact h.elim
theorem yConvS_s {src dst : TypeId} {x : Operand} (ho : o.op = .convert src dst x) (h : (yConvS P src dst (ρ x) m).is e) : OpSem P B o ρ m n e ∧ UpIn m e := by
  unfold yConvS at h
  split at h
  · rename_i hs hd
    split at h
    · rename_i s hx
      cases okE_is h
      refine ⟨OpSem.pure fun C M ρc _ _ hrel => ?_, UpIn.nil⟩
      have h0 := hrel x (by simp [ho, Op.operands])
      rw [hx] at h0
      have h0' : ρc x = .string s := h0
      exact ⟨.string s, by simp [execOp, ho, h0', convert, run_underlying hs, run_underlying hd], by rw [hx]; rfl⟩
    · exact h.elim
  · rename_i e' hs hd
    split at h
    · rename_i s he hx
      cases okE_is h
      exact ⟨sem_str_bytes ho hx hs hd he, UpIn.nil⟩
    · exact h.elim
  · rename_i e' hs hd
    split at h
    · rename_i he
      split at h
      · rename_i len f rd hx
        split at h
        · rename_i l hl
          cases (show _ = e from h)
          exact ⟨sem_bytes_str ho hx hl rfl hs he hd, UpIn.rdL (srcV_rd hx)⟩
        · exact h.elim
      · exact h.elim
    · exact h.elim
  · rename_i e' e2 hs hd
    obtain ⟨heq, h9⟩ := ite_is h
    clear h
    have h := h9
    clear h9
    subst heq
    split at h
    · rename_i id len he hx
      split at h
      · rename_i blk hm
        split at h
        · rename_i et n1 f hk hv
          split at h
          · rename_i l hl
            obtain ⟨hlt, h⟩ := ite_is h
            cases (show _ = e from h)
            exact ⟨sem_mark ho hx (by simpa using hlt) hm hk hv hs he rfl hl, UpIn.one hm⟩
          · exact h.elim
        · exact h.elim
      · exact h.elim
    · exact h.elim
  · exact h.elim
theorem yConvA_s {src dst : TypeId} {x : Operand} (ho : o.op = .convert src dst x) (h : (yConvA P src dst (ρ x) m).is e) : OpSem P B o ρ m n e ∧ UpIn m e := by
  unfold yConvA at h
  cases hi : isIntV (ρ x) <;> rw [hi] at h
  · exact yConvS_s ho h
  · exact yConv_s ho h
theorem yArr_s {t : TypeId} {x : Operand} (ho : o.op = .sliceToArrayPointer t x) (h : (yArr P t (ρ x)).is e) : OpSem P B o ρ m n e ∧ UpIn m e := by
  unfold yArr at h
  split at h
  · rename_i N el u clip e' len f hu hx
    obtain ⟨hb, rfl⟩ := tst_is h
    simp only [Bool.and_eq_true, Nat.blt_eq, Nat.ble_eq] at hb
    exact ⟨sem_arr_ro ho hx hu hb.1 hb.2, UpIn.nil⟩
  · exact h.elim
theorem yBinS_s {op : BinOp} {t t' : TypeId} {x y : Operand} (ho : o.op = .binOp op t x y t') (h : (yBinS P op t (ρ x) (ρ y)).is e) : OpSem P B o ρ m n e ∧ UpIn m e := by
  unfold yBinS at h
  split at h
  · rename_i a b hx hy
    split at h
    · cases okE_is h; exact ⟨sem_eq_str ho (.inl rfl) hx hy, UpIn.nil⟩
    · cases okE_is h; exact ⟨sem_eq_str ho (.inr rfl) hx hy, UpIn.nil⟩
    · exact h.elim
  · rename_i hy
    split at h
    · rename_i e' b hu hb
      split at h
      · cases okE_is h; exact ⟨sem_eq_nil ho (.inl rfl) hb hy hu, UpIn.nil⟩
      · cases okE_is h; exact ⟨sem_eq_nil ho (.inr rfl) hb hy hu, UpIn.nil⟩
      · exact h.elim
    · exact h.elim
  · exact h.elim
theorem yBinA_s {op : BinOp} {t t' : TypeId} {x y : Operand} (ho : o.op = .binOp op t x y t') (h : (yBinA P op t (ρ x) (ρ y)).is e) : OpSem P B o ρ m n e ∧ UpIn m e := by
  unfold yBinA at h
  cases hi : strB (ρ x) (ρ y) <;> rw [hi] at h
  · exact yBin_s ho h
  · exact yBinS_s ho h

theorem yop1_s (h : (yop1 P o.op ρ m n).is e) : OpSem P B o ρ m n e ∧ UpIn m e := by
  cases ho : o.op with
  | move x => rw [ho] at h; cases okE_is (show (okE (ρ x)).is e from h); exact ⟨sem_move (.inl ho), UpIn.nil⟩
  | assign x => rw [ho] at h; cases okE_is (show (okE (ρ x)).is e from h); exact ⟨sem_move (.inr ho), UpIn.nil⟩
  | pick c a b => rw [ho] at h; exact yPick_s ho h
  | alloc t => rw [ho] at h; exact yAlloc_s ho h
  | box t x => rw [ho] at h; exact yBox_s ho h
  | build t ps => rw [ho] at h; exact yBuild_s ho h
  | buildSlice t l ps => rw [ho] at h; exact yBS_s ho h
  | load t x => rw [ho] at h; exact yLoad_s ho h
  | store t a x => rw [ho] at h; exact yStore_s ho h
  | nilCheck x => rw [ho] at h; exact yNil_s ho h
  | binOp op t x y t1 => rw [ho] at h; exact yBinA_s ho h
  | unOp op t x => rw [ho] at h; exact yUn_s ho h
  | convert s d x => rw [ho] at h; exact yConvA_s ho h
  | fieldAddr t x i => rw [ho] at h; exact yField_s ho h
  | indexAddr t x i => rw [ho] at h; exact yIndex_s ho h
  | extract x k => rw [ho] at h; exact yExtract_s ho h
  | makeFunc f a c => rw [ho] at h; exact yMakeFunc_s ho h
  | slice t x lo hi mx => rw [ho] at h; exact ySlice_s ho h
  | makeSlice t l c => rw [ho] at h; exact yMk_s ho h
  | index t x ix => rw [ho] at h; exact yIndexV_s ho h
  | field t x k => rw [ho] at h; exact yFieldV_s ho h
  | sliceToArrayPointer t x => rw [ho] at h; exact yArr_s ho h
  | call c =>
    rw [ho] at h
    obtain ⟨ce, args, ts⟩ := c
    cases ce with
    | builtin b => exact yBuiltin_s ho h
    | _ => exact h.elim
  | _ => rw [ho] at h; exact h.elim
end
end
end Go.Y
