/- The evaluator of single operations, and that it is right. No condition. -/
import Derived.Test.YtkjoldifiniliaaAb9
set_option linter.unusedVariables false
set_option linter.unusedSimpArgs false
namespace Go.Ab
open Go.RowKit

def Shape.beq : Shape → Shape → Bool
  | .sc, .sc => true
  | .nl, .nl => true
  | .cons a b, .cons c d => a.beq c && b.beq d
  | .arr n s, .arr m t => n == m && s.beq t
  | _, _ => false
theorem Shape.eq_of_beq : ∀ {a b : Shape}, a.beq b = true → a = b
  | .sc, b, h => by cases b <;> simp [Shape.beq] at h; rfl
  | .nl, b, h => by cases b <;> simp [Shape.beq] at h; rfl
  | .cons a c, b, h => by cases b <;> simp [Shape.beq] at h; rw [Shape.eq_of_beq h.1, Shape.eq_of_beq h.2]
  | .arr n s, b, h => by cases b <;> simp [Shape.beq] at h; rw [h.1, Shape.eq_of_beq h.2]

/-- A value, and what has to hold. -/
abbrev Res := Option (Prop × Eff)
def okP (e : Eff) : Res := some (True, e)

def aAlloc (P : Program) (t : TypeId) (n : Nat) : Res :=
  match zero? P t with
  | some (s, z) => okP ⟨.ptr n [] s, [], [⟨.box, s, z⟩], []⟩
  | none => none
def aBox (P : Program) (t : TypeId) (x : V) (n : Nat) : Res :=
  match tshape P t with
  | some s => if x.fits s && x.known then okP ⟨.ptr n [] s, [], [⟨.box, s, x⟩], []⟩ else none
  | none => none
def aBuild (P : Program) (t : TypeId) (ps : List (Nat × V)) : Res :=
  match zero? P t, places P t with
  | some (s, z), some (st, pl) => if bok s st pl ps then okP (pureE (bset st z ps)) else none
  | _, _ => none
def aBuildSlice (P : Program) (t : TypeId) (len : Nat) (ps : List (Nat × V)) (n : Nat) : Res :=
  match P.underlying t with
  | some (.slice et) => match zero? P et with
    | some (s, z) => if decide (len * s.size ≤ 2 ^ 24) && decide (len * s.size ≠ 0) && bok (.arr len s) false (fun i => some (i * s.size, s.size)) ps then
        okP ⟨.row n s len, [], [⟨.row et, .arr len s, bset false (.arr len fun _ => z) ps⟩], []⟩ else none
    | none => none
  | _ => none
def aLoad (P : Program) (t : TypeId) (x : V) (m : List Blk) : Res :=
  match tshape P t, P.underlying t with
  | some s, some _ => match x with
    | .ptr id p s' => match m[id]? with
      | some blk => if blk.alive && s'.beq s then okP ⟨blk.v.path p, [], [], [id]⟩ else none
      | none => none
    | .ref u s' c => if s'.beq s then okP (pureE c) else none
    | _ => none
  | _, _ => none
def aStore (P : Program) (t : TypeId) (a x : V) (m : List Blk) : Res :=
  match tshape P t with
  | some s => match a with
    | .ptr id p s' => match m[id]? with
      | some blk => if blk.alive && s'.beq s && x.fits s && x.known then okP ⟨.tup .nl, [(id, ⟨blk.k, blk.sh, V.set p x blk.v⟩)], [], []⟩ else none
      | none => none
    | _ => none
  | none => none
def aNil (x : V) : Res :=
  match x with
  | .ptr .. | .ref .. | .fn .. => okP (pureE x)
  | _ => none
def aBin (P : Program) (op : BinOp) (t : TypeId) (x y : V) : Res :=
  match x, y with
  | .int k a, .int k' b => match op with
    | .shl | .shr => some (0 ≤ b, pureE (shift op k a b))
    | _ => if k = k' then (match op with | .quo | .rem => some (b ≠ 0, pureE (bin op k a b)) | _ => okP (pureE (bin op k a b))) else none
  | .bool a, .bool b => match P.underlying t with
    | some .bool => match op with
      | .eql => okP (pureE (.bool (a == b)))
      | .neq => okP (pureE (.bool (!(a == b))))
      | _ => none
    | _ => none
  | v, v' => if v.isAgg && v'.isAgg && lay P 12 t && eqT P 12 t v v' && v.fits (shp P 12 t) && v'.fits (shp P 12 t) && !P.eqGuardType P.depth t then
      match op with
      | .eql => okP (pureE (.bool (eqV v v')))
      | .neq => okP (pureE (.bool (!eqV v v')))
      | _ => none
    else none
def aUn (op : UnOp) (x : V) : Res :=
  match op, x with
  | .not, .bool b => okP (pureE (.bool !b))
  | .neg, .int k a => okP (pureE (unary .neg k a))
  | .xor, .int k a => okP (pureE (unary .xor k a))
  | _, _ => none
def aConv (P : Program) (src dst : TypeId) (x : V) : Res :=
  match x, P.underlying dst, P.underlying src with
  | .int _ a, some (.int k), some _ => okP (pureE (.int k (k.wrap a)))
  | _, _, _ => none
def aField (P : Program) (st : TypeId) (x : V) (f : Nat) : Res :=
  match P.underlying st with
  | some (.struct fs) => match fs[f]? with
    | some fd => match P.info? fd.type with
      | some i => if i.size = 0 then none else match x with
        | .ptr id p s => match s.fld f with
          | some (d, s') => if d = fd.offset then okP (pureE (.ptr id (p ++ [.fld f]) s')) else none
          | none => none
        | .ref u s c => match s.fld f with
          | some (d, s') => if d = fd.offset then okP (pureE (.ref u s' (c.fld f))) else none
          | none => none
        | _ => none
      | none => none
    | none => none
  | _ => none
def aIndex (P : Program) (t : TypeId) (x ix : V) (m : List Blk) : Res :=
  match ix with
  | .int k j => match P.underlying t with
    | some (.array len el) => match P.info? el with
      | some i => match x with
        | .ptr id p (.arr len' e) => if len' = len ∧ i.size = e.size then some (0 ≤ j ∧ j < len, pureE (.ptr id (p ++ [.idx j.toNat]) e)) else none
        | .ref u (.arr len' e) c => if len' = len ∧ i.size = e.size then some (0 ≤ j ∧ j < len, pureE (.ref u e (c.step (.idx j.toNat)))) else none
        | _ => none
      | none => none
    | some (.slice el) => match P.info? el with
      | some i => match x with
        | .row id e len => match m[id]? with
          | some blk => if i.size = e.size ∧ blk.alive = true then some (0 ≤ j ∧ j < len, ⟨.ptr id [.idx j.toNat] e, [], [], [id]⟩) else none
          | none => none
        | .sl id p e off len cap => if i.size = e.size then some (0 ≤ j ∧ j < len, pureE (.ptr id (p ++ [.idx (off + j.toNat)]) e)) else none
        | .ro u clip e len f => if i.size = e.size then some (0 ≤ j ∧ j < len, pureE (.ref u e (f j.toNat))) else none
        | _ => none
      | none => none
    | _ => none
  | _ => none
def aLen (P : Program) (t : TypeId) (x : V) : Res :=
  match P.underlying t with
  | some (.slice _) => match x.len with
    | some k => okP (pureE (.int .i64 k))
    | none => none
  | some .string => match x with
    | .str s => okP (pureE (.int .i64 s.size))
    | _ => none
  | some (.array k _) => okP (pureE (.int .i64 k))
  | _ => none

def aSlice (P : Program) (t : TypeId) (x : V) (lo hi : Option V) : Res :=
  match P.underlying t with
  | some (.slice el) => match P.info? el with
    | some i => match x with
      | .ro u clip e len f => if i.size = e.size then match V.bnd 0 lo, V.bnd len hi with
        | some l, some h => some (0 ≤ l ∧ l ≤ h ∧ h ≤ len, pureE (.ro u (clip && decide (h = len)) e (h.toNat - l.toNat) fun j => f (l.toNat + j)))
        | _, _ => none
        else none
      | _ => none
    | none => none
  | _ => none

def aop (P : Program) (o : Op) (ρ : Operand → V) (m : List Blk) : Res :=
  match o with
  | .move x | .assign x => okP (pureE (ρ x))
  | .pick c a b => match ρ c with
    | .bool t => okP (pureE (V.ite t (ρ a) (ρ b)))
    | _ => none
  | .alloc t => aAlloc P t m.length
  | .box t x => aBox P t (ρ x) m.length
  | .build t ps => aBuild P t (ps.toList.map fun x => (x.1, ρ x.2))
  | .buildSlice t len ps => aBuildSlice P t len (ps.toList.map fun x => (x.1, ρ x.2)) m.length
  | .load t x => aLoad P t (ρ x) m
  | .store t a x => aStore P t (ρ a) (ρ x) m
  | .nilCheck x => aNil (ρ x)
  | .binOp op t x y _ => aBin P op t (ρ x) (ρ y)
  | .unOp op _ x => aUn op (ρ x)
  | .convert src dst x => aConv P src dst (ρ x)
  | .fieldAddr st x f => aField P st (ρ x) f
  | .indexAddr t x ix => aIndex P t (ρ x) (ρ ix) m
  | .extract x k => match ρ x with
    | .tup l => match l.nth k with
      | some v => okP (pureE v)
      | none => none
    | _ => none
  | .makeFunc (.func f) ⟨[]⟩ cap => okP (pureE (.fn f (mkL (cap.toList.map ρ))))
  | .call ⟨.builtin .len, ⟨[x]⟩, ⟨[t]⟩⟩ => aLen P t (ρ x)
  | .slice t x lo hi none => aSlice P t (ρ x) (lo.map ρ) (hi.map ρ)
  | _ => none

variable {P : Program} {B : Nat} {o : Oper} {ρ : Operand → V} {m : List Blk}

theorem aop_sound {p : Prop} {e : Eff} (h : aop P o.op ρ m = some (p, e)) (hp : p) : OpSem P B o ρ (fun id => m[id]?) m.length e := by
  unfold aop at h
  split at h
  case h_1 x ho | h_2 x ho =>
    simp only [okP, Option.some.injEq, Prod.mk.injEq] at h; obtain ⟨_, rfl⟩ := h
    first | exact sem_move (.inl ho) | exact sem_move (.inr ho)
  case h_3 c a b ho =>
    split at h
    · rename_i t ht
      simp only [okP, Option.some.injEq, Prod.mk.injEq] at h; obtain ⟨_, rfl⟩ := h
      exact sem_pick ho ht
    · cases h
  case h_4 t ho =>
    unfold aAlloc at h
    split at h
    · rename_i s z hz
      simp only [okP, Option.some.injEq, Prod.mk.injEq] at h; obtain ⟨_, rfl⟩ := h
      exact sem_alloc ho hz
    · cases h
  case h_5 t x ho =>
    unfold aBox at h
    split at h
    · rename_i s hs
      split at h
      · rename_i hc
        simp only [Bool.and_eq_true] at hc
        simp only [okP, Option.some.injEq, Prod.mk.injEq] at h; obtain ⟨_, rfl⟩ := h
        exact sem_box ho hc.1 hc.2
      · cases h
    · cases h
  case h_6 t ps ho =>
    unfold aBuild at h
    split at h
    · rename_i s z st pl hz hpl
      split at h
      · rename_i hc
        simp only [okP, Option.some.injEq, Prod.mk.injEq] at h; obtain ⟨_, rfl⟩ := h
        exact sem_build ho hz hpl hc
      · cases h
    · cases h
  case h_7 t len ps ho =>
    unfold aBuildSlice at h
    split at h
    · rename_i et hu
      split at h
      · rename_i s z hz
        split at h
        · rename_i hc
          simp only [Bool.and_eq_true, decide_eq_true_eq] at hc
          simp only [okP, Option.some.injEq, Prod.mk.injEq] at h; obtain ⟨_, rfl⟩ := h
          exact sem_buildSlice ho hu hz hc.1.1 hc.1.2 hc.2
        · cases h
      · cases h
    · cases h
  case h_8 t x ho =>
    unfold aLoad at h
    split at h
    · rename_i s d hs hd
      split at h
      · rename_i id p s' hx
        split at h
        · rename_i blk hm
          split at h
          · rename_i hc
            simp only [Bool.and_eq_true] at hc
            simp only [okP, Option.some.injEq, Prod.mk.injEq] at h; obtain ⟨_, rfl⟩ := h
            obtain rfl := Shape.eq_of_beq hc.2
            exact sem_load ho hx hm hc.1 hs hd
          · cases h
        · cases h
      · rename_i u s' c hx
        split at h
        · rename_i hc
          simp only [okP, Option.some.injEq, Prod.mk.injEq] at h; obtain ⟨_, rfl⟩ := h
          obtain rfl := Shape.eq_of_beq hc
          exact sem_load_ref ho hx hs hd
        · cases h
      · cases h
    · cases h
  case h_9 t a x ho =>
    unfold aStore at h
    split at h
    · rename_i s hs
      split at h
      · rename_i id p s' hx
        split at h
        · rename_i blk hm
          split at h
          · rename_i hc
            simp only [Bool.and_eq_true] at hc
            simp only [okP, Option.some.injEq, Prod.mk.injEq] at h; obtain ⟨_, rfl⟩ := h
            obtain rfl := Shape.eq_of_beq hc.1.1.2
            exact sem_store ho hx hm hc.1.1.1 hs hc.1.2 hc.2
          · cases h
        · cases h
      · cases h
    · cases h
  case h_10 x ho =>
    unfold aNil at h
    split at h <;> first
      | (cases h; done)
      | (rename_i hx
         simp only [okP, Option.some.injEq, Prod.mk.injEq] at h; obtain ⟨_, rfl⟩ := h
         first
           | exact sem_nilCheck ho (.inl ⟨_, _, _, hx⟩)
           | exact sem_nilCheck ho (.inr (.inl ⟨_, _, _, hx⟩))
           | exact sem_nilCheck ho (.inr (.inr ⟨_, _, hx⟩)))
  case h_11 op t x y t' ho =>
    unfold aBin at h
    split at h
    · rename_i k a k' b hx hy
      split at h
      · simp only [Option.some.injEq, Prod.mk.injEq] at h; obtain ⟨rfl, rfl⟩ := h
        exact sem_shift ho (.inl rfl) hx hy hp
      · simp only [Option.some.injEq, Prod.mk.injEq] at h; obtain ⟨rfl, rfl⟩ := h
        exact sem_shift ho (.inr rfl) hx hy hp
      · rename_i h1 h2
        split at h
        · rename_i hk
          subst hk
          split at h
          · simp only [Option.some.injEq, Prod.mk.injEq] at h; obtain ⟨rfl, rfl⟩ := h
            exact sem_bin ho hx hy hp
          · simp only [Option.some.injEq, Prod.mk.injEq] at h; obtain ⟨rfl, rfl⟩ := h
            exact sem_bin ho hx hy hp
          · rename_i h3 h4
            simp only [okP, Option.some.injEq, Prod.mk.injEq] at h; obtain ⟨_, rfl⟩ := h
            refine sem_bin ho hx hy ?_
            unfold binOk
            split
            · exact absurd rfl h3
            · exact absurd rfl h4
            · exact absurd rfl h1
            · exact absurd rfl h2
            · trivial
        · cases h
    · rename_i a b hx hy
      split at h
      · rename_i hu
        split at h
        · simp only [okP, Option.some.injEq, Prod.mk.injEq] at h; obtain ⟨_, rfl⟩ := h
          exact sem_eq_bool ho (.inl rfl) hx hy hu
        · simp only [okP, Option.some.injEq, Prod.mk.injEq] at h; obtain ⟨_, rfl⟩ := h
          exact sem_eq_bool ho (.inr rfl) hx hy hu
        · cases h
      · cases h
    · split at h
      · rename_i hc
        simp only [Bool.and_eq_true, Bool.not_eq_true'] at hc
        obtain ⟨⟨⟨⟨⟨⟨c1, c2⟩, c3⟩, c4⟩, c5⟩, c6⟩, c7⟩ := hc
        split at h
        · simp only [okP, Option.some.injEq, Prod.mk.injEq] at h; obtain ⟨_, rfl⟩ := h
          exact sem_eq_agg ho (.inl rfl) c3 c4 c5 c6 c1 c2 c7
        · simp only [okP, Option.some.injEq, Prod.mk.injEq] at h; obtain ⟨_, rfl⟩ := h
          exact sem_eq_agg ho (.inr rfl) c3 c4 c5 c6 c1 c2 c7
        · cases h
      · cases h
  case h_12 op t x ho =>
    unfold aUn at h
    split at h
    · rename_i b hx
      simp only [okP, Option.some.injEq, Prod.mk.injEq] at h; obtain ⟨_, rfl⟩ := h
      exact sem_not ho hx
    · rename_i k a hx
      simp only [okP, Option.some.injEq, Prod.mk.injEq] at h; obtain ⟨_, rfl⟩ := h
      exact sem_unary ho (.inl rfl) hx
    · rename_i k a hx
      simp only [okP, Option.some.injEq, Prod.mk.injEq] at h; obtain ⟨_, rfl⟩ := h
      exact sem_unary ho (.inr rfl) hx
    · cases h
  case h_13 src dst x ho =>
    unfold aConv at h
    split at h
    · rename_i k0 a k d hx hd hs
      simp only [okP, Option.some.injEq, Prod.mk.injEq] at h; obtain ⟨_, rfl⟩ := h
      exact sem_conv ho hx hd (by rw [hs]; rfl)
    · cases h
  case h_14 st x f ho =>
    unfold aField at h
    split at h
    · rename_i fs hu
      split at h
      · rename_i fd hf
        split at h
        · rename_i i hi
          split at h
          · cases h
          · rename_i hz
            split at h
            · rename_i id p s hx
              split at h
              · rename_i d s' hs
                split at h
                · rename_i hd
                  subst hd
                  simp only [okP, Option.some.injEq, Prod.mk.injEq] at h; obtain ⟨_, rfl⟩ := h
                  exact sem_fieldAddr ho hx hu hf hi hz hs
                · cases h
              · cases h
            · rename_i u s c hx
              split at h
              · rename_i d s' hs
                split at h
                · rename_i hd
                  subst hd
                  simp only [okP, Option.some.injEq, Prod.mk.injEq] at h; obtain ⟨_, rfl⟩ := h
                  exact sem_fieldAddr_ref ho hx hu hf hi hz hs
                · cases h
              · cases h
            · cases h
        · cases h
      · cases h
    · cases h
  case h_15 t x ix ho =>
    unfold aIndex at h
    split at h
    · rename_i k j hix
      split at h
      · rename_i len el hu
        split at h
        · rename_i i hi
          split at h
          · rename_i id p len' e hx
            split at h
            · rename_i hc
              obtain ⟨rfl, hz⟩ := hc
              simp only [Option.some.injEq, Prod.mk.injEq] at h; obtain ⟨rfl, rfl⟩ := h
              exact sem_indexAddr_array ho hx hix hu hi hz hp
            · cases h
          · rename_i u len' e c hx
            split at h
            · rename_i hc
              obtain ⟨rfl, hz⟩ := hc
              simp only [Option.some.injEq, Prod.mk.injEq] at h; obtain ⟨rfl, rfl⟩ := h
              exact sem_indexAddr_ref ho hx hix hu hi hz hp
            · cases h
          · cases h
        · cases h
      · rename_i el hu
        split at h
        · rename_i i hi
          split at h
          · rename_i id e len hx
            split at h
            · rename_i blk hm
              split at h
              · rename_i hc
                simp only [Option.some.injEq, Prod.mk.injEq] at h; obtain ⟨rfl, rfl⟩ := h
                exact sem_indexAddr_row ho hx hix hm hc.2 hu hi hc.1 hp
              · cases h
            · cases h
          · rename_i id p e off len cap hx
            split at h
            · rename_i hz
              simp only [Option.some.injEq, Prod.mk.injEq] at h; obtain ⟨rfl, rfl⟩ := h
              exact sem_indexAddr_sl ho hx hix hu hi hz hp
            · cases h
          · rename_i u clip e len f hx
            split at h
            · rename_i hz
              simp only [Option.some.injEq, Prod.mk.injEq] at h; obtain ⟨rfl, rfl⟩ := h
              exact sem_indexAddr_ro ho hx hix hu hi hz hp
            · cases h
          · cases h
        · cases h
      · cases h
    · cases h
  case h_16 x k ho =>
    split at h
    · rename_i l hx
      split at h
      · rename_i v hv
        simp only [okP, Option.some.injEq, Prod.mk.injEq] at h; obtain ⟨_, rfl⟩ := h
        exact sem_extract ho hx hv
      · cases h
    · cases h
  case h_17 f cap ho =>
    simp only [okP, Option.some.injEq, Prod.mk.injEq] at h; obtain ⟨_, rfl⟩ := h
    exact sem_makeFunc ho
  case h_18 x t ho =>
    unfold aLen at h
    split at h
    · rename_i e hu
      split at h
      · rename_i k hk
        simp only [okP, Option.some.injEq, Prod.mk.injEq] at h; obtain ⟨_, rfl⟩ := h
        exact sem_len ho hk hu
      · cases h
    · rename_i hu
      split at h
      · rename_i s hs
        simp only [okP, Option.some.injEq, Prod.mk.injEq] at h; obtain ⟨_, rfl⟩ := h
        exact sem_len_str ho hs hu
      · cases h
    · rename_i k e hu
      simp only [okP, Option.some.injEq, Prod.mk.injEq] at h; obtain ⟨_, rfl⟩ := h
      exact sem_len_arr ho hu
    · cases h
  case h_19 t x lo hi ho =>
    unfold aSlice at h
    split at h
    · rename_i el hu
      split at h
      · rename_i i hi
        split at h
        · rename_i u clip e len f hx
          split at h
          · rename_i hz
            split at h
            · rename_i l k hl hk
              simp only [Option.some.injEq, Prod.mk.injEq] at h; obtain ⟨rfl, rfl⟩ := h
              exact sem_slice_ro ho hx hu hi hz hl hk hp
            · cases h
          · cases h
        · cases h
      · cases h
    · cases h
  case h_20 => cases h

end Go.Ab
