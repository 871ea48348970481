/- A run that the kernel carries out, over trees: what single operations do, and that the model does the same. No condition. -/
import Derived.Test.YtkjoldifiniliaaY1
set_option linter.unusedVariables false
set_option linter.unusedSimpArgs false
namespace Go.Y
open Go.Ab Go.RowKit
noncomputable section
variable [Gl]

def yExtract (x : V) (k : Nat) : RS := match x with
  | .tup l => match l.nth k with
    | some v => okE v
    | none => .bad
  | _ => .bad
def yPick (c a b : V) : RS := match c with
  | .bool t => okE (V.ite t a b)
  | _ => .bad
def yBuiltin (P : Program) (b : Builtin) (ts : List TypeId) (args : List V) (m : Mem) (n : Nat) : RS :=
  match b, ts, args with
  | .len, [t], [x] => yLen P t x
  | .cap, [t], [x] => yCap P t x
  | .min, _, [x, y] => yMin x y
  | .append, [t, t'], [x, y] => yAppend P t t' x y m n
  | .copy, [t, _], [x, y] => yCopy P t x y m
  | _, _, _ => .bad
def yMk (P : Program) (t : TypeId) (l c : Operand) (x y : V) (n : Nat) : RS := yMake P t (opSame l c) x y n
def yBS (P : Program) (t : TypeId) (len : Nat) (ps : List (Nat × V)) (n : Nat) : RS := match len, ps with
  | 0, [] => match P.underlying t with
    | some (.slice et) => match zero? P et with
      | some (s, z) => .ok ⟨.row n s 0, [], [⟨.row et, .arr 0 s, .arr 0 fun _ => z⟩], []⟩
      | none => .bad
    | _ => .bad
  | len, ps => yBuildSlice P t len ps n
def isIntV : V → Bool
  | .int .. => true
  | _ => false
def yConvA (P : Program) (src dst : TypeId) (x : V) (m : Mem) : RS := @Bool.rec (fun _ => RS) (yConvS P src dst x m) (yConv P src dst x) (isIntV x)
def strB : V → V → Bool
  | .str _, _ => true
  | _, .nilp => true
  | _, _ => false
def yBinA (P : Program) (op : BinOp) (t : TypeId) (x y : V) : RS := @Bool.rec (fun _ => RS) (yBin P op t x y) (yBinS P op t x y) (strB x y)
def yMakeFunc (f : Fn) (a : List Operand) (caps : List V) : RS := match f, a with
  | .func f, [] => okE (.fn f (mkL caps))
  | _, _ => .bad

def yop1 (P : Program) (o : Op) (ρ : Operand → V) (m : Mem) (n : Nat) : RS :=
  match o with
  | .move x => okE (ρ x)
  | .assign x => okE (ρ x)
  | .pick c a b => yPick (ρ c) (ρ a) (ρ b)
  | .alloc t => yAlloc P t n
  | .box t x => yBox P t (ρ x) n
  | .build t ps => yBuild P t (ps.toList.map fun x => (x.1, ρ x.2))
  | .buildSlice t len ps => yBS P t len (ps.toList.map fun x => (x.1, ρ x.2)) n
  | .load t x => yLoad P t (ρ x) m
  | .store t a x => yStore P t (ρ a) (ρ x) m
  | .nilCheck x => yNil (ρ x)
  | .binOp op t x y _ => yBinA P op t (ρ x) (ρ y)
  | .unOp op _ x => yUn op (ρ x)
  | .convert src dst x => yConvA P src dst (ρ x) m
  | .fieldAddr st x f => yField P st (ρ x) f
  | .indexAddr t x ix => yIndex P t (ρ x) (ρ ix) m
  | .extract x k => yExtract (ρ x) k
  | .makeFunc f a cap => yMakeFunc f a.toList (cap.toList.map ρ)
  | .call ⟨.builtin b, args, ts⟩ => yBuiltin P b ts.toList (args.toList.map ρ) m n
  | .slice t x lo hi mx => ySlice P t (ρ x) (lo.map ρ) (hi.map ρ) (mx.map ρ) m
  | .makeSlice t l c => yMk P t l c (ρ l) (ρ c) n
  | .index t x ix => yIndexV P t (ρ x) (ρ ix)
  | .field t x k => yFieldV P t (ρ x) k
  | .sliceToArrayPointer t x => yArr P t (ρ x)
  | _ => .bad

omit [Gl] in
theorem okE_is {v : V} {e : Eff} (h : (okE v).is e) : e = pureE v := (show pureE v = e from h).symm
omit [Gl] in
theorem ite_is {c : Prop} [Decidable c] {r : RS} {e : Eff} (h : (if c then r else RS.bad).is e) : c ∧ r.is e := by
  by_cases hc : c
  · rw [if_pos hc] at h; exact ⟨hc, h⟩
  · rw [if_neg hc] at h; exact h.elim

section
variable {P : Program} {B : Nat} {o : Oper} {ρ : Operand → V} {m : Mem} {n : Nat} {e : Eff}

/-- What is written, or looked at, was there. -/
structure UpIn (m : Mem) (e : Eff) : Prop where
  up : ∀ x ∈ e.up, ∃ b, m x.1 = some b
  rd : ∀ id ∈ e.rd, ∃ b, m id = some b
omit [Gl] in
theorem UpIn.nil {v : V} {nw : List Blk} : UpIn m ⟨v, [], nw, []⟩ := ⟨(fun _ h => nomatch h), (fun _ h => nomatch h)⟩
omit [Gl] in
theorem UpIn.rd1 {v : V} {id : Nat} {c : Blk} {nw : List Blk} (h : m id = some c) : UpIn m ⟨v, [], nw, [id]⟩ := ⟨(fun _ h => nomatch h), fun x hx => by
  simp only [List.mem_singleton] at hx
  subst hx
  exact ⟨c, h⟩⟩
omit [Gl] in
theorem UpIn.one {v : V} {id : Nat} {b c : Blk} {nw : List Blk} (h : m id = some c) : UpIn m ⟨v, [(id, b)], nw, []⟩ := ⟨fun x hx => by
  simp only [List.mem_singleton] at hx
  subst hx
  exact ⟨c, h⟩, (fun _ h => nomatch h)⟩

theorem yAlloc_s {t : TypeId} (ho : o.op = .alloc t) (h : (yAlloc P t n).is e) : OpSem P B o ρ m n e ∧ UpIn m e := by
  unfold yAlloc at h
  split at h
  · rename_i s z hz
    cases (show _ = e from h)
    exact ⟨sem_alloc ho hz, UpIn.nil⟩
  · exact h.elim
theorem yBox_s {t : TypeId} {x : Operand} (ho : o.op = .box t x) (h : (yBox P t (ρ x) n).is e) : OpSem P B o ρ m n e ∧ UpIn m e := by
  unfold yBox at h
  split at h
  · obtain ⟨hc, h⟩ := ite_is h
    simp only [Bool.and_eq_true] at hc
    cases (show _ = e from h)
    exact ⟨sem_box ho hc.1 hc.2, UpIn.nil⟩
  · exact h.elim
theorem yBuild_s {t : TypeId} {ps : Array (Nat × Operand)} (ho : o.op = .build t ps) (h : (yBuild P t (ps.toList.map fun x => (x.1, ρ x.2))).is e) : OpSem P B o ρ m n e ∧ UpIn m e := by
  unfold yBuild at h
  simp only [bsetX_eq] at h
  split at h
  · rename_i s z st pl hz hpl
    obtain ⟨hc, h⟩ := ite_is h
    cases okE_is h
    exact ⟨sem_build ho hz hpl hc, UpIn.nil⟩
  · exact h.elim
theorem yBuildSlice_s {t : TypeId} {len : Nat} {ps : Array (Nat × Operand)} (ho : o.op = .buildSlice t len ps) (h : (yBuildSlice P t len (ps.toList.map fun x => (x.1, ρ x.2)) n).is e) : OpSem P B o ρ m n e ∧ UpIn m e := by
  unfold yBuildSlice at h
  simp only [bsetX_eq] at h
  split at h
  · rename_i et hu
    split at h
    · rename_i s z hz
      obtain ⟨hc, h⟩ := ite_is h
      simp only [Bool.and_eq_true, decide_eq_true_eq] at hc
      cases (show _ = e from h)
      exact ⟨sem_buildSlice ho hu hz hc.1.1 hc.1.2 hc.2, UpIn.nil⟩
    · exact h.elim
  · exact h.elim
theorem yLoad_s {t : TypeId} {x : Operand} (ho : o.op = .load t x) (h : (yLoad P t (ρ x) m).is e) : OpSem P B o ρ m n e ∧ UpIn m e := by
  unfold yLoad at h
  split at h
  · rename_i s d hs hd
    split at h
    · rename_i id p s' hx
      split at h
      · rename_i blk hm
        obtain ⟨hc, h⟩ := ite_is h
        simp only [Bool.and_eq_true] at hc
        cases (show _ = e from h)
        obtain rfl := Shape.eq_of_beq hc.2
        exact ⟨sem_load ho hx hm hc.1 hs hd, UpIn.rd1 hm⟩
      · exact h.elim
    · rename_i u s' c hx
      obtain ⟨hc, h⟩ := ite_is h
      cases okE_is h
      obtain rfl := Shape.eq_of_beq hc
      exact ⟨sem_load_ref ho hx hs hd, UpIn.nil⟩
    · exact h.elim
  · exact h.elim
theorem yStore_s {t : TypeId} {a x : Operand} (ho : o.op = .store t a x) (h : (yStore P t (ρ a) (ρ x) m).is e) : OpSem P B o ρ m n e ∧ UpIn m e := by
  unfold yStore at h
  simp only [setX_eq] at h
  split at h
  · rename_i s hs
    split at h
    · rename_i id p s' hx
      split at h
      · rename_i blk hm
        obtain ⟨hc, h⟩ := ite_is h
        simp only [Bool.and_eq_true] at hc
        cases (show _ = e from h)
        obtain rfl := Shape.eq_of_beq hc.1.1.2
        exact ⟨sem_store ho hx hm hc.1.1.1 hs hc.1.2 hc.2, UpIn.one hm⟩
      · exact h.elim
    · exact h.elim
  · exact h.elim
theorem yNil_s {x : Operand} (ho : o.op = .nilCheck x) (h : (yNil (ρ x)).is e) : OpSem P B o ρ m n e ∧ UpIn m e := by
  unfold yNil at h
  split at h
  · rename_i hx; cases okE_is h; exact ⟨sem_nilCheck ho (.inl ⟨_, _, _, hx⟩), UpIn.nil⟩
  · rename_i hx; cases okE_is h; exact ⟨sem_nilCheck ho (.inr (.inl ⟨_, _, _, hx⟩)), UpIn.nil⟩
  · rename_i hx; cases okE_is h; exact ⟨sem_nilCheck ho (.inr (.inr ⟨_, _, hx⟩)), UpIn.nil⟩
  · exact h.elim
theorem yBin_s {op : BinOp} {t t' : TypeId} {x y : Operand} (ho : o.op = .binOp op t x y t') (h : (yBin P op t (ρ x) (ρ y)).is e) : OpSem P B o ρ m n e ∧ UpIn m e := by
  unfold yBin at h
  split at h
  · rename_i k a k' b hx hy
    split at h
    · obtain ⟨h1, rfl⟩ := (show _ ∧ _ from h); exact ⟨sem_shift ho (.inl rfl) hx hy (by simpa [geB, leI_eq] using h1), UpIn.nil⟩
    · obtain ⟨h1, rfl⟩ := (show _ ∧ _ from h); exact ⟨sem_shift ho (.inr rfl) hx hy (by simpa [geB, leI_eq] using h1), UpIn.nil⟩
    · obtain ⟨hk, h2⟩ := ite_is h
      clear h
      obtain rfl := ikEq_eq hk
      obtain ⟨h1, rfl⟩ := (show _ ∧ _ from h2); exact ⟨sem_bin ho hx hy (by simpa [neB, binOk, eqI_eq] using h1), UpIn.nil⟩
    · obtain ⟨hk, h2⟩ := ite_is h
      clear h
      obtain rfl := ikEq_eq hk
      obtain ⟨h1, rfl⟩ := (show _ ∧ _ from h2); exact ⟨sem_bin ho hx hy (by simpa [neB, binOk, eqI_eq] using h1), UpIn.nil⟩
    · rename_i h1 h2 h3 h4
      obtain ⟨hk, h5⟩ := ite_is h
      clear h
      obtain rfl := ikEq_eq hk
      cases okE_is h5
      refine ⟨sem_bin ho hx hy ?_, UpIn.nil⟩
      unfold binOk
      split
      · exact absurd rfl h3
      · exact absurd rfl h4
      · exact absurd rfl h1
      · exact absurd rfl h2
      · trivial
  · rename_i a b hx hy
    split at h
    · rename_i hu
      split at h
      · cases okE_is h; exact ⟨sem_eq_bool ho (.inl rfl) hx hy hu, UpIn.nil⟩
      · cases okE_is h; exact ⟨sem_eq_bool ho (.inr rfl) hx hy hu, UpIn.nil⟩
      · exact h.elim
    · exact h.elim
  · obtain ⟨hc, h⟩ := ite_is h
    simp only [Bool.and_eq_true, Bool.not_eq_true'] at hc
    obtain ⟨⟨⟨⟨⟨⟨c1, c2⟩, c3⟩, c4⟩, c5⟩, c6⟩, c7⟩ := hc
    split at h
    · cases okE_is h; exact ⟨sem_eq_agg ho (.inl rfl) c3 c4 c5 c6 c1 c2 c7, UpIn.nil⟩
    · cases okE_is h; exact ⟨sem_eq_agg ho (.inr rfl) c3 c4 c5 c6 c1 c2 c7, UpIn.nil⟩
    · exact h.elim
theorem yUn_s {op : UnOp} {t : TypeId} {x : Operand} (ho : o.op = .unOp op t x) (h : (yUn op (ρ x)).is e) : OpSem P B o ρ m n e ∧ UpIn m e := by
  unfold yUn at h
  split at h
  · rename_i b hx; cases okE_is h; exact ⟨sem_not ho hx, UpIn.nil⟩
  · rename_i k a hx; cases okE_is h; exact ⟨sem_unary ho (.inl rfl) hx, UpIn.nil⟩
  · rename_i k a hx; cases okE_is h; exact ⟨sem_unary ho (.inr rfl) hx, UpIn.nil⟩
  · exact h.elim
theorem yConv_s {src dst : TypeId} {x : Operand} (ho : o.op = .convert src dst x) (h : (yConv P src dst (ρ x)).is e) : OpSem P B o ρ m n e ∧ UpIn m e := by
  unfold yConv at h
  split at h
  · rename_i k0 a k d hx hd hs
    cases okE_is h; exact ⟨sem_conv ho hx hd (by rw [hs]; rfl), UpIn.nil⟩
  · exact h.elim
theorem yField_s {st : TypeId} {x : Operand} {f : Nat} (ho : o.op = .fieldAddr st x f) (h : (yField P st (ρ x) f).is e) : OpSem P B o ρ m n e ∧ UpIn m e := by
  unfold yField at h
  split at h
  · rename_i fs hu
    split at h
    · rename_i fd hf
      split at h
      · rename_i i hi
        split at h
        · exact h.elim
        · rename_i hz
          split at h
          · rename_i id p s hx
            split at h
            · rename_i d s' hs
              obtain ⟨hd, h5⟩ := ite_is h
              clear h
              subst hd
              cases okE_is h5; exact ⟨sem_fieldAddr ho hx hu hf hi hz hs, UpIn.nil⟩
            · exact h.elim
          · rename_i u s c hx
            split at h
            · rename_i d s' hs
              obtain ⟨hd, h5⟩ := ite_is h
              clear h
              subst hd
              cases okE_is h5; exact ⟨sem_fieldAddr_ref ho hx hu hf hi hz hs, UpIn.nil⟩
            · exact h.elim
          · exact h.elim
      · exact h.elim
    · exact h.elim
  · exact h.elim
theorem yIndex_s {t : TypeId} {x ix : Operand} (ho : o.op = .indexAddr t x ix) (h : (yIndex P t (ρ x) (ρ ix) m).is e) : OpSem P B o ρ m n e ∧ UpIn m e := by
  unfold yIndex at h
  split at h
  · rename_i k j hix
    split at h
    · rename_i len el hu
      split at h
      · rename_i i hi
        split at h
        · rename_i id p len' e' hx
          obtain ⟨⟨rfl, hz⟩, h⟩ := ite_is h
          obtain ⟨h1, rfl⟩ := (show _ ∧ _ from h)
          exact ⟨sem_indexAddr_array ho hx hix hu hi hz (by simpa [ixB, leI_eq, ltI_eq] using h1), UpIn.nil⟩
        · rename_i u len' e' c hx
          obtain ⟨⟨rfl, hz⟩, h⟩ := ite_is h
          obtain ⟨h1, rfl⟩ := (show _ ∧ _ from h)
          exact ⟨sem_indexAddr_ref ho hx hix hu hi hz (by simpa [ixB, leI_eq, ltI_eq] using h1), UpIn.nil⟩
        · exact h.elim
      · exact h.elim
    · rename_i el hu
      split at h
      · rename_i i hi
        split at h
        · rename_i id e' len hx
          split at h
          · rename_i blk hm
            obtain ⟨⟨hz, hal⟩, h⟩ := ite_is h
            obtain ⟨h1, rfl⟩ := (show _ ∧ _ from h)
            exact ⟨sem_indexAddr_row ho hx hix hm hal hu hi hz (by simpa [ixB, leI_eq, ltI_eq] using h1), UpIn.rd1 hm⟩
          · exact h.elim
        · rename_i id p e' off len cap hx
          obtain ⟨hz, h⟩ := ite_is h
          obtain ⟨h1, rfl⟩ := (show _ ∧ _ from h)
          exact ⟨sem_indexAddr_sl ho hx hix hu hi hz (by simpa [ixB, leI_eq, ltI_eq] using h1), UpIn.nil⟩
        · rename_i u clip e' len f hx
          obtain ⟨hz, h⟩ := ite_is h
          obtain ⟨h1, rfl⟩ := (show _ ∧ _ from h)
          exact ⟨sem_indexAddr_ro ho hx hix hu hi hz (by simpa [ixB, leI_eq, ltI_eq] using h1), UpIn.nil⟩
        · exact h.elim
      · exact h.elim
    · exact h.elim
  · exact h.elim
theorem yExtract_s {x : Operand} {k : Nat} (ho : o.op = .extract x k) (h : (yExtract (ρ x) k).is e) : OpSem P B o ρ m n e ∧ UpIn m e := by
  unfold yExtract at h
  split at h
  · rename_i l hx
    split at h
    · rename_i v hv
      cases okE_is h; exact ⟨sem_extract ho hx hv, UpIn.nil⟩
    · exact h.elim
  · exact h.elim
theorem yPick_s {c a b : Operand} (ho : o.op = .pick c a b) (h : (yPick (ρ c) (ρ a) (ρ b)).is e) : OpSem P B o ρ m n e ∧ UpIn m e := by
  unfold yPick at h
  split at h
  · rename_i t hc
    cases okE_is h; exact ⟨sem_pick ho hc, UpIn.nil⟩
  · exact h.elim
theorem yMakeFunc_s {f : Fn} {a cap : Array Operand} (ho : o.op = .makeFunc f a cap) (h : (yMakeFunc f a.toList (cap.toList.map ρ)).is e) : OpSem P B o ρ m n e ∧ UpIn m e := by
  unfold yMakeFunc at h
  split at h
  · rename_i f' ha
    obtain ⟨l⟩ := a
    obtain rfl : l = [] := by simpa using ha
    cases okE_is h; exact ⟨sem_makeFunc ho, UpIn.nil⟩
  · exact h.elim
theorem yLen_s {t : TypeId} {x : Operand} (ho : o.op = .call ⟨.builtin .len, #[x], #[t]⟩) (h : (yLen P t (ρ x)).is e) : OpSem P B o ρ m n e ∧ UpIn m e := by
  unfold yLen at h
  split at h
  · rename_i e' hu
    split at h
    · rename_i k hk
      cases okE_is h; exact ⟨sem_len ho hk hu, UpIn.nil⟩
    · exact h.elim
  · rename_i hu
    split at h
    · rename_i s hs
      cases okE_is h; exact ⟨sem_len_str ho hs hu, UpIn.nil⟩
    · exact h.elim
  · rename_i k e' hu
    cases okE_is h; exact ⟨sem_len_arr ho hu, UpIn.nil⟩
  · exact h.elim
omit [Gl] in
theorem map_one {l : List Operand} {v : V} (h : l.map ρ = [v]) : ∃ x, l = [x] ∧ ρ x = v := by
  match l, h with
  | [x], h => exact ⟨x, rfl, by simpa using h⟩
omit [Gl] in
theorem map_two {l : List Operand} {v w : V} (h : l.map ρ = [v, w]) : ∃ x y, l = [x, y] ∧ ρ x = v ∧ ρ y = w := by
  match l, h with
  | [x, y], h => simp only [List.map_cons, List.map_nil, List.cons.injEq, and_true] at h; exact ⟨x, y, rfl, h.1, h.2⟩
omit [Gl] in
theorem arr_of {α : Type} {a : Array α} {l : List α} (h : a.toList = l) : a = ⟨l⟩ := by obtain ⟨k⟩ := a; exact congrArg Array.mk h
omit [Gl] in
theorem tst_is {c : Bool} {e' : Eff} (h : (RS.tst c e').is e) : c = true ∧ e' = e := h
theorem yCap_s {t : TypeId} {x : Operand} (ho : o.op = .call ⟨.builtin .cap, #[x], #[t]⟩) (h : (yCap P t (ρ x)).is e) : OpSem P B o ρ m n e ∧ UpIn m e := by
  unfold yCap at h
  split at h
  · rename_i e' hu
    split at h
    · rename_i k hk
      cases okE_is h; exact ⟨sem_cap ho hk hu, UpIn.nil⟩
    · exact h.elim
  · exact h.elim
theorem yMin_s {ts : Array TypeId} {x y : Operand} (ho : o.op = .call ⟨.builtin .min, #[x, y], ts⟩) (h : (yMin (ρ x) (ρ y)).is e) : OpSem P B o ρ m n e ∧ UpIn m e := by
  unfold yMin at h
  split at h
  · rename_i k a k' b hx hy
    cases okE_is h; exact ⟨sem_min ho hx hy, UpIn.nil⟩
  · exact h.elim
omit [Gl] in
theorem UpIn.rdL {v : V} {nw : List Blk} {rd : List Nat} (h : ∀ id ∈ rd, ∃ b, m id = some b) : UpIn m ⟨v, [], nw, rd⟩ := ⟨(fun _ h => nomatch h), h⟩
omit [Gl] in
theorem UpIn.oneL {v : V} {id : Nat} {b c : Blk} {nw : List Blk} {rd : List Nat} (h1 : m id = some c) (h : ∀ id ∈ rd, ∃ b, m id = some b) : UpIn m ⟨v, [(id, b)], nw, rd⟩ := ⟨fun x hx => by
  simp only [List.mem_singleton] at hx
  subst hx
  exact ⟨c, h1⟩, h⟩
theorem yAppend_s {t t' : TypeId} {x y : Operand} (ho : o.op = .call ⟨.builtin .append, #[x, y], #[t, t']⟩) (h : (yAppend P t t' (ρ x) (ρ y) m n).is e) : OpSem P B o ρ m n e ∧ UpIn m e := by
  unfold yAppend at h
  obtain ⟨rfl, h⟩ := ite_is h
  split at h
  · rename_i et hu
    split at h
    · rename_i s z i hz hi
      obtain ⟨⟨hby, hpos⟩, h⟩ := ite_is h
      split at h
      · rename_i s' k f rd hy
        obtain ⟨hs, h⟩ := ite_is h
        obtain rfl := Shape.eq_of_beq hs
        have hrd := srcW_rd hy
        unfold yApp at h
        simp only [appX_eq] at h
        split at h
        · rename_i hx
          obtain ⟨h1, rfl⟩ := tst_is h
          exact ⟨sem_append (old := none) ho hu hz hi hby hpos (.inl ⟨rfl, hx, rfl⟩) hy (by simpa [apB] using h1) (fun _ h => by cases h), UpIn.rdL hrd⟩
        · rename_i id s2 len hx
          split at h
          · rename_i blk hm
            split at h
            · rename_i et' n1 f0 hk hv
              obtain ⟨⟨hs2, rfl, hlt⟩, h⟩ := ite_is h
              obtain rfl := Shape.eq_of_beq hs2
              obtain ⟨h1, rfl⟩ := tst_is h
              exact ⟨sem_append (old := some (id, blk)) ho hu hz hi hby hpos (.inr ⟨id, blk, n1, rfl, hx, hm, hk, hv⟩) hy (by simpa [apB] using h1) (fun x hx => by cases hx; simpa using hlt), UpIn.oneL hm hrd⟩
            · exact h.elim
          · exact h.elim
        · rename_i u s2 len f0 hx
          obtain ⟨hs2, h⟩ := ite_is h
          obtain rfl := Shape.eq_of_beq hs2
          obtain ⟨h1, rfl⟩ := tst_is h
          simp only [Bool.and_eq_true, apB, Nat.ble_eq, Nat.blt_eq] at h1
          exact ⟨sem_append_ro ho hu hz hi hby hpos hx hy h1.1 h1.2, UpIn.rdL hrd⟩
        · exact h.elim
      · exact h.elim
    · exact h.elim
  · exact h.elim
theorem yCopy_s {t t' : TypeId} {x y : Operand} (ho : o.op = .call ⟨.builtin .copy, #[x, y], #[t, t']⟩) (h : (yCopy P t (ρ x) (ρ y) m).is e) : OpSem P B o ρ m n e ∧ UpIn m e := by
  unfold yCopy at h
  simp only [setX_eq, cpX_eq] at h
  split at h
  · rename_i et hu
    split at h
    · rename_i i id p e0 off len cap hi hx
      split at h
      · rename_i blk hm
        split at h
        · rename_i N f0 e' k f rd hv0 hy
          obtain ⟨⟨ha, he, hz⟩, h9⟩ := ite_is h
          clear h
          obtain rfl := Shape.eq_of_beq he
          cases (show _ = e from h9)
          exact ⟨sem_copy ho hx hm ha hv0 hy hu hi hz, UpIn.oneL hm (srcW_rd hy)⟩
        · exact h.elim
      · exact h.elim
    · exact h.elim
  · exact h.elim
theorem yBuiltin_s {b : Builtin} {args : Array Operand} {ts : Array TypeId} (ho : o.op = .call ⟨.builtin b, args, ts⟩) (h : (yBuiltin P b ts.toList (args.toList.map ρ) m n).is e) : OpSem P B o ρ m n e ∧ UpIn m e := by
  unfold yBuiltin at h
  split at h
  · rename_i t v hts hargs
    obtain ⟨x, hx, rfl⟩ := map_one hargs
    rw [arr_of hx, arr_of hts] at ho
    exact yLen_s ho h
  · rename_i t v hts hargs
    obtain ⟨x, hx, rfl⟩ := map_one hargs
    rw [arr_of hx, arr_of hts] at ho
    exact yCap_s ho h
  · rename_i v w hargs
    obtain ⟨x, y, hx, rfl, rfl⟩ := map_two hargs
    rw [arr_of hx] at ho
    exact yMin_s ho h
  · rename_i t t' v w hts hargs
    obtain ⟨x, y, hx, rfl, rfl⟩ := map_two hargs
    rw [arr_of hx, arr_of hts] at ho
    exact yAppend_s ho h
  · rename_i t t' v w hts hargs
    obtain ⟨x, y, hx, rfl, rfl⟩ := map_two hargs
    rw [arr_of hx, arr_of hts] at ho
    exact yCopy_s ho h
  · exact h.elim

omit [Gl] in
theorem slB_bds {lo hi mx : Option Operand} {l h : Int} {len : Nat} {mv : Option Int} (h1 : V.bnd 0 (lo.map ρ) = some l) (h2 : V.bnd len (hi.map ρ) = some h) (h3 : V.mxb (mx.map ρ) = some mv) (h4 : ((mx.map ρ).isNone || (hi.map ρ).isSome) = true) (hb : slB l h len mv = true) : Bds ρ lo hi mx len l h mv := by
  simp only [slB, leI_eq, Bool.and_eq_true, decide_eq_true_eq, Int.ofNat_eq_natCast] at hb
  refine ⟨h1, h2, h3, ?_, hb.1.1, hb.1.2.1, hb.1.2.2, ?_⟩
  · rintro rfl
    cases mx with
    | none => rfl
    | some _ => simp at h4
  · rintro m rfl
    simpa using hb.2
theorem ySlice_s {t : TypeId} {x : Operand} {lo hi mx : Option Operand} (ho : o.op = .slice t x lo hi mx) (h : (ySlice P t (ρ x) (lo.map ρ) (hi.map ρ) (mx.map ρ) m).is e) : OpSem P B o ρ m n e ∧ UpIn m e := by
  unfold ySlice at h
  obtain ⟨h4, h⟩ := ite_is h
  split at h
  · rename_i l mv h1 h3
    split at h
    · rename_i el hu
      unfold ySl at h
      split at h
      · rename_i i hi'
        split at h
        · rename_i u clip e' len f hx
          obtain ⟨hz, h⟩ := ite_is h
          split at h
          · rename_i hh h2
            obtain ⟨hb, rfl⟩ := tst_is h
            exact ⟨sem_slice_roM ho hx hu hi' hz (slB_bds h1 h2 h3 h4 hb), UpIn.nil⟩
          · exact h.elim
        · rename_i id e' len hx
          split at h
          · rename_i blk hm
            obtain ⟨⟨hz, ha⟩, h⟩ := ite_is h
            split at h
            · rename_i hh h2
              obtain ⟨hb, rfl⟩ := tst_is h
              exact ⟨sem_slice_row ho hx hm ha hu hi' hz (slB_bds h1 h2 h3 h4 hb), UpIn.rd1 hm⟩
            · exact h.elim
          · exact h.elim
        · rename_i id p e' off len cap hx
          obtain ⟨hz, h⟩ := ite_is h
          split at h
          · rename_i hh h2
            obtain ⟨hb, rfl⟩ := tst_is h
            exact ⟨sem_slice_sl ho hx hu hi' hz (slB_bds h1 h2 h3 h4 hb), UpIn.nil⟩
          · exact h.elim
        · rename_i hx
          split at h
          · rename_i hh h2
            obtain ⟨hb, rfl⟩ := tst_is h
            have hb' := slB_bds h1 h2 h3 h4 hb
            obtain rfl : mx = none := by
              cases mx with
              | none => rfl
              | some y =>
                simp only [Option.map_some] at h3
                cases hy : ρ y <;> rw [hy] at h3 <;> simp [V.mxb] at h3
            exact ⟨sem_slice_nils ho hx hu hi' hb', UpIn.nil⟩
          · exact h.elim
        · exact h.elim
      · exact h.elim
    · rename_i N el hu
      unfold ySla at h
      split at h
      · rename_i i hh hi' h2
        split at h
        · rename_i id p N' e' hx
          obtain ⟨⟨rfl, hz⟩, h⟩ := ite_is h
          obtain ⟨hb, rfl⟩ := tst_is h
          exact ⟨sem_slice_ptr ho hx hu hi' hz (slB_bds h1 h2 h3 h4 hb), UpIn.nil⟩
        · rename_i u N' e' N2 f hx
          obtain ⟨⟨rfl, rfl, hz⟩, h⟩ := ite_is h
          obtain ⟨hb, rfl⟩ := tst_is h
          exact ⟨sem_slice_ref ho hx hu hi' hz (slB_bds h1 h2 h3 h4 hb), UpIn.nil⟩
        · exact h.elim
      · exact h.elim
    · rename_i hu
      split at h
      · rename_i s hx
        split at h
        · rename_i hh h2
          obtain ⟨hb, rfl⟩ := tst_is h
          have hb' := slB_bds h1 h2 h3 h4 hb
          obtain rfl : mx = none := by
            cases mx with
            | none => rfl
            | some y =>
              simp only [Option.map_some] at h3
              cases hy : ρ y <;> rw [hy] at h3 <;> simp [V.mxb] at h3
          exact ⟨sem_slice_str ho hx hu hb', UpIn.nil⟩
        · exact h.elim
      · exact h.elim
    · exact h.elim
  · exact h.elim
theorem yMk_s {t : TypeId} {l c : Operand} (ho : o.op = .makeSlice t l c) (h : (yMk P t l c (ρ l) (ρ c) n).is e) : OpSem P B o ρ m n e ∧ UpIn m e := by
  unfold yMk yMake at h
  split at h
  · rename_i et hu
    split at h
    · rename_i s z i hz hi
      obtain ⟨hby, h⟩ := ite_is h
      split at h
      · rename_i k a k' b hl hc
        obtain ⟨hb, h⟩ := tst_is h
        simp only [mkB, leI_eq, Bool.and_eq_true, decide_eq_true_eq] at hb
        have e1 : ((a.toNat : Nat) : Int) = a := Int.toNat_of_nonneg hb.1
        have e2 : ((b.toNat : Nat) : Int) = b := Int.toNat_of_nonneg (by omega)
        rw [← e1] at hl
        rw [← e2] at hc
        split at h
        · subst h
          exact ⟨sem_makeSl ho hl hc hu hz hi hby (by omega) (by omega), UpIn.nil⟩
        · subst h
          exact ⟨sem_makeRow ho hl hc hu hz hi hby (by omega) (by omega), UpIn.nil⟩
      · exact h.elim
    · exact h.elim
  · exact h.elim
theorem yBS_s {t : TypeId} {len : Nat} {ps : Array (Nat × Operand)} (ho : o.op = .buildSlice t len ps) (h : (yBS P t len (ps.toList.map fun x => (x.1, ρ x.2)) n).is e) : OpSem P B o ρ m n e ∧ UpIn m e := by
  unfold yBS at h
  split at h
  · rename_i hps
    split at h
    · rename_i et hu
      split at h
      · rename_i s z hz
        cases (show _ = e from h)
        have : ps = #[] := by
          obtain ⟨l⟩ := ps
          have : l = [] := by simpa using hps
          rw [this]
        subst this
        exact ⟨sem_buildNone ho hu hz, UpIn.nil⟩
      · exact h.elim
    · exact h.elim
  · exact yBuildSlice_s ho h
theorem yIndexV_s {t : TypeId} {x ix : Operand} (ho : o.op = .index t x ix) (h : (yIndexV P t (ρ x) (ρ ix)).is e) : OpSem P B o ρ m n e ∧ UpIn m e := by
  unfold yIndexV at h
  split at h
  · rename_i k j hix
    split at h
    · rename_i s hu hx
      obtain ⟨hb, rfl⟩ := tst_is h
      exact ⟨sem_index_str ho hx hix hu (by simpa [ixB, leI_eq, ltI_eq] using hb), UpIn.nil⟩
    · rename_i N el N' f hu hx
      split at h
      · rename_i s d hs hd
        obtain ⟨rfl, h⟩ := ite_is h
        obtain ⟨hb, rfl⟩ := tst_is h
        simp only [ixB, leI_eq, ltI_eq, Bool.and_eq_true, decide_eq_true_eq, Int.ofNat_eq_natCast] at hb
        exact ⟨sem_index_arr ho hx hix hu hs hd hb.2 hb.1, UpIn.nil⟩
      · exact h.elim
    · exact h.elim
  · exact h.elim
theorem yFieldV_s {t : TypeId} {x : Operand} {k : Nat} (ho : o.op = .field t x k) (h : (yFieldV P t (ρ x) k).is e) : OpSem P B o ρ m n e ∧ UpIn m e := by
  unfold yFieldV at h
  split at h
  · rename_i fs s hu hs
    split at h
    · rename_i fd d s' hf hk
      split at h
      · rename_i s2 dd hs2 hd
        obtain ⟨⟨h1, h2, h3, h4⟩, h9⟩ := ite_is h
        clear h
        obtain rfl := Shape.eq_of_beq h4
        cases okE_is h9
        exact ⟨sem_field ho rfl h1 hu hf hs h2 hk h3 hs2 hd, UpIn.nil⟩
      · exact h.elim
    · exact h.elim
  · exact h.elim
theorem yConvS_s {src dst : TypeId} {x : Operand} (ho : o.op = .convert src dst x) (h : (yConvS P src dst (ρ x) m).is e) : OpSem P B o ρ m n e ∧ UpIn m e := by
  unfold yConvS at h
  split at h
  · rename_i hs hd
    split at h
    · rename_i s hx
      cases okE_is h
      refine ⟨OpSem.pure fun C M ρc _ _ hrel => ?_, UpIn.nil⟩
      have h0 := hrel x (by simp [ho, Op.operands])
      rw [hx] at h0
      have h0' : ρc x = .string s := h0
      exact ⟨.string s, by simp [execOp, ho, h0', convert, run_underlying hs, run_underlying hd], by rw [hx]; rfl⟩
    · exact h.elim
  · rename_i e' hs hd
    split at h
    · rename_i s he hx
      cases okE_is h
      exact ⟨sem_str_bytes ho hx hs hd he, UpIn.nil⟩
    · exact h.elim
  · rename_i e' hs hd
    split at h
    · rename_i he
      split at h
      · rename_i len f rd hx
        split at h
        · rename_i l hl
          cases (show _ = e from h)
          exact ⟨sem_bytes_str ho hx hl rfl hs he hd, UpIn.rdL (srcV_rd hx)⟩
        · exact h.elim
      · exact h.elim
    · exact h.elim
  · rename_i e' e2 hs hd
    obtain ⟨heq, h9⟩ := ite_is h
    clear h
    have h := h9
    clear h9
    subst heq
    split at h
    · rename_i id len he hx
      split at h
      · rename_i blk hm
        split at h
        · rename_i et n1 f hk hv
          split at h
          · rename_i l hl
            obtain ⟨hlt, h⟩ := ite_is h
            cases (show _ = e from h)
            exact ⟨sem_mark ho hx (by simpa using hlt) hm hk hv hs he rfl hl, UpIn.one hm⟩
          · exact h.elim
        · exact h.elim
      · exact h.elim
    · exact h.elim
  · exact h.elim
theorem yConvA_s {src dst : TypeId} {x : Operand} (ho : o.op = .convert src dst x) (h : (yConvA P src dst (ρ x) m).is e) : OpSem P B o ρ m n e ∧ UpIn m e := by
  unfold yConvA at h
  cases hi : isIntV (ρ x) <;> rw [hi] at h
  · exact yConvS_s ho h
  · exact yConv_s ho h
theorem yArr_s {t : TypeId} {x : Operand} (ho : o.op = .sliceToArrayPointer t x) (h : (yArr P t (ρ x)).is e) : OpSem P B o ρ m n e ∧ UpIn m e := by
  unfold yArr at h
  split at h
  · rename_i N el u clip e' len f hu hx
    obtain ⟨hb, rfl⟩ := tst_is h
    simp only [Bool.and_eq_true, Nat.blt_eq, Nat.ble_eq] at hb
    exact ⟨sem_arr_ro ho hx hu hb.1 hb.2, UpIn.nil⟩
  · exact h.elim
theorem yBinS_s {op : BinOp} {t t' : TypeId} {x y : Operand} (ho : o.op = .binOp op t x y t') (h : (yBinS P op t (ρ x) (ρ y)).is e) : OpSem P B o ρ m n e ∧ UpIn m e := by
  unfold yBinS at h
  split at h
  · rename_i a b hx hy
    split at h
    · cases okE_is h; exact ⟨sem_eq_str ho (.inl rfl) hx hy, UpIn.nil⟩
    · cases okE_is h; exact ⟨sem_eq_str ho (.inr rfl) hx hy, UpIn.nil⟩
    · exact h.elim
  · rename_i hy
    split at h
    · rename_i e' b hu hb
      split at h
      · cases okE_is h; exact ⟨sem_eq_nil ho (.inl rfl) hb hy hu, UpIn.nil⟩
      · cases okE_is h; exact ⟨sem_eq_nil ho (.inr rfl) hb hy hu, UpIn.nil⟩
      · exact h.elim
    · exact h.elim
  · exact h.elim
theorem yBinA_s {op : BinOp} {t t' : TypeId} {x y : Operand} (ho : o.op = .binOp op t x y t') (h : (yBinA P op t (ρ x) (ρ y)).is e) : OpSem P B o ρ m n e ∧ UpIn m e := by
  unfold yBinA at h
  cases hi : strB (ρ x) (ρ y) <;> rw [hi] at h
  · exact yBin_s ho h
  · exact yBinS_s ho h

theorem yop1_s (h : (yop1 P o.op ρ m n).is e) : OpSem P B o ρ m n e ∧ UpIn m e := by
  cases ho : o.op with
  | move x => rw [ho] at h; cases okE_is (show (okE (ρ x)).is e from h); exact ⟨sem_move (.inl ho), UpIn.nil⟩
  | assign x => rw [ho] at h; cases okE_is (show (okE (ρ x)).is e from h); exact ⟨sem_move (.inr ho), UpIn.nil⟩
  | pick c a b => rw [ho] at h; exact yPick_s ho h
  | alloc t => rw [ho] at h; exact yAlloc_s ho h
  | box t x => rw [ho] at h; exact yBox_s ho h
  | build t ps => rw [ho] at h; exact yBuild_s ho h
  | buildSlice t l ps => rw [ho] at h; exact yBS_s ho h
  | load t x => rw [ho] at h; exact yLoad_s ho h
  | store t a x => rw [ho] at h; exact yStore_s ho h
  | nilCheck x => rw [ho] at h; exact yNil_s ho h
  | binOp op t x y t1 => rw [ho] at h; exact yBinA_s ho h
  | unOp op t x => rw [ho] at h; exact yUn_s ho h
  | convert s d x => rw [ho] at h; exact yConvA_s ho h
  | fieldAddr t x i => rw [ho] at h; exact yField_s ho h
  | indexAddr t x i => rw [ho] at h; exact yIndex_s ho h
  | extract x k => rw [ho] at h; exact yExtract_s ho h
  | makeFunc f a c => rw [ho] at h; exact yMakeFunc_s ho h
  | slice t x lo hi mx => rw [ho] at h; exact ySlice_s ho h
  | makeSlice t l c => rw [ho] at h; exact yMk_s ho h
  | index t x ix => rw [ho] at h; exact yIndexV_s ho h
  | field t x k => rw [ho] at h; exact yFieldV_s ho h
  | sliceToArrayPointer t x => rw [ho] at h; exact yArr_s ho h
  | call c =>
    rw [ho] at h
    obtain ⟨ce, args, ts⟩ := c
    cases ce with
    | builtin b => exact yBuiltin_s ho h
    | _ => exact h.elim
  | _ => rw [ho] at h; exact h.elim
end
end
end Go.Y
