/- Loops, for the simplifier; places in rows. No condition. -/
import Derived.Test.YtkjoldifiniliaaAb17
set_option linter.unusedVariables false
set_option linter.unusedSimpArgs false
namespace Go.Ab
open Go.RowKit
section
variable {P : Program} {G : Nat → V} {ct : FuncId → Option CSpec} {Q : Exit → St → Prop}

def loopQ (I : Nat → St → Prop) (n : Nat) (Q : Exit → St → Prop) (e : Exit) (S : St) : Prop := match e with
  | .normal => ∃ m T, m < n ∧ Ent S T ∧ I m T
  | e => Q e S
theorem loopQ_normal {I : Nat → St → Prop} {n : Nat} {S : St} : loopQ I n Q .normal S = ∃ m T, m < n ∧ Ent S T ∧ I m T := rfl
theorem loopQ_ret {I : Nat → St → Prop} {n : Nat} {S : St} : loopQ I n Q .ret S = Q .ret S := rfl
theorem loopQ_exit {I : Nat → St → Prop} {n i : Nat} {S : St} : loopQ I n Q (.exit i) S = Q (.exit i) S := rfl
theorem vc_loop {c : Code} {S : St} (I : Nat → St → Prop) (n : Nat) (T : St) (he : Ent S T) (hI : I n T) (hr : ∀ n S', I n S' → vc P G ct c (loopQ I n Q) S') : vc P G ct (.loop c) Q S :=
  ⟨I, ⟨n, T, he, hI⟩, hr⟩

theorem ent_mk {tm tm' : List V} {m m' : List Blk} : Ent ⟨tm, m⟩ ⟨tm', m'⟩ = (entT m'.length tm tm' ∧ entM m'.length m m') := rfl
theorem entT_nil {n : Nat} : entT n [] [] = True := rfl
theorem entT_cons {n : Nat} {v w : V} {l r : List V} : entT n (v :: l) (w :: r) = (entV n v w ∧ entT n l r) := rfl
theorem entV_unk {n : Nat} {v : V} : entV n v .unk = True := rfl
theorem entV_int {n : Nat} {v : V} {k : IntKind} {a : Int} : entV n v (.int k a) = (v.le (.int k a) ∧ v.bel n) := rfl
theorem entV_bool {n : Nat} {v : V} {a : Bool} : entV n v (.bool a) = (v.le (.bool a) ∧ v.bel n) := rfl
theorem entV_str {n : Nat} {v : V} {a : ByteArray} : entV n v (.str a) = (v.le (.str a) ∧ v.bel n) := rfl
theorem entV_cons {n : Nat} {v a b : V} : entV n v (.cons a b) = (v.le (.cons a b) ∧ v.bel n) := rfl
theorem entV_nl {n : Nat} {v : V} : entV n v .nl = (v.le .nl ∧ v.bel n) := rfl
theorem entV_arr {n k : Nat} {v : V} {f : Nat → V} : entV n v (.arr k f) = (v.le (.arr k f) ∧ v.bel n) := rfl
theorem entV_ptr {n id : Nat} {v : V} {p : List Step} {s : Shape} : entV n v (.ptr id p s) = (v.le (.ptr id p s) ∧ v.bel n) := rfl
theorem entV_row {n id k : Nat} {v : V} {e : Shape} : entV n v (.row id e k) = (v.le (.row id e k) ∧ v.bel n) := rfl
theorem entV_ro {n k : Nat} {v : V} {u c : Bool} {e : Shape} {f : Nat → V} : entV n v (.ro u c e k f) = (v.le (.ro u c e k f) ∧ v.bel n) := rfl
theorem entV_ref {n : Nat} {v : V} {u : Bool} {e : Shape} {c : V} : entV n v (.ref u e c) = (v.le (.ref u e c) ∧ v.bel n) := rfl
theorem entV_nils {n : Nat} {v : V} : entV n v .nils = (v.le .nils ∧ v.bel n) := rfl
theorem entV_fn {n : Nat} {v c : V} {f : FuncId} : entV n v (.fn f c) = (v.le (.fn f c) ∧ v.bel n) := rfl
theorem entV_tup {n : Nat} {v c : V} : entV n v (.tup c) = (v.le (.tup c) ∧ v.bel n) := rfl
theorem entM_nil {n : Nat} {l : List Blk} : entM n l [] = True := by cases l <;> rfl
theorem entM_cons {n : Nat} {b c : Blk} {l r : List Blk} : entM n (b :: l) (c :: r) = (entB n b c ∧ entM n l r) := rfl
theorem entB_box {n : Nat} {b : Blk} {sh : Shape} {v : V} : entB n b ⟨.box, sh, v⟩ = (b.k = .box ∧ b.sh = sh ∧ b.v.le v ∧ b.v.bel n) := rfl
theorem entB_row {n : Nat} {b : Blk} {t : TypeId} {sh : Shape} {v : V} : entB n b ⟨.row t, sh, v⟩ = (b.k = .row t ∧ b.sh = sh ∧ b.v.le v ∧ b.v.bel n) := rfl
theorem entB_dead {n : Nat} {b : Blk} {sh : Shape} {v : V} : entB n b ⟨.dead, sh, v⟩ = True := rfl

theorem ncast (n : Nat) : ((@OfNat.ofNat Nat n _ : Nat) : Int) = @OfNat.ofNat Int n _ := rfl

/-! ### Rows -/
/-- An element's size is that of its shape. -/
def ixAt (P : Program) (t : TypeId) (e : Shape) : Bool := match P.underlying t with
  | some (.slice el) => match P.info? el with
    | some i => i.size == e.size
    | none => false
  | _ => false
theorem ix_row {t : TypeId} {e : Shape} (h : ixAt P t e = true) {id len : Nat} {k : IntKind} {j : Int} {m : List Blk} {b : Blk} (hb : m[id]? = some b) (ha : b.alive = true) :
    aIndex P t (.row id e len) (.int k j) m = some (0 ≤ j ∧ j < len, ⟨.ptr id [.idx j.toNat] e, [], [], [id]⟩) := by
  unfold ixAt at h
  unfold aIndex
  split at h
  · rename_i el hu
    split at h
    · rename_i i hi
      have hz : i.size = e.size := by simpa using h
      simp only [hu, hi, hb, hz, ha, and_self, if_true]
    · cases h
  · cases h
theorem ix_ro {t : TypeId} {e : Shape} (h : ixAt P t e = true) (u clip : Bool) (len : Nat) (f : Nat → V) (k : IntKind) (j : Int) (m : List Blk) :
    aIndex P t (.ro u clip e len f) (.int k j) m = some (0 ≤ j ∧ j < len, pureE (.ref u e (f j.toNat))) := by
  unfold ixAt at h
  unfold aIndex
  split at h
  · rename_i el hu
    split at h
    · rename_i i hi
      have hz : i.size = e.size := by simpa using h
      simp only [hu, hi, hz, if_true]
    · cases h
  · cases h
theorem sc_ro {t : TypeId} {e : Shape} (h : ixAt P t e = true) (u clip : Bool) (len : Nat) (f : Nat → V) (lo hi : Option V) (l k : Int) (hl : V.bnd 0 lo = some l) (hk : V.bnd len hi = some k) :
    aSlice P t (.ro u clip e len f) lo hi = some (0 ≤ l ∧ l ≤ k ∧ k ≤ len, pureE (.ro u (clip && decide (k = len)) e (k.toNat - l.toNat) fun j => f (l.toNat + j))) := by
  unfold ixAt at h
  unfold aSlice
  split at h
  · rename_i el hu
    split at h
    · rename_i i hi
      have hz : i.size = e.size := by simpa using h
      simp only [hu, hi, hz, if_true, hl, hk]
    · cases h
  · cases h
theorem sc_hi {t : TypeId} {e : Shape} (h : ixAt P t e = true) (u clip : Bool) (len : Nat) (f : Nat → V) (kd : IntKind) (k : Int) :
    aSlice P t (.ro u clip e len f) none (some (.int kd k)) = some (0 ≤ k ∧ k ≤ len, pureE (.ro u (clip && decide (k = len)) e k.toNat f)) := by
  rw [sc_ro h u clip len f none (some (.int kd k)) 0 k rfl rfl]
  simp

theorem ix_sl {t : TypeId} {e : Shape} (h : ixAt P t e = true) (id : Nat) (p : List Step) (off len : Nat) (cap : Option Nat) (k : IntKind) (j : Int) (m : List Blk) :
    aIndex P t (.sl id p e off len cap) (.int k j) m = some (0 ≤ j ∧ j < len, pureE (.ptr id (p ++ [.idx (off + j.toNat)]) e)) := by
  unfold ixAt at h
  unfold aIndex
  split at h
  · rename_i el hu
    split at h
    · rename_i i hi
      have hz : i.size = e.size := by simpa using h
      simp only [hu, hi, hz, if_true]
    · cases h
  · cases h
/-- The same of an array. -/
def iaAt (P : Program) (t : TypeId) (n : Nat) (e : Shape) : Bool := match P.underlying t with
  | some (.array k el) => k == n && (match P.info? el with
    | some i => i.size == e.size
    | none => false)
  | _ => false
theorem ia_ptr {t : TypeId} {n : Nat} {e : Shape} (h : iaAt P t n e = true) (id : Nat) (p : List Step) (k : IntKind) (j : Int) (m : List Blk) :
    aIndex P t (.ptr id p (.arr n e)) (.int k j) m = some (0 ≤ j ∧ j < n, pureE (.ptr id (p ++ [.idx j.toNat]) e)) := by
  unfold iaAt at h
  unfold aIndex
  split at h
  · rename_i q el hu
    simp only [Bool.and_eq_true, beq_iff_eq] at h
    obtain ⟨rfl, h⟩ := h
    split at h
    · rename_i i hi
      have hz : i.size = e.size := by simpa using h
      simp only [hu, hi, hz, and_self, if_true]
    · cases h
  · cases h
theorem ia_ref {t : TypeId} {n : Nat} {e : Shape} (h : iaAt P t n e = true) (u : Bool) (c : V) (k : IntKind) (j : Int) (m : List Blk) :
    aIndex P t (.ref u (.arr n e) c) (.int k j) m = some (0 ≤ j ∧ j < n, pureE (.ref u e (c.step (.idx j.toNat)))) := by
  unfold iaAt at h
  unfold aIndex
  split at h
  · rename_i q el hu
    simp only [Bool.and_eq_true, beq_iff_eq] at h
    obtain ⟨rfl, h⟩ := h
    split at h
    · rename_i i hi
      have hz : i.size = e.size := by simpa using h
      simp only [hu, hi, hz, and_self, if_true]
    · cases h
  · cases h
/-- Lengths. -/
def slAt (P : Program) (t : TypeId) : Bool := match P.underlying t with | some (.slice _) => true | _ => false
def lenS (x : V) : Res := match x.len with
    | some k => okP (pureE (.int .i64 k))
    | none => none
theorem len_at {t : TypeId} (h : slAt P t = true) (x : V) : aLen P t x = lenS x := by
  unfold slAt at h
  unfold aLen lenS
  split at h
  · rename_i el hu; rw [hu]; cases x.len <;> rfl
  · cases h
theorem lenS_row {id n : Nat} {e : Shape} : lenS (.row id e n) = okP (pureE (.int .i64 n)) := rfl
theorem lenS_ro {u c : Bool} {n : Nat} {e : Shape} {f : Nat → V} : lenS (.ro u c e n f) = okP (pureE (.int .i64 n)) := rfl
theorem lenS_sl {id off n : Nat} {p : List Step} {e : Shape} {c : Option Nat} : lenS (.sl id p e off n c) = okP (pureE (.int .i64 n)) := rfl
theorem lenS_nils : lenS .nils = okP (pureE (.int .i64 (0 : Nat))) := rfl
end
end Go.Ab
