/- More single operations: slice expressions, lengths, strings, parts of values. No condition. -/
import Derived.Test.YtkjoldifiniliaaB15
import Derived.Laws.IdiomStrings
import Derived.Laws.BytesArg
import Derived.Laws.Strings
import Derived.Laws.Small
import Derived.Laws.Pointers
set_option linter.unusedVariables false
set_option linter.unusedSimpArgs false
namespace Go.Ab
open Go.RowKit
variable [Gl]
section
variable {P : Program} {B : Nat} {o : Oper} {ρ : Operand → V} {m : Mem} {n : Nat}

def BD (x : Option Value) (d v : Int) : Prop := (x = none ∧ v = d) ∨ ∃ k, x = some (.int k v)
def MD (x : Option Value) (v : Option Int) : Prop := (x = none ∧ v = none) ∨ ∃ k m, x = some (.int k m) ∧ v = some m
omit [Gl] in
theorem run_bounds {s : Bool} {len cap : Nat} {lo hi mx : Option Value} {l h : Int} {mv : Option Int} (h1 : BD lo 0 l) (h2 : BD hi len h) (h3 : MD mx mv) (hx : hi = none → mx = none)
    (a0 : 0 ≤ l) (a1 : l ≤ h) (a2 : h ≤ mv.getD cap) (a3 : mv.getD cap ≤ cap) (w : World) : (Instr.sliceBounds s len cap lo hi mx).run P w = .ok (l.toNat, h.toNat, (mv.getD cap).toNat) w := by
  have e1 : (h.toNat : Int) = h := Int.toNat_of_nonneg (by omega)
  rcases h3 with ⟨rfl, rfl⟩ | ⟨km, m, rfl, rfl⟩
  · simp only [Option.getD_none] at a2 a3 ⊢
    rcases h1 with ⟨rfl, rfl⟩ | ⟨k1, rfl⟩ <;> rcases h2 with ⟨rfl, rfl⟩ | ⟨k2, rfl⟩ <;> simp (disch := omega) [Instr.sliceBounds, run_sliceBound, e1]
  · simp only [Option.getD_some] at a2 a3 ⊢
    have e2 : (m.toNat : Int) = m := Int.toNat_of_nonneg (by omega)
    rcases h2 with ⟨rfl, rfl⟩ | ⟨k2, rfl⟩
    · simp at hx
    rcases h1 with ⟨rfl, rfl⟩ | ⟨k1, rfl⟩ <;> simp (disch := omega) [Instr.sliceBounds, run_sliceBound, e1, e2]
omit [Gl] in
theorem run_slice_core {t el : TypeId} {a : Option Addr} {len c : Nat} {i : TypeInfo} (hu : P.underlying t = some (.slice el)) (hi : P.info? el = some i) {lo hi' mx : Option Value} {l h : Int} {mv : Option Int}
    (h1 : BD lo 0 l) (h2 : BD hi' len h) (h3 : MD mx mv) (hx : hi' = none → mx = none) (a0 : 0 ≤ l) (a1 : l ≤ h) (a2 : h ≤ mv.getD c) (a3 : mv.getD c ≤ c) (w : World) :
    (Instr.sliceAt t (.slice a len c) lo hi' mx).run P w = .ok (sliced a l.toNat h.toNat (mv.getD c).toNat i.size) w := by
  have he : P.elem t = el := by unfold Program.elem; rw [hu]
  have hu' : P.underlying t = some (.slice (P.elem t)) := by rw [he]; exact hu
  rw [run_sliceAt_slice w t _ _ _ _ hu', run_slice_any w t a len c hu', run_bounds h1 h2 h3 hx a0 a1 a2 a3 w]
  simp only [Result.andThen_ok, he, run_sizeOf' hi]
def V.mxb (x : Option V) : Option (Option Int) := match x with
  | none => some none
  | some (.int _ n) => some (some n)
  | _ => none
omit [Gl] in
theorem mxb_rel {C : Ctx} {ρc : Operand → Value} {x : Option Operand} {mv : Option Int} (h : V.mxb (x.map ρ) = some mv) (hr : ∀ y, x = some y → R C (ρ y) (.val (ρc y))) : MD (x.map ρc) mv := by
  cases x with
  | none => simp only [Option.map_none, V.mxb, Option.some.injEq] at h; exact .inl ⟨rfl, h.symm⟩
  | some y =>
    have h1 := hr y rfl
    simp only [Option.map_some] at h ⊢
    cases hy : ρ y <;> rw [hy] at h <;> simp only [V.mxb, Option.some.injEq, reduceCtorEq] at h
    rename_i k n
    subst h
    rw [hy] at h1
    have h2 : ρc y = .int k n := h1
    exact .inr ⟨k, n, by rw [h2], rfl⟩
/-- The bounds of a slice expression. -/
structure Bds (ρ : Operand → V) (lo hi mx : Option Operand) (len : Nat) (l h : Int) (mv : Option Int) : Prop where
  blo : V.bnd 0 (lo.map ρ) = some l
  bhi : V.bnd len (hi.map ρ) = some h
  bmx : V.mxb (mx.map ρ) = some mv
  two : hi = none → mx = none
  l0 : 0 ≤ l
  lh : l ≤ h
  hn : h ≤ len
  hm : ∀ m, mv = some m → h ≤ m ∧ m ≤ len
omit [Gl] in
theorem Bds.rel {C : Ctx} {M : Mem} {ρc : Operand → Value} {t : TypeId} {x : Operand} {lo hi mx : Option Operand} {len : Nat} {l h : Int} {mv : Option Int} (b : Bds ρ lo hi mx len l h mv) (ho : o.op = .slice t x lo hi mx)
    (hrel : ∀ x ∈ o.op.operands.toList, R C (ρ x) (.val (ρc x))) : BD (lo.map ρc) 0 l ∧ BD (hi.map ρc) len h ∧ MD (mx.map ρc) mv ∧ (hi.map ρc = none → mx.map ρc = none) ∧ ∀ c : Nat, len ≤ c → h ≤ mv.getD c ∧ mv.getD c ≤ c := by
  refine ⟨bnd_rel (C := C) (M := M) (ρc := ρc) b.blo (fun y hy => hrel y (by subst hy; simp [ho, Op.operands])), bnd_rel (C := C) (M := M) (ρc := ρc) b.bhi (fun y hy => hrel y (by subst hy; simp [ho, Op.operands])),
    mxb_rel b.bmx (fun y hy => hrel y (by subst hy; simp [ho, Op.operands])), ?_, ?_⟩
  · intro hh
    rw [Option.map_eq_none_iff] at hh ⊢
    exact b.two hh
  · intro c hc
    have h1 := b.hn
    cases mv with
    | none => simp only [Option.getD_none]; omega
    | some m => have := b.hm m rfl; simp only [Option.getD_some]; omega
def clipV (clip : Bool) (len : Nat) (h : Int) (mv : Option Int) : Bool := match mv with
  | none => clip && decide (h = len)
  | some m => decide (m = h)
theorem sem_slice_roM {t el : TypeId} {x : Operand} {lo hi' mx : Option Operand} {u clip : Bool} {e : Shape} {len : Nat} {f : Nat → V} {i : TypeInfo} {l h : Int} {mv : Option Int} (ho : o.op = .slice t x lo hi' mx) (hx : ρ x = .ro u clip e len f)
    (hu : P.underlying t = some (.slice el)) (hi : P.info? el = some i) (hz : i.size = e.size) (hb : Bds ρ lo hi' mx len l h mv) :
    OpSem P B o ρ m n (pureE (.ro u (clipV clip len h mv) e (h.toNat - l.toNat) fun j => f (l.toNat + j))) :=
  OpSem.pure fun C M ρc _ _ hrel => by
    have h0 := hrel x (by simp [ho, Op.operands])
    rw [hx] at h0
    obtain ⟨a, c, h1, h2, h3, h4⟩ := h0
    have h1' : ρc x = .slice a len c := h1
    obtain ⟨q1, q2, q3, q4, q5⟩ := hb.rel (M := M) ho hrel
    obtain ⟨q5, q6⟩ := q5 c h2
    have hrun := fun w => run_slice_core (a := a) (len := len) (c := c) hu hi q1 q2 q3 q4 hb.l0 hb.lh q5 q6 w
    have b0 := hb.l0
    have b1 := hb.lh
    have b2 := hb.hn
    refine ⟨sliced a l.toNat h.toNat (mv.getD c).toNat i.size, by simp only [execOp, ho, h1']; simp only [Sem.run_bind, hrun, Result.andThen_ok]; rfl, _, (mv.getD c).toNat - l.toNat, rfl, by omega, ?_, ?_⟩
    · intro hc
      unfold clipV at hc
      cases mv with
      | none =>
        simp only [Bool.and_eq_true, decide_eq_true_eq] at hc
        have := h3 hc.1
        simp only [Option.getD_none]
        omega
      | some m =>
        simp only [decide_eq_true_eq] at hc
        simp only [Option.getD_some]
        omega
    · rcases h4 with h4 | ⟨b, o1, rfl, h5, h6⟩
      · left; omega
      · rcases Nat.lt_or_ge l.toNat h.toNat with hlt | hge
        · refine .inr ⟨b, o1 + l.toNat * e.size, ?_, h5, fun j hj => ?_⟩
          · split
            · omega
            · simp [Addr.add_lit, hz]
          · have := h6 (l.toNat + j) (by omega)
            rw [Nat.add_mul, ← Nat.add_assoc] at this
            exact this
        · left; omega
theorem sem_slice_nils {t el : TypeId} {x : Operand} {lo hi' : Option Operand} {i : TypeInfo} {l h : Int} (ho : o.op = .slice t x lo hi' none) (hx : ρ x = .nils)
    (hu : P.underlying t = some (.slice el)) (hi : P.info? el = some i) (hb : Bds ρ lo hi' none 0 l h none) : OpSem P B o ρ m n (pureE .nils) :=
  OpSem.pure fun C M ρc _ _ hrel => by
    have h0 := hrel x (by simp [ho, Op.operands])
    rw [hx] at h0
    have h1' : ρc x = .slice none 0 0 := h0
    obtain ⟨q1, q2, q3, q4, q5⟩ := hb.rel (M := M) ho hrel
    obtain ⟨q5, q6⟩ := q5 0 (Nat.le_refl _)
    have hrun := fun w => run_slice_core (a := none) (len := 0) (c := 0) hu hi q1 q2 q3 q4 hb.l0 hb.lh q5 q6 w
    have b0 := hb.l0
    have b1 := hb.lh
    have b2 := hb.hn
    refine ⟨.slice none 0 0, ?_, rfl⟩
    simp only [execOp, ho, h1']
    simp only [Sem.run_bind, hrun, Result.andThen_ok, sliced, Option.getD_none]
    have e1 : l.toNat = 0 := by omega
    have e2 : h.toNat = 0 := by omega
    simp [e1, e2]
def subO (l : Nat) (cap : Option Nat) (mv : Option Int) : Option Nat := match mv with
  | none => cap.map (· - l)
  | some m => some (m.toNat - l)
theorem sem_slice_row {t el : TypeId} {x : Operand} {lo hi' mx : Option Operand} {id len : Nat} {e : Shape} {i : TypeInfo} {l h : Int} {mv : Option Int} {blk : Blk} (ho : o.op = .slice t x lo hi' mx) (hx : ρ x = .row id e len)
    (hm : m id = some blk) (hal : blk.alive = true) (hu : P.underlying t = some (.slice el)) (hi : P.info? el = some i) (hz : i.size = e.size) (hb : Bds ρ lo hi' mx len l h mv) :
    OpSem P B o ρ m n ⟨.sl id [] e l.toNat (h.toNat - l.toNat) (subO l.toNat none mv), [], [], [id]⟩ :=
  OpSem.pure fun C M ρc hs hr hrel => by
    have h0 := hrel x (by simp [ho, Op.operands])
    rw [hx] at h0
    obtain ⟨hal', ⟨a, c, h1⟩, h2, h3⟩ := h0
    have h1' : ρc x = .slice a len c := by rw [← h1]; exact h3
    have hM : M id = some blk := by rw [hr id (by simp), hm]
    have hbr := hs.mem id blk hM
    have hla : len ≤ c ∧ (0 < len → ∃ g, a = some ⟨g, 0, none⟩) := by
      unfold BR at hbr; unfold Blk.alive at hal
      cases hkd : blk.k <;> simp only [hkd] at hbr hal
      · obtain ⟨g, cur, e', h4, _⟩ := hbr
        rw [h1] at h4; cases h4
      · obtain ⟨n1, s1, cells, h4, h5, h6, _⟩ := hbr
        rcases h6.2 with ⟨h7, h8⟩ | ⟨g, cap, cur, hv, _, _, hnc, _⟩
        · rw [h1] at h7; cases h7; exact ⟨Nat.le_refl _, fun h => absurd h (by omega)⟩
        · rw [h1] at hv; cases hv; exact ⟨hnc, fun _ => ⟨g, rfl⟩⟩
      · simp at hal
    obtain ⟨hlc, hga⟩ := hla
    obtain ⟨q1, q2, q3, q4, q5⟩ := hb.rel (M := M) ho hrel
    obtain ⟨q5, q6⟩ := q5 c hlc
    have hrun := fun w => run_slice_core (a := a) (len := len) (c := c) hu hi q1 q2 q3 q4 hb.l0 hb.lh q5 q6 w
    have b0 := hb.l0
    have b1 := hb.lh
    have b2 := hb.hn
    refine ⟨sliced a l.toNat h.toNat (mv.getD c).toNat i.size, by simp only [execOp, ho, h1']; simp only [Sem.run_bind, hrun, Result.andThen_ok]; rfl, hal', _, (mv.getD c).toNat - l.toNat, 0, len, rfl, by omega, ?_, by rw [h2]; simp [Shape.path], by omega, ?_⟩
    · intro k hk
      unfold subO at hk
      cases mv with
      | none => simp at hk
      | some m => simp only [Option.some.injEq] at hk; subst hk; simp
    · rcases Nat.lt_or_ge l.toNat h.toNat with hlt | hge
      · obtain ⟨g, rfl⟩ := hga (by omega)
        refine .inr ⟨g, by rw [h1]; rfl, ?_⟩
        rw [if_neg (by omega)]
        simp [Addr.add_lit, hz]
      · left; omega
theorem sem_slice_sl {t el : TypeId} {x : Operand} {lo hi' mx : Option Operand} {id off len : Nat} {p : List Step} {cap : Option Nat} {e : Shape} {i : TypeInfo} {l h : Int} {mv : Option Int} (ho : o.op = .slice t x lo hi' mx) (hx : ρ x = .sl id p e off len cap)
    (hu : P.underlying t = some (.slice el)) (hi : P.info? el = some i) (hz : i.size = e.size) (hb : Bds ρ lo hi' mx len l h mv) :
    OpSem P B o ρ m n (pureE (.sl id p e (off + l.toNat) (h.toNat - l.toNat) (subO l.toNat cap mv))) :=
  OpSem.pure fun C M ρc hs hr hrel => by
    have h0 := hrel x (by simp [ho, Op.operands])
    rw [hx] at h0
    obtain ⟨hal, ad, c, o1, n1, h1, hlc, hcap, h5, h7, h4⟩ := h0
    have h1' : ρc x = .slice ad len c := h1
    obtain ⟨q1, q2, q3, q4, q5⟩ := hb.rel (M := M) ho hrel
    obtain ⟨q5, q6⟩ := q5 c hlc
    have hrun := fun w => run_slice_core (a := ad) (len := len) (c := c) hu hi q1 q2 q3 q4 hb.l0 hb.lh q5 q6 w
    have b0 := hb.l0
    have b1 := hb.lh
    have b2 := hb.hn
    refine ⟨sliced ad l.toNat h.toNat (mv.getD c).toNat i.size, by simp only [execOp, ho, h1']; simp only [Sem.run_bind, hrun, Result.andThen_ok]; rfl, hal, _, (mv.getD c).toNat - l.toNat, o1, n1, rfl, by omega, ?_, h5, by omega, ?_⟩
    · intro k hk
      unfold subO at hk
      cases mv with
      | none =>
        rw [Option.map_eq_some_iff] at hk
        obtain ⟨k', hk', rfl⟩ := hk
        rw [hcap k' hk']; simp
      | some m => simp only [Option.some.injEq] at hk; subst hk; simp
    · rcases Nat.lt_or_ge l.toNat h.toNat with hlt | hge
      · rcases h4 with h4 | ⟨b, h8, rfl⟩
        · omega
        refine .inr ⟨b, h8, ?_⟩
        rw [if_neg (by omega)]
        simp [Addr.add_lit, hz, Nat.add_mul, Nat.add_assoc]
      · left; omega
omit [Gl] in
theorem run_slice_arr {t el : TypeId} {a : Addr} {N : Nat} {i : TypeInfo} (hu : P.underlying t = some (.array N el)) (hi : P.info? el = some i) {lo hi' mx : Option Value} {l h : Int} {mv : Option Int}
    (h1 : BD lo 0 l) (h2 : BD hi' N h) (h3 : MD mx mv) (hx : hi' = none → mx = none) (a0 : 0 ≤ l) (a1 : l ≤ h) (a2 : h ≤ mv.getD N) (a3 : mv.getD N ≤ N) (w : World) :
    (Instr.sliceAt t (.pointer (some a)) lo hi' mx).run P w = .ok (.slice (some (if (mv.getD N).toNat = l.toNat then a else a.add (l.toNat * i.size))) (h.toNat - l.toNat) ((mv.getD N).toNat - l.toNat)) w := by
  simp [Instr.sliceAt, run_underlying hu, Instr.sureAddr, run_bounds h1 h2 h3 hx a0 a1 a2 a3 w, run_sizeOf' hi]
theorem sem_slice_ptr {t el : TypeId} {x : Operand} {lo hi' mx : Option Operand} {id N : Nat} {p : List Step} {e : Shape} {i : TypeInfo} {l h : Int} {mv : Option Int} (ho : o.op = .slice t x lo hi' mx) (hx : ρ x = .ptr id p (.arr N e))
    (hu : P.underlying t = some (.array N el)) (hi : P.info? el = some i) (hz : i.size = e.size) (hb : Bds ρ lo hi' mx N l h mv) :
    OpSem P B o ρ m n (pureE (.sl id p e l.toNat (h.toNat - l.toNat) (subO l.toNat (some N) mv))) :=
  OpSem.pure fun C M ρc hs hr hrel => by
    have h0 := hrel x (by simp [ho, Op.operands])
    rw [hx] at h0
    obtain ⟨hal, b, o1, h1, h2, h3⟩ := h0
    have h1' : ρc x = .pointer (some ⟨b, o1, none⟩) := h3
    obtain ⟨q1, q2, q3, q4, q5⟩ := hb.rel (M := M) ho hrel
    obtain ⟨q5, q6⟩ := q5 N (Nat.le_refl _)
    have hrun := fun w => run_slice_arr (a := ⟨b, o1, none⟩) hu hi q1 q2 q3 q4 hb.l0 hb.lh q5 q6 w
    have b0 := hb.l0
    have b1 := hb.lh
    have b2 := hb.hn
    refine ⟨_, by simp only [execOp, ho, h1']; simp only [Sem.run_bind, hrun, Result.andThen_ok]; rfl, hal, _, (mv.getD N).toNat - l.toNat, o1, N, rfl, by omega, ?_, h2, by omega, ?_⟩
    · intro k hk
      unfold subO at hk
      cases mv with
      | none => simp only [Option.map_some, Option.some.injEq] at hk; subst hk; simp
      | some m => simp only [Option.some.injEq] at hk; subst hk; simp
    · rcases Nat.lt_or_ge l.toNat h.toNat with hlt | hge
      · refine .inr ⟨b, h1, ?_⟩
        rw [if_neg (by omega)]
        simp [Addr.add_lit, hz]
      · left; omega
theorem sem_slice_ref {t el : TypeId} {x : Operand} {lo hi' mx : Option Operand} {u : Bool} {N : Nat} {e : Shape} {f : Nat → V} {i : TypeInfo} {l h : Int} {mv : Option Int} (ho : o.op = .slice t x lo hi' mx) (hx : ρ x = .ref u (.arr N e) (.arr N f))
    (hu : P.underlying t = some (.array N el)) (hi : P.info? el = some i) (hz : i.size = e.size) (hb : Bds ρ lo hi' mx N l h mv) :
    OpSem P B o ρ m n (pureE (.ro u (clipV true N h mv) e (h.toNat - l.toNat) fun j => f (l.toNat + j))) :=
  OpSem.pure fun C M ρc hs hr hrel => by
    have h0 := hrel x (by simp [ho, Op.operands])
    rw [hx] at h0
    obtain ⟨b, o1, h1, h2, h3⟩ := h0
    have h1' : ρc x = .pointer (some ⟨b, o1, none⟩) := h1
    obtain ⟨q1, q2, q3, q4, q5⟩ := hb.rel (M := M) ho hrel
    obtain ⟨q5, q6⟩ := q5 N (Nat.le_refl _)
    have hrun := fun w => run_slice_arr (a := ⟨b, o1, none⟩) hu hi q1 q2 q3 q4 hb.l0 hb.lh q5 q6 w
    have b0 := hb.l0
    have b1 := hb.lh
    have b2 := hb.hn
    obtain ⟨e', r1, r2⟩ := h3
    cases r1
    refine ⟨_, by simp only [execOp, ho, h1']; simp only [Sem.run_bind, hrun, Result.andThen_ok]; rfl, _, (mv.getD N).toNat - l.toNat, rfl, by omega, ?_, ?_⟩
    · intro hc
      unfold clipV at hc
      cases mv with
      | none => simp only [Bool.true_and, decide_eq_true_eq] at hc; simp only [Option.getD_none]; omega
      | some m => simp only [decide_eq_true_eq] at hc; simp only [Option.getD_some]; omega
    · rcases Nat.lt_or_ge l.toNat h.toNat with hlt | hge
      · refine .inr ⟨b, o1 + l.toNat * e.size, ?_, h2, fun j hj => ?_⟩
        · rw [if_neg (by omega)]
          simp [Addr.add_lit, hz]
        · have := r2 (l.toNat + j) (by omega)
          rw [Nat.add_mul, ← Nat.add_assoc] at this
          exact this
      · left; omega
theorem sem_slice_str {t : TypeId} {x : Operand} {lo hi' : Option Operand} {s : ByteArray} {l h : Int} (ho : o.op = .slice t x lo hi' none) (hx : ρ x = .str s)
    (hu : P.underlying t = some .string) (hb : Bds ρ lo hi' none s.size l h none) : OpSem P B o ρ m n (pureE (.str (s.extract l.toNat h.toNat))) :=
  OpSem.pure fun C M ρc hs hr hrel => by
    have h0 := hrel x (by simp [ho, Op.operands])
    rw [hx] at h0
    have h1' : ρc x = .string s := h0
    obtain ⟨q1, q2, q3, q4, q5⟩ := hb.rel (M := M) ho hrel
    obtain ⟨q5, q6⟩ := q5 s.size (Nat.le_refl _)
    have hrun := fun w => run_bounds (P := P) (s := false) q1 q2 q3 q4 hb.l0 hb.lh q5 q6 w
    refine ⟨.string (s.extract l.toNat h.toNat), ?_, rfl⟩
    simp only [execOp, ho, h1', Option.map_none]
    simp only [Option.map_none] at hrun
    simp [run_sliceAt_string C.w t _ _ _ _ hu, Instr.slice, run_underlying hu, hrun]

/-! ### Capacities, least numbers -/
def V.cap : V → Option Nat
  | .sl _ _ _ _ _ (some c) => some c
  | .ro _ true _ len _ => some len
  | .nils => some 0
  | _ => none
theorem sem_cap {t e : TypeId} {x : Operand} {k : Nat} (ho : o.op = .call ⟨.builtin .cap, #[x], #[t]⟩) (hx : (ρ x).cap = some k) (hu : P.underlying t = some (.slice e)) : OpSem P B o ρ m n (pureE (.int .i64 k)) :=
  OpSem.pure fun C M ρc _ _ hrel => by
    have h0 := hrel x (by simp [ho, Op.operands, Call.operands])
    have : ∃ a l, ρc x = .slice a l k := by
      cases hv : ρ x <;> rw [hv] at h0 hx <;> simp only [V.cap, reduceCtorEq] at hx
      · rename_i id p e off len cap
        cases cap with
        | none => simp at hx
        | some c =>
          simp only [Option.some.injEq] at hx; subst hx
          obtain ⟨hal, ad, c', o1, n1, h1, hlc, hcap, _⟩ := h0
          rw [hcap c rfl] at h1
          exact ⟨_, _, h1⟩
      · simp only [Option.some.injEq] at hx; subst hx; exact ⟨none, 0, h0⟩
      · rename_i u clip e len f
        cases clip with
        | false => simp at hx
        | true =>
          simp only [Option.some.injEq] at hx; subst hx
          obtain ⟨a, c, h1, h2, h3, _⟩ := h0
          rw [h3 rfl] at h1
          exact ⟨_, _, h1⟩
    obtain ⟨a, l, h1⟩ := this
    exact ⟨.int .i64 k, by simp [execOp, ho, resolve, invoke, builtin, h1, Builtin.cap_, run_underlying hu, goInt], rfl⟩
noncomputable def minV (k : IntKind) (x y : Int) : V := .int k (bif ltI y x then y else x)
theorem sem_min {ts : Array TypeId} {x y : Operand} {k k' : IntKind} {a b : Int} (ho : o.op = .call ⟨.builtin .min, #[x, y], ts⟩) (hx : ρ x = .int k a) (hy : ρ y = .int k' b) : OpSem P B o ρ m n (pureE (minV k a b)) :=
  OpSem.pure fun C M ρc _ _ hrel => by
    obtain ⟨rx, ry⟩ := two_rel (ρ := ρ) ho hrel
    rw [hx] at rx; rw [hy] at ry
    have rx' : ρc x = .int k a := rx
    have ry' : ρc y = .int k' b := ry
    refine ⟨.int k (if b < a then b else a), by simp [execOp, ho, resolve, invoke, builtin, rx', ry', run_min_int2], ?_⟩
    show Value.int k _ = Value.int k _
    rw [ltI_eq]
    by_cases h : b < a <;> simp [h]
end
end Go.Ab
