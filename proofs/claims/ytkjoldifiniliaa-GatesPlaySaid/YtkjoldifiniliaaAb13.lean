/- Regions in the text's order: what they come to. No condition. -/
import Derived.Test.YtkjoldifiniliaaAb12
set_option linter.unusedVariables false
set_option linter.unusedSimpArgs false
namespace Go.Ab
open Go.RowKit

def skipE : Eff := pureE (.tup .nl)

def apM (m : List Blk) (e : Eff) : List Blk := (e.up.foldr (fun x m => m.set x.1 x.2) m) ++ e.nw
def apT (tm : List V) (d : Option Tmp) (v : V) : List V := match d with | some d => tm.set d v | none => tm
def St.ap (S : St) (d : Option Tmp) (e : Eff) : St := ⟨apT S.tm d e.v, apM S.mem e⟩
def upOk (n : Nat) (e : Eff) : Bool := e.up.all fun x => decide (x.1 < n)
def dOk (n : Nat) (d : Option Tmp) : Bool := match d with | some d => decide (d < n) | none => true

/-- What an operation does: calls by their contracts. -/
def aexec (P : Program) (G : Nat → V) (ct : FuncId → Option CSpec) (o : Op) (S : St) : Res :=
  match o with
  | .call ⟨.value fo, args, ts⟩ => match opv G S.t fo with
    | .fn f caps => match ct f with
      | some c => aCall c S.mem (appL (args.toList.map (opv G S.t)) caps)
      | none => none
    | _ => none
  | o => aop P o (opv G S.t) S.mem

def CT (P : Program) (ct : FuncId → Option CSpec) : Prop := ∀ f c, ct f = some c → CSound P f c

theorem aexec_sound {P : Program} {B : Nat} {G : Nat → V} {ct : FuncId → Option CSpec} (hct : CT P ct) {o : Oper} {S : St} {p : Prop} {e : Eff} (h : aexec P G ct o.op S = some (p, e)) (hp : p) :
    OpSem P B o (opv G S.t) (fun id => S.mem[id]?) S.mem.length e := by
  unfold aexec at h
  split at h
  · rename_i fo args ts ho
    split at h
    · rename_i f caps hf
      split at h
      · rename_i c hc
        exact sem_call ho hf (hct f c hc) h hp
      · cases h
    · cases h
  · exact aop_sound h hp

/-- Operations one after the other; 'tr': what came of those before. -/
def rr (P : Program) (G : Nat → V) (ct : FuncId → Option CSpec) (ops : Array Oper) : List Oper → St → List TE → (St → List TE → Prop) → Prop
  | [], S, tr, K => K S tr
  | o :: rest, S, tr, K =>
    match o.guard with
    | none => match aexec P G ct o.op S with
      | some (p, e) => p ∧ rr P G ct ops rest (S.ap o.dst e) (⟨o, e, S.mem.length, false⟩ :: tr) K
      | none => False
    | some (j, want) => match (ops[j]?).bind (·.dst) with
      | none => False
      | some d => match S.t d with
        | .bool b =>
          (b = want → match aexec P G ct o.op (S.ap (some d) (pureE (.bool want))) with
            | some (p, e) => p ∧ rr P G ct ops rest ((S.ap (some d) (pureE (.bool want))).ap o.dst e) (⟨o, e, S.mem.length, false⟩ :: tr) K
            | none => False) ∧
          (b = !want → rr P G ct ops rest ((S.ap (some d) (pureE (.bool !want))).ap o.dst skipE) (⟨o, skipE, S.mem.length, true⟩ :: tr) K)
        | .tup .nl => rr P G ct ops rest (S.ap o.dst skipE) (⟨o, skipE, S.mem.length, true⟩ :: tr) K
        | _ => False

structure Cur (N : Nat) (tm0 : Nat → V) (m0 : Mem) (n0 : Nat) (S : St) (tr : List TE) : Prop where
  tm : ∀ t, S.t t = look wrT tm0 (fun _ => true) tr t
  mem : ∀ id, S.m id = look wrM m0 (fun _ => true) tr id
  n : S.mem.length = nextId n0 tr
  size : S.tm.length = N

theorem St.ap_same {S : St} {d : Nat} {v : V} (hv : S.t d = v) (hu : ∀ h : v = .unk, False) : S.ap (some d) (pureE v) = S := by
  obtain ⟨tm, mem⟩ := S
  simp only [St.ap, apT, apM, List.foldr_nil, List.append_nil, St.mk.injEq, and_true]
  simp only [St.t, List.getD_eq_getElem?_getD] at hv
  by_cases hd : d < tm.length
  · simp only [List.getElem?_eq_getElem hd, Option.getD_some] at hv
    subst hv
    exact List.set_getElem_self hd
  · simp only [List.getElem?_eq_none (Nat.le_of_not_lt hd), Option.getD_none] at hv
    exact (hu hv.symm).elim

theorem foldr_set_get (l : List (Nat × Blk)) (m : List Blk) (hl : ∀ x ∈ l, x.1 < m.length) (id : Nat) :
    (l.foldr (fun x m => m.set x.1 x.2) m).length = m.length ∧ (l.foldr (fun x m => m.set x.1 x.2) m)[id]? = (match l.lookup id with | some b => some b | none => m[id]?) := by
  induction l with
  | nil => exact ⟨rfl, rfl⟩
  | cons x l ih =>
    obtain ⟨h1, h2⟩ := ih fun y hy => hl y (List.mem_cons_of_mem _ hy)
    refine ⟨by simp [h1], ?_⟩
    simp only [List.foldr_cons, List.lookup]
    by_cases hx : id = x.1
    · subst hx
      have := hl x (by simp)
      simp [List.getElem?_set, h1, this]
    · have h3 : (id == x.1) = false := by simpa using hx
      rw [h3, List.getElem?_set_ne (fun h => hx h.symm), h2]

theorem apM_get {m : List Blk} {e : Eff} (h : upOk m.length e = true) (id : Nat) : (apM m e)[id]? = (match touch e m.length id with | some b => some b | none => m[id]?) := by
  have hl : ∀ x ∈ e.up, x.1 < m.length := by simpa [upOk] using h
  obtain ⟨h1, h2⟩ := foldr_set_get e.up m hl id
  unfold apM touch
  by_cases hid : id < m.length
  · have h3 : ¬ (m.length ≤ id ∧ id < m.length + e.nw.length) := by omega
    rw [List.getElem?_append_left (by rw [h1]; exact hid), h2, if_neg h3]
  · rw [List.getElem?_append_right (by rw [h1]; omega), h1]
    have hm : m[id]? = none := List.getElem?_eq_none (by omega)
    have hlk : e.up.lookup id = none := by
      cases hk : e.up.lookup id with
      | none => rfl
      | some b =>
        have : ∀ (l : List (Nat × Blk)), l.lookup id = some b → ∃ x ∈ l, x.1 = id := by
          intro l
          induction l with
          | nil => intro h; cases h
          | cons x l ih =>
            intro h
            simp only [List.lookup] at h
            cases hx : id == x.1 with
            | true => exact ⟨x, by simp, (by simpa using hx : id = x.1).symm⟩
            | false =>
              rw [hx] at h
              obtain ⟨y, hy, e⟩ := ih h
              exact ⟨y, by simp [hy], e⟩
        obtain ⟨x, hx, e1⟩ := this _ hk
        have := hl x hx
        omega
    by_cases h3 : m.length ≤ id ∧ id < m.length + e.nw.length
    · rw [if_pos h3, hm]
      cases e.nw[id - m.length]? <;> rfl
    · rw [if_neg h3, hlk, hm, List.getElem?_eq_none (by omega)]

theorem apM_length {m : List Blk} {e : Eff} (h : upOk m.length e = true) : (apM m e).length = m.length + e.nw.length := by
  have hl : ∀ x ∈ e.up, x.1 < m.length := by simpa [upOk] using h
  unfold apM
  rw [List.length_append, (foldr_set_get e.up m hl 0).1]

theorem apT_get {tm : List V} {d : Option Tmp} {v : V} (h : dOk tm.length d = true) (t : Nat) : (apT tm d v).getD t .unk = (if d = some t then some v else none).getD (tm.getD t .unk) := by
  cases d with
  | none => rfl
  | some d =>
    have hd : d < tm.length := by simpa [dOk] using h
    simp only [apT, Option.some.injEq, List.getD_eq_getElem?_getD, List.getElem?_set]
    by_cases hdt : d = t
    · subst hdt; simp [hd]
    · simp [hdt]

theorem Cur.step {N : Nat} {tm0 : Nat → V} {m0 : Mem} {n0 : Nat} {S : St} {tr : List TE} (h : Cur N tm0 m0 n0 S tr) {o : Oper} {e : Eff} {sk : Bool} (hu : upOk S.mem.length e = true) (hd : dOk S.tm.length o.dst = true) :
    Cur N tm0 m0 n0 (S.ap o.dst e) (⟨o, e, S.mem.length, sk⟩ :: tr) := by
  refine ⟨fun t => ?_, fun id => ?_, ?_, ?_⟩
  · show (apT S.tm o.dst e.v).getD t .unk = _
    rw [apT_get hd]
    simp only [look, if_true, wrT]
    rw [← h.tm t]; rfl
  · show (apM S.mem e)[id]? = _
    rw [apM_get hu]
    simp only [look, if_true, look_wrM m0]
    rw [← h.mem id]; rfl
  · show (apM S.mem e).length = _
    rw [apM_length hu]; rfl
  · rw [← h.size]
    show (apT S.tm o.dst e.v).length = _
    unfold apT
    cases o.dst <;> simp

theorem aop_up {P : Program} {op : Op} {ρ : Operand → V} {m : List Blk} {p : Prop} {e : Eff} (h : aop P op ρ m = some (p, e)) : upOk m.length e = true := by
  have hst : ∀ {t : TypeId} {a x : V}, aStore P t a x m = some (p, e) → upOk m.length e = true := by
    intro t a x h
    unfold aStore at h
    split at h
    · split at h
      · split at h
        · rename_i id q s' blk hb
          split at h
          · simp only [okP, Option.some.injEq, Prod.mk.injEq] at h
            obtain ⟨_, rfl⟩ := h
            simp [upOk, (List.getElem?_eq_some_iff.1 hb).1]
          · cases h
        · cases h
      · cases h
    · cases h
  unfold aop at h
  split at h <;> first
    | exact hst h
    | (simp only [okP, Option.some.injEq, Prod.mk.injEq] at h; obtain ⟨_, rfl⟩ := h; rfl)
    | skip
  all_goals (try simp only [aAlloc, aBox, aBuild, aBuildSlice, aLoad, aNil, aBin, aUn, aConv, aField, aIndex, aLen, aSlice, okP] at h)
  all_goals (repeat' (split at h))
  all_goals first
    | (cases h; done)
    | (cases h; rfl)
    | (simp only [Option.some.injEq, Prod.mk.injEq] at h; obtain ⟨_, rfl⟩ := h; rfl)

theorem aexec_up {P : Program} {G : Nat → V} {ct : FuncId → Option CSpec} {o : Op} {S : St} {p : Prop} {e : Eff} (h : aexec P G ct o S = some (p, e)) : upOk S.mem.length e = true := by
  unfold aexec at h
  split at h
  · split at h
    · split at h
      · unfold aCall at h
        split at h
        · split at h
          · simp only [Option.some.injEq, Prod.mk.injEq] at h
            obtain ⟨_, rfl⟩ := h; rfl
          · cases h
        · cases h
      · cases h
    · cases h
  · exact aop_up h

theorem rr_sound {P : Program} {B : Nat} {G : Nat → V} {ct : FuncId → Option CSpec} (hct : CT P ct) {ops : Array Oper} {N : Nat} {tm0 : Nat → V} {m0 : Mem} {n0 : Nat} {K : St → List TE → Prop} :
    ∀ (rest : List Oper) (S : St) (tr : List TE), Valid P B G ops N tm0 m0 n0 tr → Cur N tm0 m0 n0 S tr → (∀ i, ops[tr.length + i]? = rest[i]?) → (∀ o ∈ rest, dOk N o.dst = true) → rr P G ct ops rest S tr K →
      ∃ S' tr', Valid P B G ops N tm0 m0 n0 tr' ∧ Cur N tm0 m0 n0 S' tr' ∧ tr'.length = ops.size ∧ K S' tr'
  | [], S, tr, hv, hc, ho, _, h => by
    refine ⟨S, tr, hv, hc, ?_, h⟩
    have h1 : ops.size ≤ tr.length := by
      have := ho 0
      simp only [Nat.add_zero, List.getElem?_nil] at this
      exact Array.getElem?_eq_none_iff.1 this
    have h2 : ∀ tr, Valid P B G ops N tm0 m0 n0 tr → tr.length ≤ ops.size := by
      intro tr hv
      cases tr with
      | nil => simp
      | cons te r => have := (Array.getElem?_eq_some_iff.1 hv.2.1).1; simp; omega
    have := h2 tr hv
    omega
  | o :: rest, S, tr, hv, hc, ho, hD, h => by
    have hop : ops[tr.length]? = some o := by have := ho 0; simpa using this
    have hnext : ∀ i, ops[tr.length + 1 + i]? = rest[i]? := by
      intro i
      have := ho (i + 1)
      simp only [List.getElem?_cons_succ] at this
      rw [← this]; congr 1; omega
    have hS : S.t = look wrT tm0 (fun _ => true) tr := funext hc.tm
    have hM : (fun id => S.mem[id]?) = look wrM m0 (fun _ => true) tr := funext hc.mem
    have hd : dOk S.tm.length o.dst = true := by rw [hc.size]; exact hD o (by simp)
    have hD' : ∀ o ∈ rest, dOk N o.dst = true := fun o ho => hD o (by simp [ho])
    have hdst : ∀ d, o.dst = some d → d < N := by
      intro d h1; rw [h1, hc.size] at hd; simpa [dOk] using hd
    -- carried out
    have run : ∀ {p : Prop} {e : Eff}, wants ops S.t o false → aexec P G ct o.op S = some (p, e) → p ∧ rr P G ct ops rest (S.ap o.dst e) (⟨o, e, S.mem.length, false⟩ :: tr) K →
        ∃ S' tr', Valid P B G ops N tm0 m0 n0 tr' ∧ Cur N tm0 m0 n0 S' tr' ∧ tr'.length = ops.size ∧ K S' tr' := by
      intro p e hw he ⟨hp, hr⟩
      have hu := aexec_up he
      have hv2 : Valid P B G ops N tm0 m0 n0 (⟨o, e, S.mem.length, false⟩ :: tr) := by
        refine And.intro hv ⟨hop, hc.n, hdst, by rw [← hS]; exact hw, ?_⟩
        simp only [Bool.false_eq_true, if_false]
        rw [← hS, ← hM]
        exact aexec_sound hct he hp
      exact rr_sound hct rest _ _ hv2 (hc.step hu hd) (by simpa using hnext) hD' hr
    have pass : wants ops S.t o true → rr P G ct ops rest (S.ap o.dst skipE) (⟨o, skipE, S.mem.length, true⟩ :: tr) K →
        ∃ S' tr', Valid P B G ops N tm0 m0 n0 tr' ∧ Cur N tm0 m0 n0 S' tr' ∧ tr'.length = ops.size ∧ K S' tr' := by
      intro hw hr
      have hv2 : Valid P B G ops N tm0 m0 n0 (⟨o, skipE, S.mem.length, true⟩ :: tr) := And.intro hv ⟨hop, hc.n, hdst, by rw [← hS]; exact hw, by simp [skipE]⟩
      exact rr_sound hct rest _ _ hv2 (hc.step (by simp [upOk, skipE]) hd) (by simpa using hnext) hD' hr
    unfold rr at h
    split at h
    · rename_i hg
      split at h
      · rename_i p e he
        exact run (by unfold wants; rw [hg]) he h
      · exact h.elim
    · rename_i j want hg
      split at h
      · exact h.elim
      · rename_i d hd
        split at h
        · rename_i b hb
          by_cases hbw : b = want
          · subst hbw
            have h1 := h.1 rfl
            rw [St.ap_same hb (by intro h; cases h)] at h1
            split at h1
            · rename_i p e he
              exact run (by unfold wants; rw [hg]; exact ⟨d, hd, .inl ⟨hb, rfl⟩⟩) he h1
            · exact h1.elim
          · have hbw' : b = !want := by cases b <;> cases want <;> simp_all
            have h1 := h.2 hbw'
            rw [St.ap_same (hb.trans (by rw [hbw'])) (by intro h; cases h)] at h1
            exact pass (by unfold wants; rw [hg]; exact ⟨d, hd, .inr ⟨.inl (by rw [hb, hbw']), rfl⟩⟩) h1
        · rename_i hb
          exact pass (by unfold wants; rw [hg]; exact ⟨d, hd, .inr ⟨.inr hb, rfl⟩⟩) h
        · exact h.elim

/-! ### In whatever order -/
/-- Whatever two share is ordered by an edge. -/
def clash (te te' : TE) (ops : Array Oper) : Bool :=
  (match te'.o.dst with | some d => te.o.dst == some d || (te.o.looksAt ops).contains d | none => false) ||
  (match te.o.dst with | some d => (te'.o.looksAt ops).contains d | none => false)
def wids (te : TE) : List Nat := te.e.up.map (·.1) ++ List.range' te.n te.e.nw.length
def clashM (te te' : TE) : Bool := (wids te').any (fun id => (wids te).contains id || te.e.rd.contains id) || (te'.e.rd.any fun id => (wids te).contains id)

def drawOk (ops : Array Oper) : List TE → Bool
  | [] => true
  | te :: r => drawOk ops r && (te.o.after.all fun e => !(Region.binds .any e) || decide (e.on < r.length)) && against te r
where against (te : TE) : List TE → Bool
  | [] => true
  | te' :: r' => (edge te r'.length || !(clash te te' ops || clashM te te')) && against te r'

theorem wrM_ids {te : TE} {id : Nat} (h : (wrM te id).isSome = true) : id ∈ wids te := by
  unfold wrM touch at h
  unfold wids
  split at h
  · rename_i h1
    exact List.mem_append_right _ (List.mem_range'_1.2 ⟨h1.1, h1.2⟩)
  · refine List.mem_append_left _ (List.mem_map.2 ?_)
    cases hk : te.e.up.lookup id with
    | none => rw [hk] at h; cases h
    | some b =>
      have : ∀ (l : List (Nat × Blk)), l.lookup id = some b → ∃ x ∈ l, x.1 = id := by
        intro l
        induction l with
        | nil => intro h; cases h
        | cons x l ih =>
          intro h
          simp only [List.lookup] at h
          cases hx : id == x.1 with
          | true => exact ⟨x, by simp, (by simpa using hx : id = x.1).symm⟩
          | false =>
            rw [hx] at h
            obtain ⟨y, hy, e⟩ := ih h
            exact ⟨y, by simp [hy], e⟩
      exact this _ hk

theorem against_at {ops : Array Oper} {te : TE} : ∀ {r : List TE}, drawOk.against ops te r = true → ∀ l te' r', r = l ++ te' :: r' → (edge te r'.length || !(clash te te' ops || clashM te te')) = true
  | [], _, l, te', r', e => by cases l <;> cases e
  | t :: r, h, l, te', r', e => by
    simp only [drawOk.against, Bool.and_eq_true] at h
    cases l with
    | nil => simp only [List.nil_append, List.cons.injEq] at e; obtain ⟨rfl, rfl⟩ := e; exact h.1
    | cons x l => simp only [List.cons_append, List.cons.injEq] at e; exact against_at h.2 l te' r' e.2

theorem wrT_some {te : TE} {k : Nat} (h : (wrT te k).isSome = true) : te.o.dst = some k := by
  unfold wrT at h
  split at h
  · assumption
  · cases h

theorem drawOk_sound {ops : Array Oper} : ∀ {tr : List TE}, drawOk ops tr = true → Apart wrT (useT ops) edge tr ∧ Apart wrM useM edge tr ∧ (∀ l te r, tr = l ++ te :: r → ∀ k, edge te k = true → k < r.length)
  | [], _ => ⟨trivial, trivial, fun l te r e => by cases l <;> cases e⟩
  | te :: r, h => by
    simp only [drawOk, Bool.and_eq_true] at h
    obtain ⟨h1, h2, h3⟩ := drawOk_sound h.1.1
    refine ⟨⟨h1, fun l te' r' e ⟨k, hk⟩ => ?_⟩, ⟨h2, fun l te' r' e ⟨k, hk⟩ => ?_⟩, ?_⟩
    · have := against_at h.2 l te' r' e
      cases hed : edge te r'.length with
      | true => rfl
      | false =>
        exfalso
        simp only [hed, Bool.false_or, Bool.not_eq_true', Bool.or_eq_false_iff] at this
        have hc := this.1
        unfold clash at hc
        rcases hk with ⟨hw, hk⟩ | ⟨hu, hw⟩
        · rw [wrT_some hw] at hc
          simp only [Bool.or_eq_false_iff] at hc
          rcases hk with hk | hk
          · rw [wrT_some hk] at hc; simp at hc
          · have h5 : (te.o.looksAt ops).contains k = true := List.contains_iff_mem.2 hk
            simp only [h5] at hc; simp at hc
        · rw [wrT_some hw] at hc
          have h5 : (te'.o.looksAt ops).contains k = true := List.contains_iff_mem.2 hu
          simp only [h5] at hc; simp at hc
    · have := against_at h.2 l te' r' e
      cases hed : edge te r'.length with
      | true => rfl
      | false =>
        exfalso
        simp only [hed, Bool.false_or, Bool.not_eq_true', Bool.or_eq_false_iff] at this
        have hc := this.2
        unfold clashM at hc
        simp only [Bool.or_eq_false_iff, List.any_eq_false] at hc
        rcases hk with ⟨hw, hk⟩ | ⟨hu, hw⟩
        · have h4 := hc.1 k (wrM_ids hw)
          simp only [Bool.or_eq_true, not_or] at h4
          rcases hk with hk | hk
          · exact h4.1 (by simpa using wrM_ids hk)
          · exact h4.2 (List.contains_iff_mem.2 hk)
        · exact hc.2 k hu (by simpa using wrM_ids hw)
    · intro l te' r' e k hk
      cases l with
      | nil =>
        simp only [List.nil_append, List.cons.injEq] at e
        obtain ⟨rfl, rfl⟩ := e
        have h4 := h.1.2
        unfold edge at hk
        obtain ⟨x, hx, hb⟩ := Array.any_eq_true'.1 hk
        simp only [Bool.and_eq_true, beq_iff_eq] at hb
        have := Array.all_eq_true'.1 h4 x hx
        simp only [hb.1, Bool.not_true, Bool.false_or, decide_eq_true_eq] at this
        omega
      | cons x l => simp only [List.cons_append, List.cons.injEq] at e; exact h3 l te' r' e.2 k hk

/-! ### Regions -/
theorem awp_region {P : Program} {B N : Nat} {C0 : Ctx} {G : Nat → V} {ct : FuncId → Option CSpec} (hct : CT P ct) (hG : HG G C0) {id : Nat} {ops : Array Oper} {Q : Exit → St → Prop} {S : St}
    (hD : ∀ o ∈ ops.toList, dOk N o.dst = true) (h : rr P G ct ops ops.toList S [] fun S' _ => Q .normal S') : AWp P B N C0 (.region id ops false) Q S := by
  intro C a hk hs hN
  subst hN
  have hv0 : Valid P B G ops S.tm.length S.t S.m S.mem.length [] := trivial
  have hc0 : Cur S.tm.length S.t S.m S.mem.length S [] := ⟨fun _ => rfl, fun _ => rfl, rfl, rfl⟩
  obtain ⟨S', tr, hv, hc, hlen, hq⟩ := rr_sound hct (B := B) _ _ _ hv0 hc0 (by simp) hD h
  refine wp_region ?_
  have hps : PS B C S.tm.length S.t S.m tr (fun i => decide (i < 0)) a C := by
    have hno : ∀ {K X : Type} (wr : TE → K → Option X) (base : K → X), look wr base (fun i => decide (i < 0)) tr = base := fun wr base => funext fun k => look_none k tr (fun i _ => by simp)
    refine ⟨Kp.refl B C, by rw [hno]; exact hs.sr, fun t => by rw [hno]; exact hs.tm t, fun id h => .inl h, hs.size⟩
  rw [List.range_eq_range']
  refine seq_region (G := G) hv hlen (fun id h1 _ hal => absurd (hs.al id hal) (by omega)) (fun g C' hk' => hG g C' (hk.toKeep.trans hk')) a.defers (fun a' C' hd hps' => ⟨S', C', rfl, hq, hk.trans hps'.kp, ?_, hc.size⟩) ops.size 0 a C (by simpa using hlen.symm) rfl hps
  refine ⟨by have := hps'.sr; rw [show S'.m = look wrM S.m (fun _ => true) tr from funext hc.mem]; exact this, fun t => by rw [hc.tm t]; exact hps'.tm t, fun id hid => ?_, by rw [hps'.size, hc.size], by rw [hd]; exact hs.defers⟩
  rcases hps'.al id hid with h1 | ⟨l, te, r, e, _, h2, h3⟩
  · have := hs.al id h1
    have := (nextId_le hv).1
    rw [hc.n]; omega
  · have := (nextId_le hv).2 te (by rw [e]; simp)
    rw [hc.n]; omega

theorem awp_region_draw {P : Program} {B N : Nat} {C0 : Ctx} {G : Nat → V} {ct : FuncId → Option CSpec} (hct : CT P ct) (hG : HG G C0) (hm : P.follows .mixedOrders = true) {id : Nat} {ops : Array Oper} {Q : Exit → St → Prop} {S : St}
    (hD : ∀ o ∈ ops.toList, dOk N o.dst = true) (h : rr P G ct ops ops.toList S [] fun S' tr => drawOk ops tr = true ∧ Q .normal S') : AWp P B N C0 (.region id ops true) Q S := by
  intro C a hk hs hN
  subst hN
  have hv0 : Valid P B G ops S.tm.length S.t S.m S.mem.length [] := trivial
  have hc0 : Cur S.tm.length S.t S.m S.mem.length S [] := ⟨fun _ => rfl, fun _ => rfl, rfl, rfl⟩
  obtain ⟨S', tr, hv, hc, hlen, hdr, hq⟩ := rr_sound hct (B := B) _ _ _ hv0 hc0 (by simp) hD h
  obtain ⟨hT, hM, hback⟩ := drawOk_sound hdr
  refine wp_region_any hm ?_
  obtain ⟨hsd, hkd⟩ := hs.sr.drew
  have hl0 : (fun i => (Array.replicate ops.size false).getD i false) = fun _ => false := by
    funext i
    simp only [Array.getD_eq_getD_getElem?, Array.getElem?_replicate]
    split <;> rfl
  have hno : ∀ {K X : Type} (wr : TE → K → Option X) (base : K → X), look wr base (fun _ => false) tr = base := fun wr base => funext fun k => look_none k tr (fun i _ => rfl)
  have hps : PS B { C with w := C.w.drew } S.tm.length S.t S.m tr (fun _ => false) a { C with w := C.w.drew } := by
    refine ⟨Kp.refl B _, by rw [hno]; exact hsd, fun t => by rw [hno]; exact R.keep hkd.toKeep _ _ (hs.tm t), fun id h => .inl h, hs.size⟩
  have hk2 := hk.trans hkd
  have hQ : ∀ (a' : Act) (C' : Ctx), a'.defers = a.defers → PS B { C with w := C.w.drew } S.tm.length S.t S.m tr (fun _ => true) a' C' → CPost B S.tm.length C0 Q .normal a' C'.w := by
    intro a' C' hd hps'
    refine ⟨S', C', rfl, hq, hk2.trans hps'.kp, ?_, hc.size⟩
    refine ⟨by have := hps'.sr; rw [show S'.m = look wrM S.m (fun _ => true) tr from funext hc.mem]; exact this, fun t => by rw [hc.tm t]; exact hps'.tm t, fun id hid => ?_, by rw [hps'.size, hc.size], by rw [hd]; exact hs.defers⟩
    rcases hps'.al id hid with h1 | ⟨l, te, r, e, _, h2, h3⟩
    · have := hs.al id h1
      have := (nextId_le hv).1
      rw [hc.n]; omega
    · have := (nextId_le hv).2 te (by rw [e]; simp)
      rw [hc.n]; omega
  refine any_region (C0 := { C with w := C.w.drew }) (G := G) hv hlen hT hM hback (fun id h1 _ hal => absurd (hs.al id hal) (by omega)) (fun g C' hk' => hG g C' (hk2.toKeep.trans hk')) a.defers hQ ops.size (Array.replicate ops.size false) a _ (by simp) ?_ ?_ rfl (by rw [hl0]; exact hps)
  · have := List.countP_le_length (p := fun i => !(Array.replicate ops.size false).getD i false) (l := List.range ops.size)
    simpa using this
  · intro l te r e hs'
    rw [hl0] at hs'; cases hs'

end Go.Ab
