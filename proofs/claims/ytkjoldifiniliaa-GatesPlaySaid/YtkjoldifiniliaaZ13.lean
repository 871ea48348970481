/- The tables are right, if a look says so; contracts from a run. No condition. -/
import Derived.Test.YtkjoldifiniliaaZ12
set_option linter.unusedVariables false
set_option linter.unusedSimpArgs false
set_option linter.constructorNameAsVariable false
namespace Go.Ab
open Go.RowKit
noncomputable section

/-! ### Functions -/
def ftStep (a : Tr (Option Func) × Pth) (f : Func) : Tr (Option Func) × Pth := (set (some f) a.2 a.1, psucc a.2)
def FTof (l : List Func) : Tr (Option Func) := (l.foldl ftStep (.e, [])).1
def fnOk (f : Func) : Bool := match f.body with
  | some c => !(f.name == "runtime.NumGoroutine") && codeOk f.ntmps c
  | none => true
theorem ft_get : ∀ (l : List Func) (t : Tr (Option Func)) (p q : Pth), get none q (l.foldl ftStep (t, p)).1 = if num p ≤ num q ∧ num q < num p + l.length then l[num q - num p]? else get none q t
  | [], t, p, q => by rw [if_neg (by simp only [List.length_nil]; omega)]; rfl
  | f :: l, t, p, q => by
    show get none q (l.foldl ftStep (set (some f) p t, psucc p)).1 = _
    rw [ft_get l, num_psucc]
    by_cases h1 : num p + 1 ≤ num q ∧ num q < num p + 1 + l.length
    · rw [if_pos h1, if_pos (by simp only [List.length_cons]; omega)]
      rw [show num q - num p = (num q - (num p + 1)) + 1 by omega]; rfl
    · rw [if_neg h1]
      by_cases h2 : num q = num p
      · have := num_inj h2
        subst this
        rw [get_set_same, if_pos (by simp)]
        simp
      · rw [get_set_ne _ _ _ _ _ (fun e => h2 (by rw [e])), if_neg (by simp only [List.length_cons]; omega)]
/-- A function without a body bears another name, or is never called. -/
theorem FTof_get {l : List Func} {f : Nat} {fn : Func} (h : get none (enc f) (FTof l) = some fn) : l[f]? = some fn := by
  unfold FTof at h
  rw [ft_get, num_enc] at h
  simp only [num, Nat.zero_le, true_and, Nat.zero_add, Nat.sub_zero] at h
  split at h
  · exact h
  · rw [get_e] at h; cases h
def fnOk' (f : Func) : Bool := !(f.name == "runtime.NumGoroutine") && (match f.body with | some c => codeOk f.ntmps c | none => true)
theorem FTof_ok {P : Program} (h : (P.funcs.toList.all fnOk') = true) {ct : Tr CtO} (hc : ∀ f g, get .no (enc f) ct = .ct g → CtOK P f g) : FTok P (.mk (FTof P.funcs.toList) ct) := by
  refine ⟨fun f fn hg => ?_, hc⟩
  have h1 := FTof_get hg
  rw [Array.getElem?_toList] at h1
  have h2 := List.all_eq_true.1 h fn (by
    have := (Array.getElem?_eq_some_iff.1 h1)
    obtain ⟨hlt, he⟩ := this
    rw [← he]
    exact Array.getElem_mem_toList hlt)
  simp only [fnOk', Bool.and_eq_true, Bool.not_eq_true'] at h2
  refine ⟨h1, h2.1, fun c hc => ?_⟩
  have h3 := h2.2
  rw [hc] at h3
  exact h3
theorem noCt (P : Program) : ∀ f g, get CtO.no (enc f) .e = .ct g → CtOK P f g := fun f g h => by rw [get_e] at h; cases h
theorem addCt {P : Program} {ct : Tr CtO} (hc : ∀ f g, get .no (enc f) ct = .ct g → CtOK P f g) {fid : FuncId} {g : List X → (X → Prop) → Prop} (hg : CtOK P fid g) : ∀ f g', get .no (enc f) (set (.ct g) (enc fid) ct) = .ct g' → CtOK P f g' := fun f g' h => by
  rw [get_set] at h
  split at h
  · rename_i he
    cases h
    rw [enc_inj he]; exact hg
  · exact hc f g' h

/-! ### Types -/
def wfB (P : Program) : Nat → X → Bool
  | 0, _ => false
  | _ + 1, .int _ _ => true
  | _ + 1, .bool _ => true
  | _ + 1, .str _ => true
  | _ + 1, .nilp => true
  | _ + 1, .nils => true
  | _ + 1, .nilf => true
  | _ + 1, .unk => true
  | d + 1, .agg c l => (shOf P c).beq (shL P l) && l.all (wfB P d)
  | d + 1, .arr c n .e z => wfB P d z && (shX P z).beq (shOf P c)
  | _ + 1, _ => false
theorem wfB_ok {P : Program} : ∀ (d : Nat) {x : X}, wfB P d x = true → WF P x
  | 0, x, h => by simp [wfB] at h
  | d + 1, x, h => by
    cases x with
    | agg c l =>
      simp only [wfB, Bool.and_eq_true, List.all_eq_true] at h
      exact .agg (Shape.eq_of_beq h.1) fun x hx => wfB_ok d (h.2 x hx)
    | arr c n t z =>
      cases t with
      | e =>
        simp only [wfB, Bool.and_eq_true] at h
        exact .arr (fun p => by rw [get_e]; exact wfB_ok d h.1) (fun p => by rw [get_e]; exact Shape.eq_of_beq h.2)
      | _ => simp [wfB] at h
    | int k n => exact .lf rfl
    | bool b => exact .lf rfl
    | str s => exact .lf rfl
    | nilp => exact .lf rfl
    | nils => exact .lf rfl
    | nilf => exact .lf rfl
    | unk => exact .lf rfl
    | _ => simp [wfB] at h
def isUnk : X → Bool
  | .unk => true
  | _ => false
def isDescInt (k : IntKind) : Option TypeDesc → Bool
  | some (.int j) => decide (j = k)
  | _ => false
def isDescBool : Option TypeDesc → Bool
  | some .bool => true
  | _ => false
def isDescStr : Option TypeDesc → Bool
  | some .string => true
  | _ => false
def chkZ (P : Program) (t c : Nat) (z : X) : Bool := isUnk z || (wfB P 12 z && (shX P z).beq (shOf P c) && (match P.info? t with
  | some i => match i.zero with
    | some zv => decide (zv.cells.size = (shOf P c).size) && (z.toV P).held (shOf P c) (fun j => zv.cells[j]?) 0
    | none => false
  | none => false))
def chkFs (P : Program) (t c : Nat) (pl : Nat → Option (Nat × Nat)) : Nat → List Nat → Bool
  | _, [] => true
  | i, ci :: cs => (match fdAt P t i, (shOf P c).fld i, pl i with
    | some d, some (d1, s), some (d2, z) => decide (d1 = d) && s.beq (shOf P ci) && decide (d2 = d) && decide (z = (shOf P ci).size)
    | _, _, _ => false) && chkFs P t c pl (i + 1) cs
def chkK (P : Program) (t c : Nat) : TK → Bool
  | .int k => isDescInt k (P.underlying t)
  | .bool => isDescBool (P.underlying t)
  | .str => isDescStr (P.underlying t)
  | .struct cs _ => match places P t with
    | some (true, pl) => chkFs P t c pl 0 cs
    | _ => false
  | .array n e _ => iaAt P t n (shOf P e) && (shOf P c).beq (.arr n (shOf P e)) && (match places P t with
    | some (false, _) => true
    | _ => false)
  | .slice e te sz => ixAt P t (shOf P e) && (match P.underlying t with
    | some (.slice te') => decide (te' = te)
    | _ => false) && (match tshape P te with
    | some s => s.beq (shOf P e)
    | none => false) && decide ((shOf P e).size = sz) && (match P.info? te with
    | some i => decide (i.bytes ≤ 1048576)
    | none => false)
  | .other => true
def chkCm (P : Program) (t : Nat) : TK → Bool
  | .struct _ ts => (match P.underlying t with
    | some (.struct fs) => decide (fs.toList.map (·.type) = ts) && fs.toList.all fun f => f.name != "_"
    | _ => false) && !P.stoodInHeld t && lay P 12 t && !P.eqGuardType P.depth t
  | .array n _ te => (match P.underlying t with
    | some (.array n' te') => decide (n' = n) && decide (te' = te)
    | _ => false) && lay P 12 t && !P.eqGuardType P.depth t
  | .int _ => true
  | .bool => true
  | .str => true
  | _ => false
def chkTI (P : Program) (t : Nat) : TI → Bool
  | .no => true
  | .mk c sc z k cm => (match tshape P t with
    | some s => s.beq (shOf P c)
    | none => false) && (P.underlying t).isSome && (!sc || (shOf P c).isSc) && chkZ P t c z && chkK P t c k && (!cm || chkCm P t k)

theorem chkFs_ok {P : Program} {t c : Nat} {pl : Nat → Option (Nat × Nat)} : ∀ (i : Nat) (cs : List Nat), chkFs P t c pl i cs = true → ∀ j ci, cs[j]? = some ci → ∃ d, fdAt P t (i + j) = some d ∧ (shOf P c).fld (i + j) = some (d, shOf P ci) ∧ pl (i + j) = some (d, (shOf P ci).size)
  | i, [], _, j, ci, h => by simp at h
  | i, c0 :: cs, h, j, ci, hj => by
    simp only [chkFs, Bool.and_eq_true] at h
    cases j with
    | zero =>
      simp only [List.getElem?_cons_zero, Option.some.injEq] at hj
      subst hj
      have h1 := h.1
      split at h1
      · rename_i d d1 s d2 z e1 e2 e3
        simp only [Bool.and_eq_true, decide_eq_true_eq] at h1
        obtain ⟨⟨⟨rfl, h2⟩, rfl⟩, rfl⟩ := h1
        rw [Shape.eq_of_beq h2] at e2
        exact ⟨_, e1, e2, e3⟩
      · cases h1
    | succ j =>
      have := chkFs_ok (i + 1) cs h.2 j ci (by simpa using hj)
      rw [show i + (j + 1) = i + 1 + j by omega]
      exact this
theorem chkTI_ok {P : Program} {t c : Nat} {sc : Bool} {z : X} {k : TK} {cm : Bool} (h : chkTI P t (.mk c sc z k cm) = true) : TIok P t c sc z k ∧ (cm = true → CMok P t k) := by
  simp only [chkTI, Bool.and_eq_true] at h
  obtain ⟨⟨⟨⟨⟨h1, h2⟩, h3⟩, h4⟩, h5⟩, h6⟩ := h
  have hsh : tshape P t = some (shOf P c) := by
    split at h1
    · rename_i s hs; rw [hs, Shape.eq_of_beq h1]
    · cases h1
  refine ⟨⟨hsh, Option.isSome_iff_exists.1 h2, fun hs => ?_, ?_, ?_⟩, fun hc => ?_⟩
  · subst hs
    simp only [Bool.not_true, Bool.false_or] at h3
    cases hq : shOf P c <;> rw [hq] at h3 <;> first | rfl | cases h3
  · unfold chkZ at h4
    rw [Bool.or_eq_true] at h4
    rcases h4 with h4 | h4
    · left; cases z <;> first | rfl | cases h4
    · right
      simp only [Bool.and_eq_true] at h4
      obtain ⟨⟨h7, h8⟩, h9⟩ := h4
      refine ⟨wfB_ok 12 h7, Shape.eq_of_beq h8, hsh, ?_⟩
      split at h9
      · rename_i i hi
        split at h9
        · rename_i zv hz
          simp only [Bool.and_eq_true, decide_eq_true_eq] at h9
          exact ⟨i, zv, hi, hz, h9.1, h9.2⟩
        · cases h9
      · cases h9
  · cases k with
    | int ik =>
      have : isDescInt ik (P.underlying t) = true := h5
      unfold isDescInt at this
      split at this
      · rename_i j hj; simp only [decide_eq_true_eq] at this; subst this; exact hj
      · cases this
    | bool =>
      have : isDescBool (P.underlying t) = true := h5
      unfold isDescBool at this
      split at this
      · rename_i hj; exact hj
      · cases this
    | str =>
      have : isDescStr (P.underlying t) = true := h5
      unfold isDescStr at this
      split at this
      · rename_i hj; exact hj
      · cases this
    | struct cs ts =>
      simp only [chkK] at h5
      split at h5
      · rename_i pl hpl
        refine ⟨pl, hpl, fun i ci hci => ?_⟩
        have := chkFs_ok 0 cs h5 i ci hci
        simpa using this
      · cases h5
    | array n e te =>
      simp only [chkK, Bool.and_eq_true] at h5
      obtain ⟨⟨h7, h8⟩, h9⟩ := h5
      refine ⟨h7, Shape.eq_of_beq h8, ?_⟩
      split at h9
      · rename_i pl hpl
        refine ⟨pl, hpl, fun i => ?_⟩
        obtain ⟨el, inf, hu, hi, hz⟩ := iaAt_spec h7
        unfold places at hpl
        rw [hu] at hpl
        simp only [hi, Option.map_some, Option.some.injEq, Prod.mk.injEq, true_and] at hpl
        rw [← hpl, hz]
      · cases h9
    | slice e te sz =>
      simp only [chkK, Bool.and_eq_true, decide_eq_true_eq] at h5
      obtain ⟨⟨⟨⟨h7, h8⟩, h9⟩, h10⟩, h11⟩ := h5
      refine ⟨h7, ?_, ?_, h10, ?_⟩
      · split at h8
        · rename_i te' hu; simp only [decide_eq_true_eq] at h8; subst h8; exact hu
        · cases h8
      · split at h9
        · rename_i s hs; rw [hs, Shape.eq_of_beq h9]
        · cases h9
      · split at h11
        · rename_i i hi; exact ⟨i, hi, by simpa using h11⟩
        · cases h11
    | other => trivial
  · subst hc
    simp only [Bool.not_true, Bool.false_or] at h6
    cases k with
    | struct cs ts =>
      simp only [chkCm, Bool.and_eq_true, Bool.not_eq_true'] at h6
      obtain ⟨⟨⟨h7, h8⟩, h9⟩, h10⟩ := h6
      split at h7
      · rename_i fs hu
        simp only [Bool.and_eq_true, decide_eq_true_eq] at h7
        exact ⟨fs, hu, h7.1, h7.2, h8, h9, h10⟩
      · cases h7
    | array n e te =>
      simp only [chkCm, Bool.and_eq_true, Bool.not_eq_true'] at h6
      obtain ⟨⟨h7, h9⟩, h10⟩ := h6
      split at h7
      · rename_i n' te' hu
        simp only [Bool.and_eq_true, decide_eq_true_eq] at h7
        obtain ⟨rfl, rfl⟩ := h7
        exact ⟨hu, h9, h10⟩
      · cases h7
    | int ik => trivial
    | bool => trivial
    | str => trivial
    | _ => cases h6
/-- Every type of a table, by its place. -/
def allT (P : Program) : Tr TI → Pth → Bool
  | .e, _ => true
  | .m a b c d, p => allT P a (.a :: p) && allT P b (.b :: p) && allT P c (.c :: p) && allT P d (.d :: p)
  | .n x a b c d, p => chkTI P (num p.reverse) x && allT P a (.a :: p) && allT P b (.b :: p) && allT P c (.c :: p) && allT P d (.d :: p)
theorem allT_ok {P : Program} : ∀ (t : Tr TI) (q p : Pth), allT P t q = true → chkTI P (num (q.reverse ++ p)) (get .no p t) = true
  | .e, q, p, _ => by rw [get_e]; rfl
  | .m a b c d, q, [], _ => rfl
  | .m a b c d, q, g :: p, h => by
    simp only [allT, Bool.and_eq_true] at h
    obtain ⟨⟨⟨h1, h2⟩, h3⟩, h4⟩ := h
    cases g with
    | a => have := allT_ok a (.a :: q) p h1; rw [List.reverse_cons, List.append_assoc] at this; exact this
    | b => have := allT_ok b (.b :: q) p h2; rw [List.reverse_cons, List.append_assoc] at this; exact this
    | c => have := allT_ok c (.c :: q) p h3; rw [List.reverse_cons, List.append_assoc] at this; exact this
    | d => have := allT_ok d (.d :: q) p h4; rw [List.reverse_cons, List.append_assoc] at this; exact this
  | .n x a b c d, q, [], h => by
    simp only [allT, Bool.and_eq_true] at h
    rw [List.append_nil]; exact h.1.1.1.1
  | .n x a b c d, q, g :: p, h => by
    simp only [allT, Bool.and_eq_true] at h
    obtain ⟨⟨⟨⟨_, h1⟩, h2⟩, h3⟩, h4⟩ := h
    cases g with
    | a => have := allT_ok a (.a :: q) p h1; rw [List.reverse_cons, List.append_assoc] at this; exact this
    | b => have := allT_ok b (.b :: q) p h2; rw [List.reverse_cons, List.append_assoc] at this; exact this
    | c => have := allT_ok c (.c :: q) p h3; rw [List.reverse_cons, List.append_assoc] at this; exact this
    | d => have := allT_ok d (.d :: q) p h4; rw [List.reverse_cons, List.append_assoc] at this; exact this
theorem TTof_ok {P : Program} {T : Tr TI} (h : allT P T [] = true) : TTok P T := fun t c sc z k cm hg => by
  have h1 := allT_ok T [] (enc t) h
  simp only [List.reverse_nil, List.nil_append, num_enc, hg] at h1
  exact chkTI_ok h1

/-- True. -/
def isTrueX (x : X) : Prop := @X.rec (fun _ => Prop) (fun _ => Unit) (fun _ => Unit) (fun _ _ => False) (fun b => b = true) (fun _ _ => False) (fun b => b = true) (fun _ => False) (fun _ _ _ => False) (fun _ _ _ _ _ _ => False) (fun _ _ _ => False) (fun _ _ _ => False) (fun _ _ _ _ _ _ => False) False False False (fun _ _ _ => False) (fun _ _ => False) (fun _ _ => False) (fun _ _ _ => False) False () (fun _ _ _ _ => ()) () (fun _ _ _ _ _ _ _ _ => ()) (fun _ _ _ _ _ _ _ _ _ _ => ()) x
theorem isTrueX_inv {P : Program} {x : X} (h : isTrueX x) : x.toV P = .bool true := by
  cases x <;> first | (have h1 : _ = true := h; subst h1; rfl) | exact False.elim h
theorem of_same {p q : Prop} (h : p = q) (hq : q) : p := by rw [h]; exact hq

/-! ### Contracts -/
/-- A function that is called with plain values, and hands back such. -/
theorem csound_run {P : Program} {FT : FTb} {T : Tr TI} (hF : FTok P FT) (hT : TTok P T) (hm : P.follows .mixedOrders = true) {n : Nat} {fid : FuncId} {s : CSpec} (xs : List V → List X)
    (hpre : ∀ args, s.pre args → X.toVL P (xs args) = mkL args ∧ noRef (mkL args) = true ∧ ∀ y ∈ xs args, WF P y)
    (Kf : List V → X → Prop) (hK : ∀ args v, s.pre args → Kf args v → v.toV P = s.res args) (h : ∀ args, s.pre args → callZ (run FT T n) FT T (.fn fid []) (xs args) .e [] fun v _ _ => Kf args v) (hres : ∀ args, s.pre args → noRef (s.res args) = true) (hex : ∃ args, s.pre args) : CSound P fid s := by
  have key : ∀ B args, s.pre args → ∃ fn, P.funcs[fid]? = some fn ∧ (fn.name == "runtime.NumGoroutine") = false ∧ fn.body.isNone = false ∧ ∃ v zm' nx', v.toV P = s.res args ∧ ZCall P B fid (xs args) [] .e [] v zm' nx' := by
    intro B args hp
    obtain ⟨f, caps, fn, hf, h1, h2, h3, v, zm', nx', k1, _, _, _, _, k6⟩ := callZ_inv (run_ok hF hT hm n (B := B)) hF hT (h args hp) (.fn (by intro x hx; cases hx)) (hpre args hp).2.2 wfm_e (fun id _ => zmem_e id)
    cases hf
    exact ⟨fn, h1, h2, h3, v, zm', nx', hK args v hp k1, k6⟩
  obtain ⟨a0, h0⟩ := hex
  obtain ⟨fn, h1, h2, h3, _⟩ := key 0 a0 h0
  refine ⟨⟨fn, h1, h2, h3⟩, fun C args vals hok hargs hp => ?_⟩
  obtain ⟨_, _, _, _, v, zm', nx', k1, k2⟩ := key C.w.heap.size args hp
  let C1 : Ctx := { C.pur with ok := fun _ _ => False }
  have hz : ZR P C.w.heap.size (num nx') C1 (fun _ => none) .e [] :=
    ⟨⟨Nat.le_refl _, fun _ _ h => h.elim, (fun _ _ h => by cases h), (fun _ _ h => by cases h), (fun _ _ _ _ _ h => by cases h), (fun _ _ _ h => by cases h)⟩, (fun id b hb => by rw [zmem_e] at hb; cases hb), (fun _ _ _ h => h), wfm_e⟩
  have hR : R C1 (X.toVL P (xs args)) (.list vals) := by rw [(hpre args hp).1]; exact R.noref _ (hpre args hp).2.1 hargs
  have k3 := k2 (num nx') C1 (fun _ => none) vals [] (Nat.le_refl _) hz hR rfl
  rw [List.append_nil] at k3
  refine Calls.mono k3 ?_
  rintro e w' ⟨val, rfl, C', M', rfl, h4, h5, h6⟩
  exact ⟨h6.kp.below, val, rfl, R.noref _ (hres args hp) (by rw [k1] at h4; exact h4)⟩
/-- From a contract to one of the run. -/
theorem ct_of {P : Program} {fid : FuncId} {s : CSpec} (h : CSound P fid s) {g : List X → (X → Prop) → Prop}
    (hg : ∀ l K, g l K → (∀ y ∈ l, WF P y) → ∃ v args, K v ∧ WFT P v ∧ X.toVL P l = mkL args ∧ noRef (mkL args) = true ∧ s.pre args ∧ s.res args = v.toV P ∧ noRef (v.toV P) = true) : CtOK P fid g := by
  intro l K hk hl
  obtain ⟨v, args, h1, h2, h3, h4, h5, h6, h7⟩ := hg l K hk hl
  refine ⟨h.1, v, h1, h2, fun C vals hok hr => ?_⟩
  refine (h.2 C args vals hok (by rw [h3] at hr; exact R.noref _ h4 hr) h5).mono ?_
  rintro e w' ⟨hb, r, he, hR⟩
  exact ⟨hb, r, he, fun C' => by rw [← h6] at h7 ⊢; exact R.noref _ h7 hR⟩
/-- A whole number of a kind, worked out or not. -/
def numV (k0 : IntKind) (x : X) (f : Int → Prop) : Prop := numK x (fun k n => ifP (ikEq k k0) (f n)) (fun k n => ifP (ikEq k k0) (f n))
theorem numV_inv {P : Program} {k0 : IntKind} {x : X} {f : Int → Prop} (h : numV k0 x f) : ∃ n, x.toV P = .int k0 n ∧ f n := by
  rcases numK_inv h with ⟨k, n, rfl, h1⟩ | ⟨k, n, rfl, h1⟩
  · obtain ⟨h2, h3⟩ := ifP_inv h1; obtain rfl := ikEq_eq h2; exact ⟨n, rfl, h3⟩
  · obtain ⟨h2, h3⟩ := ifP_inv h1; obtain rfl := ikEq_eq h2; exact ⟨n, rfl, h3⟩
def consK (l : List X) (f : X → List X → Prop) : Prop := @List.rec X (fun _ => Prop) False (fun x l _ => f x l) l
theorem consK_inv {l : List X} {f : X → List X → Prop} (h : consK l f) : ∃ x r, l = x :: r ∧ f x r := by
  cases l with
  | nil => exact False.elim h
  | cons x r => exact ⟨x, r, rfl, h⟩
theorem xNil_inv {l : List X} {p : Prop} (h : xNil l p) : l = [] ∧ p := by
  cases l with
  | nil => exact ⟨rfl, h⟩
  | cons => exact False.elim h
end
end Go.Ab
