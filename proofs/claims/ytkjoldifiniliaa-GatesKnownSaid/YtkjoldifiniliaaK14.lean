/- From runs to what is shown: pieces of code, closed contracts. No condition. -/
import Derived.Test.YtkjoldifiniliaaK13
set_option linter.unusedVariables false
set_option linter.unusedSimpArgs false
set_option linter.constructorNameAsVariable false
namespace Go.K
open Go.Ab Go.RowKit Go.Y
noncomputable section
variable [KGl]

/-! ### Equality of values in this form -/
def stepB (a b : Step) : Bool := match a, b with
  | .fld i, .fld j => Nat.beq i j
  | .idx i, .idx j => Nat.beq i j
  | _, _ => false
def pathB : List Step → List Step → Bool
  | [], [] => true
  | a :: p, b :: q => nd (stepB a b) (pathB p q)
  | _, _ => false
omit [KGl] in
theorem pathB_s : ∀ {p q : List Step}, pathB p q = true → p = q
  | [], [], _ => rfl
  | [], _ :: _, h => by cases h
  | _ :: _, [], h => by cases h
  | a :: p, b :: q, h => by
    obtain ⟨h1, h2⟩ := nd_iff.1 (show nd (stepB a b) (pathB p q) = true from h)
    rw [pathB_s h2]
    cases a <;> cases b <;> first | (cases h1; done) | rw [beqE h1]
def intB (a b : Int) : Bool := match a, b with
  | .ofNat m, .ofNat n => Nat.beq m n
  | .negSucc m, .negSucc n => Nat.beq m n
  | _, _ => false
omit [KGl] in
theorem intB_s {a b : Int} (h : intB a b = true) : a = b := by
  unfold intB at h
  split at h
  · rw [beqE h]
  · rw [beqE h]
  · cases h
omit [KGl] in
theorem beqB_s {a b : Bool} (h : beqB a b = true) : a = b := by rw [beqB_eq] at h; simpa using h
def optB (a b : Option Nat) : Bool := match a, b with
  | none, none => true
  | some m, some n => Nat.beq m n
  | _, _ => false
omit [KGl] in
theorem optB_s {a b : Option Nat} (h : optB a b = true) : a = b := by
  unfold optB at h
  split at h
  · rfl
  · rw [beqE h]
  · cases h
def kvb : KV → KV → Bool
  | .int k n, .int k' n' => nd (ikEq k k') (intB n n')
  | .bool a, .bool b => beqB a b
  | .str n x, .str n' x' => nd (Nat.beq n n') (Nat.beq x x')
  | .nl, .nl => true
  | .cons h t, .cons h' t' => nd (kvb h h') (kvb t t')
  | .pk k n x, .pk k' n' x' => nd (ikEq k k') (nd (Nat.beq n n') (Nat.beq x x'))
  | .ar n d t, .ar n' d' t' => nd (Nat.beq n n') (nd (kvb d d') (kvb t t'))
  | .te, .te => true
  | .tb a b c d, .tb a' b' c' d' => nd (kvb a a') (nd (kvb b b') (nd (kvb c c') (kvb d d')))
  | .tn x a b c d, .tn x' a' b' c' d' => nd (kvb x x') (nd (kvb a a') (nd (kvb b b') (nd (kvb c c') (kvb d d'))))
  | .ptr id p s, .ptr id' p' s' => nd (Nat.beq id id') (nd (pathB p p') (s.beq s'))
  | .row id s n, .row id' s' n' => nd (Nat.beq id id') (nd (s.beq s') (Nat.beq n n'))
  | .sl id p s off len cap, .sl id' p' s' off' len' cap' => nd (Nat.beq id id') (nd (pathB p p') (nd (s.beq s') (nd (Nat.beq off off') (nd (Nat.beq len len') (optB cap cap')))))
  | .ref w s c, .ref w' s' c' => nd (beqB w w') (nd (s.beq s') (kvb c c'))
  | .nilp, .nilp => true
  | .nils, .nils => true
  | .nilf, .nilf => true
  | .ro w cl s off len c, .ro w' cl' s' off' len' c' => nd (beqB w w') (nd (beqB cl cl') (nd (s.beq s') (nd (Nat.beq off off') (nd (Nat.beq len len') (kvb c c')))))
  | .fn f c, .fn f' c' => nd (Nat.beq f f') (kvb c c')
  | .tup l, .tup l' => kvb l l'
  | .unk, .unk => true
  | _, _ => false
omit [KGl] in
theorem kvb_s : ∀ {v w : KV}, kvb v w = true → v = w := by
  intro v
  induction v with
  | cons a b ih1 ih2 =>
    intro w h
    cases w <;> first | (cases h; done) | skip
    obtain ⟨h1, h2⟩ := nd_iff.1 h
    rw [ih1 h1, ih2 h2]
  | int k n =>
    intro w h
    cases w <;> first | (cases h; done) | skip
    obtain ⟨h1, h2⟩ := nd_iff.1 h
    rw [ikEq_eq h1, intB_s h2]
  | bool b =>
    intro w h
    cases w <;> first | (cases h; done) | skip
    rw [beqB_s h]
  | str n x =>
    intro w h
    cases w <;> first | (cases h; done) | skip
    obtain ⟨h1, h2⟩ := nd_iff.1 h
    rw [beqE h1, beqE h2]
  | pk k n x =>
    intro w h
    cases w <;> first | (cases h; done) | skip
    obtain ⟨h1, h2⟩ := nd_iff.1 h
    obtain ⟨h2, h3⟩ := nd_iff.1 h2
    rw [ikEq_eq h1, beqE h2, beqE h3]
  | ar n d t ih1 ih2 =>
    intro w h
    cases w <;> first | (cases h; done) | skip
    obtain ⟨h1, h2⟩ := nd_iff.1 h
    obtain ⟨h2, h3⟩ := nd_iff.1 h2
    rw [beqE h1, ih1 h2, ih2 h3]
  | tb a b c d ih1 ih2 ih3 ih4 =>
    intro w h
    cases w <;> first | (cases h; done) | skip
    obtain ⟨h1, h2⟩ := nd_iff.1 h
    obtain ⟨h2, h3⟩ := nd_iff.1 h2
    obtain ⟨h3, h4⟩ := nd_iff.1 h3
    rw [ih1 h1, ih2 h2, ih3 h3, ih4 h4]
  | tn x a b c d ih0 ih1 ih2 ih3 ih4 =>
    intro w h
    cases w <;> first | (cases h; done) | skip
    obtain ⟨h0, h1⟩ := nd_iff.1 h
    obtain ⟨h1, h2⟩ := nd_iff.1 h1
    obtain ⟨h2, h3⟩ := nd_iff.1 h2
    obtain ⟨h3, h4⟩ := nd_iff.1 h3
    rw [ih0 h0, ih1 h1, ih2 h2, ih3 h3, ih4 h4]
  | ptr id p s =>
    intro w h
    cases w <;> first | (cases h; done) | skip
    obtain ⟨h1, h2⟩ := nd_iff.1 h
    obtain ⟨h2, h3⟩ := nd_iff.1 h2
    rw [beqE h1, pathB_s h2, Shape.eq_of_beq h3]
  | row id s n =>
    intro w h
    cases w <;> first | (cases h; done) | skip
    obtain ⟨h1, h2⟩ := nd_iff.1 h
    obtain ⟨h2, h3⟩ := nd_iff.1 h2
    rw [beqE h1, Shape.eq_of_beq h2, beqE h3]
  | sl id p s off len cap =>
    intro w h
    cases w <;> first | (cases h; done) | skip
    obtain ⟨h1, h2⟩ := nd_iff.1 h
    obtain ⟨h2, h3⟩ := nd_iff.1 h2
    obtain ⟨h3, h4⟩ := nd_iff.1 h3
    obtain ⟨h4, h5⟩ := nd_iff.1 h4
    obtain ⟨h5, h6⟩ := nd_iff.1 h5
    rw [beqE h1, pathB_s h2, Shape.eq_of_beq h3, beqE h4, beqE h5, optB_s h6]
  | ref w s c ih =>
    intro w h
    cases w <;> first | (cases h; done) | skip
    obtain ⟨h1, h2⟩ := nd_iff.1 h
    obtain ⟨h2, h3⟩ := nd_iff.1 h2
    rw [beqB_s h1, Shape.eq_of_beq h2, ih h3]
  | ro u cl s off len c ih =>
    intro w h
    cases w <;> first | (cases h; done) | skip
    obtain ⟨h1, h2⟩ := nd_iff.1 h
    obtain ⟨h2, h3⟩ := nd_iff.1 h2
    obtain ⟨h3, h4⟩ := nd_iff.1 h3
    obtain ⟨h4, h5⟩ := nd_iff.1 h4
    obtain ⟨h5, h6⟩ := nd_iff.1 h5
    rw [beqB_s h1, beqB_s h2, Shape.eq_of_beq h3, beqE h4, beqE h5, ih h6]
  | fn f c ih =>
    intro w h
    cases w <;> first | (cases h; done) | skip
    obtain ⟨h1, h2⟩ := nd_iff.1 h
    rw [beqE h1, ih h2]
  | tup l ih =>
    intro w h
    cases w <;> first | (cases h; done) | skip
    rw [ih h]
  | _ => intro w h; cases w <;> first | rfl | (cases h; done)
def kvbs : List KV → List KV → Bool
  | [], [] => true
  | a :: l, b :: r => nd (kvb a b) (kvbs l r)
  | _, _ => false
omit [KGl] in
theorem kvbs_s : ∀ {l r : List KV}, kvbs l r = true → l = r
  | [], [], _ => rfl
  | [], _ :: _, h => by cases h
  | _ :: _, [], h => by cases h
  | a :: l, b :: r, h => by
    obtain ⟨h1, h2⟩ := nd_iff.1 (show nd (kvb a b) (kvbs l r) = true from h)
    rw [kvb_s h1, kvbs_s h2]
/-- It holds, and it is quickly seen. -/
def tK (b : Bool) : Prop := @Bool.rec (fun _ => Prop) False True b
omit [KGl] in
theorem tK_s {b : Bool} (h : tK b) : b = true := by
  cases b with
  | true => rfl
  | false => exact (show False from h).elim

/-! ### Closed contracts -/
/-- A function that was run: on these arguments it hands back this. -/
theorem csoundK {E : KEnv} (hE : KOk E) {n fid : Nat} {args : List KV} {v : KV} (h : callR E (krun E n) 0 fid args .e 0 0 fun r _ _ _ => tK (kvb r v)) (hv : noRef v.v = true) :
    CSoundG E.P fid { pre := fun l => @decide (l = args.map KV.v) (Classical.propDecidable _), res := fun _ => v.v, fresh := true } := by
  have hme : MB (am (.e : KZ)) 0 := by rw [am_e]; exact emptyB 0
  refine ⟨(callR_s (B := 0) (krun_ok hE n) hE h hme (Nat.le_refl 0)).1, fun C l vals hok hg hargs hpre => ?_⟩
  have hl : l = args.map KV.v := @of_decide_eq_true _ (Classical.propDecidable _) hpre
  subst hl
  obtain ⟨_, r, zm', nx', mx', h1, h2, h3⟩ := callR_s (B := C.w.heap.size) (krun_ok hE n) hE h hme (Nat.le_refl 0)
  obtain rfl := kvb_s (tK_s h1)
  have hz : GR C.w.heap.size (nx' + mx') C.pur (fun _ => none) (am .e) 0 :=
    ⟨⟨Nat.le_refl _, hok, (fun _ _ h => nomatch h), (fun _ _ h => nomatch h), (fun _ _ _ _ _ h => nomatch h), (fun _ _ _ h => nomatch h), hg⟩, (fun id b hb => by rw [am_e] at hb; cases hb), fun _ _ _ h => h⟩
  refine (h3 (nx' + mx') C.pur (fun _ => none) vals (by omega) (by omega) hz hargs).mono ?_
  rintro e w' ⟨val, he, C', M', hw, hR, _, hc⟩
  subst hw
  exact ⟨hc.kp.below, val, he, R.noref _ hv hR⟩
/-- The contract, as the run takes it. -/
def kcon (args : List KV) (v : KV) : KSpec := fun l K => chk (kvbs l args) 190 (K v)
theorem kcon_s {E : KEnv} (hE : KOk E) {n fid : Nat} {args : List KV} {v : KV} (h : callR E (krun E n) 0 fid args .e 0 0 fun r _ _ _ => tK (kvb r v)) (hv : noRef v.v = true) (hn : noId (mkL (args.map KV.v)) = true) : KCS E.P fid (kcon args v) := by
  have hc := csoundK hE h hv
  refine ⟨hc.1, fun l K hs => ?_⟩
  obtain ⟨h1, h2⟩ := chk_inv hs
  obtain rfl := kvbs_s h1
  refine ⟨v, h2, fun B μ nx mx => ?_⟩
  have hu : unL (mkL (l.map KV.v)) = l.map KV.v := by
    generalize l.map KV.v = r
    induction r with
    | nil => rfl
    | cons x r ih => show x :: unL (mkL r) = _; rw [ih]
  have := con_call (B := B) (μ := μ) (nx := nx) (mx := mx) hE.gn hc rfl hn (by rw [hu]; exact @decide_eq_true _ (Classical.propDecidable _) rfl)
  rw [hu] at this
  exact this
/-- A call that begins with nothing. -/
theorem calls_of {P : Program} {fid : FuncId} {s : CSpec} {W : World} {args : List V} {vals : List Value} (h : CSoundG P fid s) (hg : ∀ C : Ctx, C.w = W → ∀ g, R C.pur (Gl.G g) (.val (.pointer (some ⟨g, 0, none⟩)))) (hargs : ∀ C : Ctx, R C (mkL args) (.list vals)) (hp : s.pre args = true) (hr : s.res args = .bool true) :
    Calls P fid vals.toArray W fun e w' => RowKit.Below W.heap.size W w' ∧ e = .returned (.bool true) := by
  refine (h.2 ⟨fun _ _ => False, fun _ => False, fun _ => .bool true, fun _ => .sc, W⟩ args vals (fun _ _ h => h.elim) (hg _ rfl) (hargs _) hp).mono ?_
  rintro e w' ⟨hb, r, rfl, hR⟩
  rw [hr] at hR
  cases hR
  exact ⟨hb, rfl⟩

/-! ### Pieces of code -/
section
variable {E : KEnv} {B N mask : Nat}
/-- From a state, code ends as 'Q' says. -/
def KW (E : KEnv) (B N mask : Nat) (c : Code) (tr : KTm) (zm : KZ) (nx : Nat) (Q : Exit → KTm → KZ → Nat → Prop) : Prop :=
  ∃ e tr' zm' nx' mx', Q e tr' zm' nx' ∧ MB (am zm') nx' ∧ nx ≤ nx' ∧ INV mask tr' ∧ GRuns E.P B c (tv' (tget tr)) (am zm) nx N e (tv' (tget tr')) (am zm') nx' mx'
variable {c : Code} {tr : KTm} {zm : KZ} {nx : Nat} {Q : Exit → KTm → KZ → Nat → Prop}
theorem KW.run (hE : KOk E) {n : Nat} (h : krun E n mask 0 c tr zm nx 0 fun e tr zm nx _ => Q e tr zm nx) (hO : cOk N c = true) (hmb : MB (am zm) nx) (hi : INV mask tr) : KW E B N mask c tr zm nx Q := by
  obtain ⟨e, tr', zm', nx', mx', h1, h2, h3, h4⟩ := krun_ok (B := B) hE n mask 0 c tr zm nx 0 _ N h hO hmb (Nat.zero_le _) hi
  exact ⟨e, tr', zm', nx', mx', h1, h2.mb, h2.nx, h3, h4⟩
theorem KW.seq {a b : Code} (h : KW E B N mask a tr zm nx fun e tr zm nx => (e = .normal ∧ KW E B N mask b tr zm nx Q) ∨ (e ≠ .normal ∧ Q e tr zm nx)) : KW E B N mask (.seq a b) tr zm nx Q := by
  obtain ⟨e, tr1, zm1, nx1, mx1, h1, h2, h3, h4, h5⟩ := h
  rcases h1 with ⟨rfl, e2, tr2, zm2, nx2, mx2, q1, q2, q3, q4, q5⟩ | ⟨he, h1⟩
  · exact ⟨e2, tr2, zm2, nx2, mx1 + mx2, q1, q2, by omega, q4, GRuns.seq h5 (q5.imp (TImp.refl _) (MImp.refl _) (Nat.le_refl _) (by omega)) h3 q3 (by omega)⟩
  · exact ⟨e, tr1, zm1, nx1, mx1, h1, h2, h3, h4, GRuns.seqX he h5⟩
theorem KW.mono {Q' : Exit → KTm → KZ → Nat → Prop} (h : KW E B N mask c tr zm nx Q) (hq : ∀ e tr zm nx, MB (am zm) nx → INV mask tr → Q e tr zm nx → Q' e tr zm nx) : KW E B N mask c tr zm nx Q' := by
  obtain ⟨e, tr1, zm1, nx1, mx1, h1, h2, h3, h4, h5⟩ := h
  exact ⟨e, tr1, zm1, nx1, mx1, hq _ _ _ _ h2 h4 h1, h2, h3, h4, h5⟩
theorem KW.block {id : Nat} (h : KW E B N mask c tr zm nx fun e tr zm nx => (e = .exit id ∧ Q .normal tr zm nx) ∨ (e ≠ .exit id ∧ Q e tr zm nx)) : KW E B N mask (.block id c) tr zm nx Q := by
  obtain ⟨e, tr1, zm1, nx1, mx1, h1, h2, h3, h4, h5⟩ := h
  rcases h1 with ⟨rfl, h1⟩ | ⟨he, h1⟩
  · exact ⟨.normal, tr1, zm1, nx1, mx1, h1, h2, h3, h4, GRuns.blockE h5⟩
  · exact ⟨e, tr1, zm1, nx1, mx1, h1, h2, h3, h4, GRuns.blockX he h5⟩
/-- A loop: its rounds are numbered. -/
theorem KW.loop {S : Nat → KTm × KZ × Nat} {m : Nat} (hn : ∀ i, i < m → KW E B N mask c (S i).1 (S i).2.1 (S i).2.2 fun e tr zm nx => e = .normal ∧ tr = (S (i + 1)).1 ∧ zm = (S (i + 1)).2.1 ∧ nx = (S (i + 1)).2.2)
    (hx : KW E B N mask c (S m).1 (S m).2.1 (S m).2.2 fun e tr zm nx => e ≠ .normal ∧ Q e tr zm nx) : KW E B N mask (.loop c) (S 0).1 (S 0).2.1 (S 0).2.2 Q := by
  have key : ∀ k, k ≤ m → ∃ e tr' zm' nx' mx', Q e tr' zm' nx' ∧ MB (am zm') nx' ∧ (S (m - k)).2.2 ≤ nx' ∧ INV mask tr' ∧ GLoop E.P B c N e (tv' (tget tr')) (am zm') nx' mx' (k + 1) (tv' (tget (S (m - k)).1)) (am (S (m - k)).2.1) (S (m - k)).2.2 := by
    intro k
    induction k with
    | zero =>
      intro _
      obtain ⟨e, tr1, zm1, nx1, mx1, ⟨h0, h1⟩, h2, h3, h4, h5⟩ := hx
      exact ⟨e, tr1, zm1, nx1, mx1, h1, h2, h3, h4, .out h5 h0 h3⟩
    | succ k ih =>
      intro hk
      obtain ⟨e, tr', zm', nx', mx', q1, q2, q3, q4, q5⟩ := ih (by omega)
      obtain ⟨e1, tr1, zm1, nx1, mx1, ⟨rfl, rfl, rfl, rfl⟩, h2, h3, h4, h5⟩ := hn (m - (k + 1)) (by omega)
      rw [show m - (k + 1) + 1 = m - k by omega] at *
      have up : ∀ {mx2 : Nat} {j : Nat} {τ : Nat → V} {μ : Mem} {n : Nat}, mx' ≤ mx2 → GLoop E.P B c N e (tv' (tget tr')) (am zm') nx' mx' j τ μ n → GLoop E.P B c N e (tv' (tget tr')) (am zm') nx' mx2 j τ μ n := by
        intro mx2 j τ μ n hm hg
        induction hg with
        | out h he hle => exact .out (h.imp (TImp.refl _) (MImp.refl _) (Nat.le_refl _) hm) he hle
        | round h hle hlx _ ih => exact .round h hle (by omega) ih
      exact ⟨e, tr', zm', nx', mx' + mx1, q1, q2, by omega, q4, .round h5 h3 (by omega) (up (by omega) q5)⟩
  obtain ⟨e, tr', zm', nx', mx', q1, q2, q3, q4, q5⟩ := key m (Nat.le_refl _)
  rw [Nat.sub_self] at q3 q5
  exact ⟨e, tr', zm', nx', mx', q1, q2, q3, q4, q5.runs⟩
/-- Less is known. -/
theorem KW.weak {e0 : Exit} {tr2 : KTm} {zm2 : KZ} {nx2 : Nat} (h : KW E B N mask c tr zm nx fun e tr zm nx => e = e0 ∧ TImp (tv' (tget tr)) (tv' (tget tr2)) ∧ MImp (am zm) (am zm2) ∧ nx ≤ nx2) (hi : INV mask tr2) (hq : Q e0 tr2 zm2 nx2) : KW E B N mask c tr zm nx Q := by
  obtain ⟨e, tr1, zm1, nx1, mx1, ⟨rfl, h6, h7, h8⟩, h2, h3, h4, h5⟩ := h
  refine ⟨e, tr2, zm2, nx2, mx1, hq, fun id hid => ?_, by omega, hi, h5.imp h6 h7 h8 (Nat.le_refl _)⟩
  cases hz : am zm2 id with
  | none => rfl
  | some b => obtain ⟨b1, hb, _⟩ := h7 id b hz; rw [h2 id (by omega)] at hb; cases hb

/-! ### States that are written down -/
def mkTr : List (Nat × KV) → KTm
  | [] => .e
  | (t, v) :: l => set v (enc t) (mkTr l)
def mkZm : List (Nat × KBlk) → KZ
  | [] => .e
  | (id, b) :: l => set (some b) (enc id) (mkZm l)
omit [KGl] in
theorem tget_mk {t : Nat} : ∀ {l : List (Nat × KV)}, tget (mkTr l) t = .unk ∨ ∃ v, (t, v) ∈ l ∧ tget (mkTr l) t = v
  | [] => .inl (tget_e t)
  | (d, v) :: l => by
    rw [show mkTr ((d, v) :: l) = set v (enc d) (mkTr l) from rfl, tget_set]
    by_cases h : t = d
    · rw [if_pos h]; subst h; exact .inr ⟨v, by simp, rfl⟩
    · rw [if_neg h]
      rcases tget_mk (t := t) (l := l) with h1 | ⟨w, h1, h2⟩
      · exact .inl h1
      · exact .inr ⟨w, by simp [h1], h2⟩
omit [KGl] in
theorem kb_mk {id : Nat} : ∀ {l : List (Nat × KBlk)}, kb (mkZm l) id = none ∨ ∃ b, (id, b) ∈ l ∧ kb (mkZm l) id = some b
  | [] => .inl (by unfold kb mkZm; exact get_e _ _)
  | (d, v) :: l => by
    rw [show mkZm ((d, v) :: l) = set (some v) (enc d) (mkZm l) from rfl, kb_set]
    by_cases h : id = d
    · rw [if_pos h]; subst h; exact .inr ⟨v, by simp, rfl⟩
    · rw [if_neg h]
      rcases kb_mk (id := id) (l := l) with h1 | ⟨w, h1, h2⟩
      · exact .inl h1
      · exact .inr ⟨w, by simp [h1], h2⟩
def kindB (a b : Kind) : Bool := match a, b with
  | .box, .box => true
  | .row e, .row f => Nat.beq e f
  | .dead, .dead => true
  | _, _ => false
def blkB (a b : KBlk) : Bool := nd (kindB a.k b.k) (nd (a.sh.beq b.sh) (kvb a.v b.v))
omit [KGl] in
theorem blkB_s {a b : KBlk} (h : blkB a b = true) : a = b := by
  obtain ⟨k, s, v⟩ := a
  obtain ⟨k', s', v'⟩ := b
  obtain ⟨h1, h2⟩ := nd_iff.1 h
  obtain ⟨h2, h3⟩ := nd_iff.1 h2
  have h4 : k = k' := by
    cases k <;> cases k' <;> first | rfl | (cases h1; done) | (replace h1 := beqE h1; subst h1; rfl)
  have h5 := Shape.eq_of_beq h2
  have h6 := kvb_s h3
  simp only at h5 h6
  rw [h4, h5, h6]
def trT (tr : KTm) : List (Nat × KV) → Bool
  | [] => true
  | (t, v) :: l => nd (kvb (tget tr t) v) (trT tr l)
def oblkB (a : Option KBlk) (b : KBlk) : Bool := match a with
  | some a => blkB a b
  | none => false
def zmT (zm : KZ) : List (Nat × KBlk) → Bool
  | [] => true
  | (id, b) :: l => nd (oblkB (kb zm id) b) (zmT zm l)
omit [KGl] in
theorem trT_s {tr : KTm} : ∀ {l : List (Nat × KV)}, trT tr l = true → ∀ t v, (t, v) ∈ l → tget tr t = v
  | [], _, t, v, hm => by cases hm
  | (d, w) :: l, h, t, v, hm => by
    obtain ⟨h1, h2⟩ := nd_iff.1 (show nd (kvb (tget tr d) w) (trT tr l) = true from h)
    rcases List.mem_cons.1 hm with h3 | h3
    · cases h3; exact kvb_s h1
    · exact trT_s h2 t v h3
omit [KGl] in
theorem zmT_s {zm : KZ} : ∀ {l : List (Nat × KBlk)}, zmT zm l = true → ∀ id b, (id, b) ∈ l → kb zm id = some b
  | [], _, t, v, hm => by cases hm
  | (d, w) :: l, h, id, b, hm => by
    obtain ⟨h1, h2⟩ := nd_iff.1 (show nd (oblkB (kb zm d) w) (zmT zm l) = true from h)
    rcases List.mem_cons.1 hm with h3 | h3
    · rw [(Prod.mk.inj h3).1, (Prod.mk.inj h3).2]
      cases hk : kb zm d with
      | none => rw [hk] at h1; cases h1
      | some a => rw [hk] at h1; rw [blkB_s (show blkB a w = true from h1)]
    · exact zmT_s h2 id b h3
def exB (a b : Exit) : Bool := match a, b with
  | .normal, .normal => true
  | .ret, .ret => true
  | .exit i, .exit j => Nat.beq i j
  | _, _ => false
omit [KGl] in
theorem exB_s {a b : Exit} (h : exB a b = true) : a = b := by
  unfold exB at h
  split at h
  · rfl
  · rfl
  · rw [beqE h]
  · cases h
/-- Is it this state, or one of which more is known? -/
def stT (e0 : Exit) (lt : List (Nat × KV)) (lz : List (Nat × KBlk)) (n : Nat) (e : Exit) (tr : KTm) (zm : KZ) (nx : Nat) : Bool := nd (exB e e0) (nd (trT tr lt) (nd (zmT zm lz) (Nat.ble nx n)))
def keepL (mask : Nat) : List (Nat × KV) → Bool
  | [] => true
  | (t, _) :: l => nd (keepB mask t) (keepL mask l)
omit [KGl] in
theorem keepL_s {mask : Nat} : ∀ {l : List (Nat × KV)}, keepL mask l = true → ∀ t v, (t, v) ∈ l → keepB mask t = true
  | [], _, t, v, hm => by cases hm
  | (d, w) :: l, h, t, v, hm => by
    obtain ⟨h1, h2⟩ := nd_iff.1 (show nd (keepB mask d) (keepL mask l) = true from h)
    rcases List.mem_cons.1 hm with h3 | h3
    · cases h3; exact h1
    · exact keepL_s h2 t v h3
omit [KGl] in
theorem INV.mk {lt : List (Nat × KV)} (h : keepL mask lt = true) : INV mask (mkTr lt) := fun t ht => by
  rcases tget_mk (t := t) (l := lt) with h1 | ⟨v, h1, _⟩
  · exact h1
  · rw [keepL_s h t v h1] at ht; cases ht
def ltL (n : Nat) : List (Nat × KBlk) → Bool
  | [] => true
  | (id, _) :: l => nd (Nat.blt id n) (ltL n l)
omit [KGl] in
theorem ltL_s {n : Nat} : ∀ {l : List (Nat × KBlk)}, ltL n l = true → ∀ id b, (id, b) ∈ l → id < n
  | [], _, t, v, hm => by cases hm
  | (d, w) :: l, h, t, v, hm => by
    obtain ⟨h1, h2⟩ := nd_iff.1 (show nd (Nat.blt d n) (ltL n l) = true from h)
    rcases List.mem_cons.1 hm with h3 | h3
    · cases h3; exact nblt.1 h1
    · exact ltL_s h2 t v h3
omit [KGl] in
theorem MB.mk {lz : List (Nat × KBlk)} {n : Nat} (h : ltL n lz = true) : MB (am (mkZm lz)) n := fun id hid => by
  unfold am
  rcases kb_mk (id := id) (l := lz) with h1 | ⟨b, h1, _⟩
  · rw [h1]; rfl
  · have := ltL_s h id b h1; omega
/-- A piece, from one written state to another. -/
theorem KW.piece (hE : KOk E) {n : Nat} {lt0 : List (Nat × KV)} {lz0 : List (Nat × KBlk)} {n0 : Nat} {e0 : Exit} {lt : List (Nat × KV)} {lz : List (Nat × KBlk)} {n1 : Nat}
    (h : krun E n mask 0 c (mkTr lt0) (mkZm lz0) n0 0 fun e tr zm nx _ => tK (stT e0 lt lz n1 e tr zm nx)) (hO : cOk N c = true) (h1 : nd (ltL n0 lz0) (nd (keepL mask lt0) (keepL mask lt)) = true) (hq : Q e0 (mkTr lt) (mkZm lz) n1) : KW E B N mask c (mkTr lt0) (mkZm lz0) n0 Q := by
  simp only [nd_iff] at h1
  refine KW.weak ((KW.run (Q := fun e tr zm nx => tK (stT e0 lt lz n1 e tr zm nx)) hE h hO (MB.mk h1.1) (INV.mk h1.2.1)).mono fun e tr zm nx _ _ hk => ?_) (INV.mk h1.2.2) hq
  have hs := tK_s hk
  unfold stT at hs
  simp only [nd_iff] at hs
  refine ⟨exB_s hs.1, fun t x C hx => ?_, fun id b hb => ?_, Nat.le_of_ble_eq_true hs.2.2.2⟩
  · show R C (tget (mkTr lt) t).v (.val x)
    rcases tget_mk (t := t) (l := lt) with q | ⟨v, q1, q2⟩
    · rw [q]; trivial
    · rw [q2, ← trT_s hs.2.1 t v q1]; exact hx
  · unfold am at hb
    rcases kb_mk (id := id) (l := lz) with q | ⟨b', q1, q2⟩
    · rw [q] at hb; cases hb
    · rw [q2] at hb
      cases hb
      exact ⟨_, am_some (zmT_s hs.2.2.1 id b' q1), BImp.refl _⟩
end
end
end Go.K
