/- From runs to what is shown: pieces of code, closed contracts. No condition. From pieces to a function. No condition. Contracts of many closed runs. No condition. Closed contracts whose results lie in new memory, that nobody writes any more; contracts over open arguments. No condition. Runs over open numbers beside closed ones: contracts may be handed from one to the other. No condition. -/
import Derived.Test.YthnhbdidiglcgaaGreatDoorK13
set_option linter.unusedVariables false
set_option linter.unusedSimpArgs false
set_option linter.constructorNameAsVariable false
namespace Go.K
open Go.Ab Go.RowKit Go.Y
noncomputable section
variable [KGl]

/-! ### Closed contracts -/
/-- A function that was run: on these arguments it hands back this. -/
theorem csoundK {E : KEnv} (hE : KOk E) {n fid : Nat} {args : List KV} {v : KV} (h : callR E (krun E n) 0 fid args .e 0 0 fun r _ _ _ => tK (kvb r v)) (hv : noRef v.v = true) :
    CSoundG E.P fid { pre := fun l => @decide (l = args.map KV.v) (Classical.propDecidable _), res := fun _ => v.v, fresh := true } := by
  have hme : MB (am (.e : KZ)) 0 := by rw [am_e]; exact emptyB 0
  refine ⟨(callR_s (B := 0) (krun_ok hE n) hE h hme (Nat.le_refl 0)).1, fun C l vals hok hg hargs hpre => ?_⟩
  have hl : l = args.map KV.v := @of_decide_eq_true _ (Classical.propDecidable _) hpre
  subst hl
  obtain ⟨_, r, zm', nx', mx', h1, h2, h3⟩ := callR_s (B := C.w.heap.size) (krun_ok hE n) hE h hme (Nat.le_refl 0)
  obtain rfl := kvb_s (tK_s h1)
  have hz : GR C.w.heap.size (nx' + mx') C.pur (fun _ => none) (am .e) 0 :=
    ⟨⟨Nat.le_refl _, hok, (fun _ _ h => (by cases h)), (fun _ _ h => (by cases h)), (fun _ _ _ _ _ h => (by cases h)), (fun _ _ _ h => (by cases h)), hg⟩, (fun id b hb => by rw [am_e] at hb; cases hb), fun _ _ _ h => h⟩
  refine (h3 (nx' + mx') C.pur (fun _ => none) vals (by omega) (by omega) hz hargs).mono ?_
  rintro e w' ⟨val, he, C', M', hw, hR, _, hc⟩
  subst hw
  exact ⟨hc.kp.below, val, he, R.noref _ hv hR⟩
/-- The contract, as the run takes it. -/
def kcon (args : List KV) (v : KV) : KSpec := fun l K => chk (kvbs l args) 190 (K v)
theorem kcon_s {E : KEnv} (hE : KOk E) {n fid : Nat} {args : List KV} {v : KV} (h : callR E (krun E n) 0 fid args .e 0 0 fun r _ _ _ => tK (kvb r v)) (hv : noRef v.v = true) (hn : noId (mkL (args.map KV.v)) = true) : KCS E.P fid (kcon args v) := by
  have hc := csoundK hE h hv
  refine ⟨hc.1, fun l K hs => ?_⟩
  obtain ⟨h1, h2⟩ := chk_inv hs
  obtain rfl := kvbs_s h1
  refine ⟨v, h2, fun B μ nx mx l0 hl0 => ?_⟩
  have hu : unL (mkL (l.map KV.v)) = l.map KV.v := by
    generalize l.map KV.v = r
    induction r with
    | nil => rfl
    | cons x r ih => show x :: unL (mkL r) = _; rw [ih]
  have := con_call (B := B) (μ := μ) (nx := nx) (mx := mx) hE.gn hc rfl hl0 (by rw [hu]; exact @decide_eq_true _ (Classical.propDecidable _) rfl)
  rw [hu] at this
  exact this
/-- A call that begins with nothing. -/
theorem calls_of {P : Program} {fid : FuncId} {s : CSpec} {W : World} {args : List V} {vals : List Value} (h : CSoundG P fid s) (hg : ∀ C : Ctx, C.w = W → ∀ g, R C.pur (Gl.G g) (.val (.pointer (some ⟨g, 0, none⟩)))) (hargs : ∀ C : Ctx, R C (mkL args) (.list vals)) (hp : s.pre args = true) (hr : s.res args = .bool true) :
    Calls P fid vals.toArray W fun e w' => RowKit.Below W.heap.size W w' ∧ e = .returned (.bool true) := by
  refine (h.2 ⟨fun _ _ => False, fun _ => False, fun _ => .bool true, fun _ => .sc, W⟩ args vals (fun _ _ h => h.elim) (hg _ rfl) (hargs _) hp).mono ?_
  rintro e w' ⟨hb, r, rfl, hR⟩
  rw [hr] at hR
  cases hR
  exact ⟨hb, rfl⟩

/-! ### Pieces of code -/
section
variable {E : KEnv} {B N mask : Nat}
/-- From a state, code ends as 'Q' says. -/
def KW (E : KEnv) (B N mask : Nat) (c : Code) (tr : KTm) (zm : KZ) (nx : Nat) (Q : Exit → KTm → KZ → Nat → Prop) : Prop :=
  ∃ e tr' zm' nx' mx', Q e tr' zm' nx' ∧ MB (am zm') nx' ∧ nx ≤ nx' ∧ INV mask tr' ∧ GRuns E.P B c (tv' (tget tr)) (am zm) nx N e (tv' (tget tr')) (am zm') nx' mx'
variable {c : Code} {tr : KTm} {zm : KZ} {nx : Nat} {Q : Exit → KTm → KZ → Nat → Prop}
theorem KW.run (hE : KOk E) {n : Nat} (h : krun E n mask 0 c tr zm nx 0 fun e tr zm nx _ => Q e tr zm nx) (hO : cOk N c = true) (hmb : MB (am zm) nx) (hi : INV mask tr) : KW E B N mask c tr zm nx Q := by
  obtain ⟨e, tr', zm', nx', mx', h1, h2, h3, h4⟩ := krun_ok (B := B) hE n mask 0 c tr zm nx 0 _ N h hO hmb (Nat.zero_le _) hi
  exact ⟨e, tr', zm', nx', mx', h1, h2.mb, h2.nx, h3, h4⟩
theorem KW.seq {a b : Code} (h : KW E B N mask a tr zm nx fun e tr zm nx => (e = .normal ∧ KW E B N mask b tr zm nx Q) ∨ (e ≠ .normal ∧ Q e tr zm nx)) : KW E B N mask (.seq a b) tr zm nx Q := by
  obtain ⟨e, tr1, zm1, nx1, mx1, h1, h2, h3, h4, h5⟩ := h
  rcases h1 with ⟨rfl, e2, tr2, zm2, nx2, mx2, q1, q2, q3, q4, q5⟩ | ⟨he, h1⟩
  · exact ⟨e2, tr2, zm2, nx2, mx1 + mx2, q1, q2, by omega, q4, GRuns.seq h5 (q5.imp (TImp.refl _) (MImp.refl _) (Nat.le_refl _) (by omega)) h3 q3 (by omega)⟩
  · exact ⟨e, tr1, zm1, nx1, mx1, h1, h2, h3, h4, GRuns.seqX he h5⟩
theorem KW.mono {Q' : Exit → KTm → KZ → Nat → Prop} (h : KW E B N mask c tr zm nx Q) (hq : ∀ e tr zm nx, MB (am zm) nx → INV mask tr → Q e tr zm nx → Q' e tr zm nx) : KW E B N mask c tr zm nx Q' := by
  obtain ⟨e, tr1, zm1, nx1, mx1, h1, h2, h3, h4, h5⟩ := h
  exact ⟨e, tr1, zm1, nx1, mx1, hq _ _ _ _ h2 h4 h1, h2, h3, h4, h5⟩
theorem KW.block {id : Nat} (h : KW E B N mask c tr zm nx fun e tr zm nx => (e = .exit id ∧ Q .normal tr zm nx) ∨ (e ≠ .exit id ∧ Q e tr zm nx)) : KW E B N mask (.block id c) tr zm nx Q := by
  obtain ⟨e, tr1, zm1, nx1, mx1, h1, h2, h3, h4, h5⟩ := h
  rcases h1 with ⟨rfl, h1⟩ | ⟨he, h1⟩
  · exact ⟨.normal, tr1, zm1, nx1, mx1, h1, h2, h3, h4, GRuns.blockE h5⟩
  · exact ⟨e, tr1, zm1, nx1, mx1, h1, h2, h3, h4, GRuns.blockX he h5⟩
/-- A loop: its rounds are numbered. -/
theorem KW.loop {S : Nat → KTm × KZ × Nat} {m : Nat} (hn : ∀ i, i < m → KW E B N mask c (S i).1 (S i).2.1 (S i).2.2 fun e tr zm nx => e = .normal ∧ tr = (S (i + 1)).1 ∧ zm = (S (i + 1)).2.1 ∧ nx = (S (i + 1)).2.2)
    (hx : KW E B N mask c (S m).1 (S m).2.1 (S m).2.2 fun e tr zm nx => e ≠ .normal ∧ Q e tr zm nx) : KW E B N mask (.loop c) (S 0).1 (S 0).2.1 (S 0).2.2 Q := by
  have key : ∀ k, k ≤ m → ∃ e tr' zm' nx' mx', Q e tr' zm' nx' ∧ MB (am zm') nx' ∧ (S (m - k)).2.2 ≤ nx' ∧ INV mask tr' ∧ GLoop E.P B c N e (tv' (tget tr')) (am zm') nx' mx' (k + 1) (tv' (tget (S (m - k)).1)) (am (S (m - k)).2.1) (S (m - k)).2.2 := by
    intro k
    induction k with
    | zero =>
      intro _
      obtain ⟨e, tr1, zm1, nx1, mx1, ⟨h0, h1⟩, h2, h3, h4, h5⟩ := hx
      exact ⟨e, tr1, zm1, nx1, mx1, h1, h2, h3, h4, .out h5 h0 h3⟩
    | succ k ih =>
      intro hk
      obtain ⟨e, tr', zm', nx', mx', q1, q2, q3, q4, q5⟩ := ih (by omega)
      obtain ⟨e1, tr1, zm1, nx1, mx1, ⟨rfl, rfl, rfl, rfl⟩, h2, h3, h4, h5⟩ := hn (m - (k + 1)) (by omega)
      rw [show m - (k + 1) + 1 = m - k by omega] at *
      have up : ∀ {mx2 : Nat} {j : Nat} {τ : Nat → V} {μ : Mem} {n : Nat}, mx' ≤ mx2 → GLoop E.P B c N e (tv' (tget tr')) (am zm') nx' mx' j τ μ n → GLoop E.P B c N e (tv' (tget tr')) (am zm') nx' mx2 j τ μ n := by
        intro mx2 j τ μ n hm hg
        induction hg with
        | out h he hle => exact .out (h.imp (TImp.refl _) (MImp.refl _) (Nat.le_refl _) hm) he hle
        | round h hle hlx _ ih => exact .round h hle (by omega) ih
      exact ⟨e, tr', zm', nx', mx' + mx1, q1, q2, by omega, q4, .round h5 h3 (by omega) (up (by omega) q5)⟩
  obtain ⟨e, tr', zm', nx', mx', q1, q2, q3, q4, q5⟩ := key m (Nat.le_refl _)
  rw [Nat.sub_self] at q3 q5
  exact ⟨e, tr', zm', nx', mx', q1, q2, q3, q4, q5.runs⟩
/-- Less is known. -/
theorem KW.weak {e0 : Exit} {tr2 : KTm} {zm2 : KZ} {nx2 : Nat} (h : KW E B N mask c tr zm nx fun e tr zm nx => e = e0 ∧ TImp (tv' (tget tr)) (tv' (tget tr2)) ∧ MImp (am zm) (am zm2) ∧ nx ≤ nx2) (hi : INV mask tr2) (hq : Q e0 tr2 zm2 nx2) : KW E B N mask c tr zm nx Q := by
  obtain ⟨e, tr1, zm1, nx1, mx1, ⟨rfl, h6, h7, h8⟩, h2, h3, h4, h5⟩ := h
  refine ⟨e, tr2, zm2, nx2, mx1, hq, fun id hid => ?_, by omega, hi, h5.imp h6 h7 h8 (Nat.le_refl _)⟩
  cases hz : am zm2 id with
  | none => rfl
  | some b => obtain ⟨b1, hb, _⟩ := h7 id b hz; rw [h2 id (by omega)] at hb; cases hb

/-! ### States that are written down -/
def mkTr : List (Nat × KV) → KTm
  | [] => .e
  | (t, v) :: l => set v (enc t) (mkTr l)
def mkZm : List (Nat × KBlk) → KZ
  | [] => .e
  | (id, b) :: l => set (some b) (enc id) (mkZm l)
omit [KGl] in
theorem tget_mk {t : Nat} : ∀ {l : List (Nat × KV)}, tget (mkTr l) t = .unk ∨ ∃ v, (t, v) ∈ l ∧ tget (mkTr l) t = v
  | [] => .inl (tget_e t)
  | (d, v) :: l => by
    rw [show mkTr ((d, v) :: l) = set v (enc d) (mkTr l) from rfl, tget_set]
    by_cases h : t = d
    · rw [if_pos h]; subst h; exact .inr ⟨v, by simp, rfl⟩
    · rw [if_neg h]
      rcases tget_mk (t := t) (l := l) with h1 | ⟨w, h1, h2⟩
      · exact .inl h1
      · exact .inr ⟨w, by simp [h1], h2⟩
omit [KGl] in
theorem kb_mk {id : Nat} : ∀ {l : List (Nat × KBlk)}, kb (mkZm l) id = none ∨ ∃ b, (id, b) ∈ l ∧ kb (mkZm l) id = some b
  | [] => .inl (by unfold kb mkZm; exact get_e _ _)
  | (d, v) :: l => by
    rw [show mkZm ((d, v) :: l) = set (some v) (enc d) (mkZm l) from rfl, kb_set]
    by_cases h : id = d
    · rw [if_pos h]; subst h; exact .inr ⟨v, by simp, rfl⟩
    · rw [if_neg h]
      rcases kb_mk (id := id) (l := l) with h1 | ⟨w, h1, h2⟩
      · exact .inl h1
      · exact .inr ⟨w, by simp [h1], h2⟩
def kindB (a b : Kind) : Bool := match a, b with
  | .box a, .box b => Nat.beq a b
  | .row e, .row f => Nat.beq e f
  | .dead, .dead => true
  | _, _ => false
def blkB (a b : KBlk) : Bool := nd (kindB a.k b.k) (nd (a.sh.beq b.sh) (kvb a.v b.v))
omit [KGl] in
theorem blkB_s {a b : KBlk} (h : blkB a b = true) : a = b := by
  obtain ⟨k, s, v⟩ := a
  obtain ⟨k', s', v'⟩ := b
  obtain ⟨h1, h2⟩ := nd_iff.1 h
  obtain ⟨h2, h3⟩ := nd_iff.1 h2
  have h4 : k = k' := by
    cases k <;> cases k' <;> first | rfl | (cases h1; done) | (replace h1 := beqE h1; subst h1; rfl)
  have h5 := Shape.eq_of_beq h2
  have h6 := kvb_s h3
  simp only at h5 h6
  rw [h4, h5, h6]
def trT (tr : KTm) : List (Nat × KV) → Bool
  | [] => true
  | (t, v) :: l => nd (kvb (tget tr t) v) (trT tr l)
def oblkB (a : Option KBlk) (b : KBlk) : Bool := match a with
  | some a => blkB a b
  | none => false
def zmT (zm : KZ) : List (Nat × KBlk) → Bool
  | [] => true
  | (id, b) :: l => nd (oblkB (kb zm id) b) (zmT zm l)
omit [KGl] in
theorem trT_s {tr : KTm} : ∀ {l : List (Nat × KV)}, trT tr l = true → ∀ t v, (t, v) ∈ l → tget tr t = v
  | [], _, t, v, hm => by cases hm
  | (d, w) :: l, h, t, v, hm => by
    obtain ⟨h1, h2⟩ := nd_iff.1 (show nd (kvb (tget tr d) w) (trT tr l) = true from h)
    rcases List.mem_cons.1 hm with h3 | h3
    · cases h3; exact kvb_s h1
    · exact trT_s h2 t v h3
omit [KGl] in
theorem zmT_s {zm : KZ} : ∀ {l : List (Nat × KBlk)}, zmT zm l = true → ∀ id b, (id, b) ∈ l → kb zm id = some b
  | [], _, t, v, hm => by cases hm
  | (d, w) :: l, h, id, b, hm => by
    obtain ⟨h1, h2⟩ := nd_iff.1 (show nd (oblkB (kb zm d) w) (zmT zm l) = true from h)
    rcases List.mem_cons.1 hm with h3 | h3
    · rw [(Prod.mk.inj h3).1, (Prod.mk.inj h3).2]
      cases hk : kb zm d with
      | none => rw [hk] at h1; cases h1
      | some a => rw [hk] at h1; rw [blkB_s (show blkB a w = true from h1)]
    · exact zmT_s h2 id b h3
def exB (a b : Exit) : Bool := match a, b with
  | .normal, .normal => true
  | .ret, .ret => true
  | .exit i, .exit j => Nat.beq i j
  | _, _ => false
omit [KGl] in
theorem exB_s {a b : Exit} (h : exB a b = true) : a = b := by
  unfold exB at h
  split at h
  · rfl
  · rfl
  · rw [beqE h]
  · cases h
/-- Is it this state, or one of which more is known? -/
def stT (e0 : Exit) (lt : List (Nat × KV)) (lz : List (Nat × KBlk)) (n : Nat) (e : Exit) (tr : KTm) (zm : KZ) (nx : Nat) : Bool := nd (exB e e0) (nd (trT tr lt) (nd (zmT zm lz) (Nat.ble nx n)))
def keepL (mask : Nat) : List (Nat × KV) → Bool
  | [] => true
  | (t, _) :: l => nd (keepB mask t) (keepL mask l)
omit [KGl] in
theorem keepL_s {mask : Nat} : ∀ {l : List (Nat × KV)}, keepL mask l = true → ∀ t v, (t, v) ∈ l → keepB mask t = true
  | [], _, t, v, hm => by cases hm
  | (d, w) :: l, h, t, v, hm => by
    obtain ⟨h1, h2⟩ := nd_iff.1 (show nd (keepB mask d) (keepL mask l) = true from h)
    rcases List.mem_cons.1 hm with h3 | h3
    · cases h3; exact h1
    · exact keepL_s h2 t v h3
omit [KGl] in
theorem INV.mk {lt : List (Nat × KV)} (h : keepL mask lt = true) : INV mask (mkTr lt) := fun t ht => by
  rcases tget_mk (t := t) (l := lt) with h1 | ⟨v, h1, _⟩
  · rw [h1]; rfl
  · rw [keepL_s h t v h1] at ht; cases ht
def ltL (n : Nat) : List (Nat × KBlk) → Bool
  | [] => true
  | (id, _) :: l => nd (Nat.blt id n) (ltL n l)
omit [KGl] in
theorem ltL_s {n : Nat} : ∀ {l : List (Nat × KBlk)}, ltL n l = true → ∀ id b, (id, b) ∈ l → id < n
  | [], _, t, v, hm => by cases hm
  | (d, w) :: l, h, t, v, hm => by
    obtain ⟨h1, h2⟩ := nd_iff.1 (show nd (Nat.blt d n) (ltL n l) = true from h)
    rcases List.mem_cons.1 hm with h3 | h3
    · cases h3; exact nblt.1 h1
    · exact ltL_s h2 t v h3
omit [KGl] in
theorem MB.mk {lz : List (Nat × KBlk)} {n : Nat} (h : ltL n lz = true) : MB (am (mkZm lz)) n := fun id hid => by
  unfold am
  rcases kb_mk (id := id) (l := lz) with h1 | ⟨b, h1, _⟩
  · rw [h1]; rfl
  · have := ltL_s h id b h1; omega
/-- A piece, from one written state to another. -/
theorem KW.piece (hE : KOk E) {n : Nat} {lt0 : List (Nat × KV)} {lz0 : List (Nat × KBlk)} {n0 : Nat} {e0 : Exit} {lt : List (Nat × KV)} {lz : List (Nat × KBlk)} {n1 : Nat}
    (h : krun E n mask 0 c (mkTr lt0) (mkZm lz0) n0 0 fun e tr zm nx _ => tK (stT e0 lt lz n1 e tr zm nx)) (hO : cOk N c = true) (h1 : nd (ltL n0 lz0) (nd (keepL mask lt0) (keepL mask lt)) = true) (hq : Q e0 (mkTr lt) (mkZm lz) n1) : KW E B N mask c (mkTr lt0) (mkZm lz0) n0 Q := by
  simp only [nd_iff] at h1
  refine KW.weak ((KW.run (Q := fun e tr zm nx => tK (stT e0 lt lz n1 e tr zm nx)) hE h hO (MB.mk h1.1) (INV.mk h1.2.1)).mono fun e tr zm nx _ _ hk => ?_) (INV.mk h1.2.2) hq
  have hs := tK_s hk
  unfold stT at hs
  simp only [nd_iff] at hs
  refine ⟨exB_s hs.1, fun t x C hx => ?_, fun id b hb => ?_, Nat.le_of_ble_eq_true hs.2.2.2⟩
  · show R C (tget (mkTr lt) t).v (.val x)
    rcases tget_mk (t := t) (l := lt) with q | ⟨v, q1, q2⟩
    · rw [q]; trivial
    · rw [q2, ← trT_s hs.2.1 t v q1]; exact hx
  · unfold am at hb
    rcases kb_mk (id := id) (l := lz) with q | ⟨b', q1, q2⟩
    · rw [q] at hb; cases hb
    · rw [q2] at hb
      cases hb
      exact ⟨_, am_some (zmT_s hs.2.2.1 id b' q1), BImp.refl _⟩
end
end
end Go.K
set_option linter.unusedVariables false
set_option linter.unusedSimpArgs false
set_option linter.constructorNameAsVariable false
namespace Go.K
open Go.Ab Go.RowKit Go.Y
noncomputable section
variable [KGl]
def sL : Code → Code
  | .seq a _ => a
  | c => c
def sR : Code → Code
  | .seq _ b => b
  | c => c
def blB : Code → Code
  | .block _ b => b
  | c => c
def lpB : Code → Code
  | .loop b => b
  | c => c
section
variable {E : KEnv} {B N mask : Nat}
/-- Two pieces in one run. -/
theorem KW.piece2 (hE : KOk E) {n : Nat} {a b c : Code} {lt0 : List (Nat × KV)} {lz0 : List (Nat × KBlk)} {n0 : Nat} {lt : List (Nat × KV)} {lz : List (Nat × KBlk)} {n1 : Nat} {Q : Exit → KTm → KZ → Nat → Prop}
    (h : krun E n mask 0 a (mkTr lt0) (mkZm lz0) n0 0 fun e tr zm nx mx => chk (exB e .normal) 0 (krun E n mask 0 b tr zm nx mx fun e tr zm nx _ => tK (stT .normal lt lz n1 e tr zm nx))) (hO : cOk N a = true) (hO2 : cOk N b = true) (h1 : nd (ltL n0 lz0) (nd (keepL mask lt0) (keepL mask lt)) = true)
    (hq : KW E B N mask c (mkTr lt) (mkZm lz) n1 Q) : KW E B N mask (.seq a (.seq b c)) (mkTr lt0) (mkZm lz0) n0 Q := by
  simp only [nd_iff] at h1
  obtain ⟨e, tr1, zm1, nx1, mx1, q1, q2, q3, q4⟩ := krun_ok (B := B) hE n mask 0 a _ _ _ _ _ N h hO (MB.mk h1.1) (Nat.zero_le _) (INV.mk h1.2.1)
  obtain ⟨q5, q6⟩ := chk_inv q1
  obtain rfl := exB_s q5
  refine KW.seq ⟨.normal, tr1, zm1, nx1, mx1, .inl ⟨rfl, ?_⟩, q2.mb, q2.nx, q3, q4⟩
  refine KW.seq ?_
  obtain ⟨e2, tr2, zm2, nx2, mx2, r1, r2, r3, r4⟩ := krun_ok (B := B) hE n mask 0 b _ _ _ _ _ N q6 hO2 q2.mb (Nat.zero_le _) q3
  have hs := tK_s r1
  unfold stT at hs
  simp only [nd_iff] at hs
  refine KW.weak (e0 := .normal) (tr2 := mkTr lt) (zm2 := mkZm lz) (nx2 := n1) ⟨e2, tr2, zm2, nx2, mx2, ⟨exB_s hs.1, fun t x C hx => ?_, fun id b hb => ?_, Nat.le_of_ble_eq_true hs.2.2.2⟩, r2.mb, r2.nx, r3, r4⟩ (INV.mk h1.2.2) (.inl ⟨rfl, hq⟩)
  · show R C (tget (mkTr lt) t).v (.val x)
    rcases tget_mk (t := t) (l := lt) with q | ⟨v, q1, q2⟩
    · rw [q]; trivial
    · rw [q2, ← trT_s hs.2.1 t v q1]; exact hx
  · unfold am at hb
    rcases kb_mk (id := id) (l := lz) with q | ⟨b', q1, q2⟩
    · rw [q] at hb; cases hb
    · rw [q2] at hb
      cases hb
      exact ⟨_, am_some (zmT_s hs.2.2.1 id b' q1), BImp.refl _⟩
end
/-- A function without arguments. -/
theorem csoundW {E : KEnv} (hE : KOk E) {fid mask : Nat} {fn : Func} {c : Code} {v : V} (hfn : E.P.funcs[fid]? = some fn) (hb : fn.body = some c)
    (h : ∀ B N, fn.ntmps ≤ N → KW E B N mask c .e .e 0 fun e tr zm nx => (e = .normal ∨ e = .ret) ∧ RAll E.P (tv' (tget tr)) (am zm) fn.results.toList v) (hv : noRef v = true) :
    CSoundG E.P fid { pre := fun l => l.isEmpty, res := fun _ => v, fresh := true } := by
  obtain ⟨hname, hcode⟩ := hE.fns.get hfn
  refine ⟨⟨fn, hfn, hname, by rw [hb]; rfl⟩, fun C l vals hok hg hargs hpre => ?_⟩
  obtain rfl : l = [] := by simpa using hpre
  obtain ⟨e, tr', zm', nx', mx', ⟨q1, q2⟩, q3, q4, q5, q6⟩ := h C.w.heap.size (0 + (fn.ntmps - 0)) (by omega)
  have hz : GR C.w.heap.size (nx' + mx') C.pur (fun _ => none) (am .e) 0 :=
    ⟨⟨Nat.le_refl _, hok, (fun _ _ h => (by cases h)), (fun _ _ h => (by cases h)), (fun _ _ _ _ _ h => (by cases h)), (fun _ _ _ h => (by cases h)), hg⟩, (fun id b hb => by rw [am_e] at hb; cases hb), fun _ _ _ h => h⟩
  have hc : GCall E.P C.w.heap.size fid [] (am .e) 0 v (am zm') nx' mx' := GCall.body (l := []) hfn hb (fun t x D hx => by show R D (tget .e t).v (.val x); rw [tget_e]; trivial) q6 q1 q2
  refine (hc (nx' + mx') C.pur (fun _ => none) vals (by omega) (by omega) hz hargs).mono ?_
  rintro e w' ⟨val, he, C', M', hw, hR, _, hc'⟩
  subst hw
  exact ⟨hc'.kp.below, val, he, R.noref _ hv hR⟩
end
end Go.K
set_option linter.unusedVariables false
set_option linter.unusedSimpArgs false
namespace Go.K
open Go.Ab Go.RowKit Go.Y
noncomputable section
variable [KGl]
def allPN (P : Nat → Prop) : Nat → Prop
  | 0 => True
  | n + 1 => allPN P n ∧ P n
omit [KGl] in
theorem allPN_lt {P : Nat → Prop} : ∀ {n : Nat}, allPN P n → ∀ t, t < n → P t
  | 0, _, t, h => by omega
  | n + 1, h, t, ht => by
    rcases Nat.lt_or_ge t n with h1 | h1
    · exact allPN_lt h.1 t h1
    · obtain rfl : t = n := by omega
      exact h.2
/-- What many closed runs show, as one contract. -/
theorem kcs_fam {P : Program} {fid : FuncId} {args : Nat → List KV} {v : Nat → KV} {N : Nat} {s : KSpec} (hN : 0 < N) (h : ∀ n, n < N → KCS P fid (kcon (args n) (v n))) (hr : ∀ n, n < N → kvbs (args n) (args n) = true)
    (hs : ∀ (l : List KV) (K : KV → Prop), s l K → ∃ n, n < N ∧ l = args n ∧ K (v n)) : KCS P fid s := by
  refine ⟨(h 0 hN).1, fun l K hk => ?_⟩
  obtain ⟨n, hn, rfl, hK⟩ := hs l K hk
  obtain ⟨w, h1, h2⟩ := (h n hn).2 (args n) (fun x => x = v n) (by
    show chk (kvbs (args n) (args n)) 190 (v n = v n)
    rw [hr n hn]
    rfl)
  subst h1
  exact ⟨_, hK, h2⟩
omit [KGl] in
theorem kvbs_u8 (n : Nat) : kvbs [.int .u8 (.ofNat n)] [.int .u8 (.ofNat n)] = true := by
  show nd (nd (ikEq .u8 .u8) (Nat.beq n n)) true = true
  rw [Nat.beq_refl]; rfl
omit [KGl] in
theorem kvbs_u8u8 (m n : Nat) : kvbs [.int .u8 (.ofNat m), .int .u8 (.ofNat n)] [.int .u8 (.ofNat m), .int .u8 (.ofNat n)] = true := by
  show nd (nd (ikEq .u8 .u8) (Nat.beq m m)) (nd (nd (ikEq .u8 .u8) (Nat.beq n n)) true) = true
  rw [Nat.beq_refl, Nat.beq_refl]; rfl
/-- A byte that is looked up. -/
def byteK (x : KV) (f : Nat → Prop) : Prop := onInt (fun k a => chk (ikEq k .u8) 253 (@Int.rec (fun _ => Prop) (fun n => chk (Nat.blt n 256) 254 (f n)) (fun _ => BadN 255) a)) (BadN 256) x
omit [KGl] in
theorem byteK_s {x : KV} {f : Nat → Prop} (h : byteK x f) : ∃ n, n < 256 ∧ x = .int .u8 (.ofNat n) ∧ f n := by
  rcases onInt_inv h with ⟨k, a, rfl, h1⟩ | ⟨_, h1⟩
  · obtain ⟨h2, h3⟩ := chk_inv h1
    obtain rfl := ikEq_eq h2
    cases a with
    | ofNat n =>
      obtain ⟨h4, h5⟩ := chk_inv (show chk (Nat.blt n 256) 254 (f n) from h3)
      rw [Nat.blt_eq] at h4
      exact ⟨n, h4, rfl, h5⟩
    | negSucc n => exact (show BadN 255 from h3).elim
  · exact h1.elim
def la1 (l : List KV) (f : KV → Prop) : Prop := match l with
  | [x] => f x
  | _ => BadN 257
omit [KGl] in
theorem la1_s {l : List KV} {f : KV → Prop} (h : la1 l f) : ∃ x, l = [x] ∧ f x := by
  unfold la1 at h
  split at h
  · exact ⟨_, rfl, h⟩
  · exact h.elim
/-- A function of one byte, by a table. -/
def sTab1 (T : Nat) : KSpec := fun l K => la1 l fun x => byteK x fun n => forceN (pkr .u8 T n) fun r => K (.int .u8 (.ofNat r))
theorem sTab1_s {P : Program} {fid : FuncId} {T : Nat} (h : ∀ n, n < 256 → KCS P fid (kcon [.int .u8 (.ofNat n)] (.int .u8 (.ofNat (pkr .u8 T n))))) : KCS P fid (sTab1 T) :=
  kcs_fam (args := fun n => [.int .u8 (.ofNat n)]) (v := fun n => .int .u8 (.ofNat (pkr .u8 T n))) (N := 256) (by decide) h (fun n _ => kvbs_u8 n) fun l K hk => by
    obtain ⟨x, rfl, h1⟩ := la1_s hk
    obtain ⟨n, hn, rfl, h2⟩ := byteK_s h1
    rw [forceN_eq] at h2
    exact ⟨n, hn, rfl, h2⟩
omit [KGl] in
theorem kvbs_2 (m n : Nat) : kvbs [.int .u8 (.ofNat m), .int .u8 (.ofNat n)] [.int .u8 (.ofNat m), .int .u8 (.ofNat n)] = true := kvbs_u8u8 m n
def lb2 (l : List KV) (f : KV → KV → Prop) : Prop := match l with
  | [x, y] => f x y
  | _ => BadN 258
omit [KGl] in
theorem lb2_s {l : List KV} {f : KV → KV → Prop} (h : lb2 l f) : ∃ x y, l = [x, y] ∧ f x y := by
  unfold lb2 at h
  split at h
  · exact ⟨_, _, rfl, h⟩
  · exact h.elim
/-- A function of two bytes, the first below M, by a table. -/
def sTab2 (M T : Nat) : KSpec := fun l K => lb2 l fun x y => byteK x fun a => byteK y fun b => chk (Nat.blt a M) 259 (forceN (pkr .u8 T (Nat.add (Nat.mul 256 a) b)) fun r => K (.int .u8 (.ofNat r)))
theorem sTab2_s {P : Program} {fid : FuncId} {M T : Nat} (hM : 0 < M) (h : ∀ n, n < M * 256 → KCS P fid (kcon [.int .u8 (.ofNat (n / 256)), .int .u8 (.ofNat (n % 256))] (.int .u8 (.ofNat (pkr .u8 T n))))) : KCS P fid (sTab2 M T) :=
  kcs_fam (args := fun n => [.int .u8 (.ofNat (n / 256)), .int .u8 (.ofNat (n % 256))]) (v := fun n => .int .u8 (.ofNat (pkr .u8 T n))) (N := M * 256) (by omega) h (fun n _ => kvbs_2 _ _) fun l K hk => by
    obtain ⟨x, y, rfl, h1⟩ := lb2_s hk
    obtain ⟨a, ha, rfl, h2⟩ := byteK_s h1
    obtain ⟨b, hb, rfl, h3⟩ := byteK_s h2
    obtain ⟨h4, h5⟩ := chk_inv h3
    rw [Nat.blt_eq] at h4
    rw [forceN_eq] at h5
    refine ⟨256 * a + b, ?_, ?_, h5⟩
    · have : (a + 1) * 256 ≤ M * 256 := Nat.mul_le_mul_right _ h4
      omega
    · rw [show (256 * a + b) / 256 = a by omega, show (256 * a + b) % 256 = b by omega]
end
end Go.K
set_option linter.unusedVariables false
set_option linter.unusedSimpArgs false
set_option linter.constructorNameAsVariable false
namespace Go.K
open Go.Ab Go.RowKit Go.Y
noncomputable section
/-- New memory alone may be looked at. -/
def frC (C : Ctx) (B : Nat) : Ctx := { C.pur with ok := fun _ b => B ≤ b ∧ b < C.w.heap.size }
section
variable [Gl] {B : Nat} {C : Ctx} {M : Mem}
theorem R.row_fr (hs : SR B C M) {id n : Nat} {e : Shape} {blk : Blk} {n1 : Nat} {f g : Nat → V} {md : Ab.M} {u : Bool} (hM : M id = some blk) (ha : blk.alive = true) (hv : blk.v = .arr n1 f)
    (hg : ∀ i, i < n → ∀ md, R C (f i) md → R (frC C B) (g i) md) (hr : R C (.row id e n) md) : R (frC C B) (.ro u false e n g) md := by
  obtain ⟨hal, ⟨a, c, h1⟩, h2, h3⟩ := hr
  have hbr := hs.mem id blk hM
  unfold BR at hbr; unfold Blk.alive at ha
  cases hkd : blk.k <;> simp only [hkd] at hbr ha
  · obtain ⟨g, cur, e', h4, _⟩ := hbr; rw [h1] at h4; cases h4
  · obtain ⟨n2, s2, cells, h4, h5, h6, h7⟩ := hbr
    rw [h4, h5] at h2
    simp only [Shape.arr.injEq] at h2
    obtain ⟨rfl, rfl⟩ := h2
    refine ⟨a, c, by rw [← h1]; exact h3, ?_, (by intro hc; cases hc), ?_⟩
    · rcases h6.2 with ⟨h8, h9⟩ | ⟨g, cap, cur, hv', hg, hh, hnc, _⟩
      · rw [h1] at h8; cases h8; omega
      · rw [h1] at hv'; cases hv'; exact hnc
    · rcases h6.2 with ⟨h8, h9⟩ | ⟨q, cap, cur, hv', hq, hh, hnc, _, hcs, htake⟩
      · exact .inl h9
      · right
        rw [h1] at hv'
        simp only [Value.slice.injEq] at hv'
        obtain ⟨rfl, _, rfl⟩ := hv'
        refine ⟨q, 0, rfl, ⟨hq, (Array.getElem?_eq_some_iff.1 hh).1⟩, fun i hi => ?_⟩
        have hb' : blk? (C.sv id) = some q := by rw [h1]; rfl
        have hpa : Shape.path [.idx i] (C.shp id) = some (0 + i * s2.size, s2) := by rw [h4, h5]; simp [Shape.path, Shape.step, hi]
        obtain ⟨h10, _⟩ := BR.at (hs.mem id blk hM) (by unfold Blk.alive; rw [hkd]) hb' hpa
        rw [hv] at h10
        have h11 : R C (f i) (.cel s2 (cg C.w q) (0 + i * s2.size)) := by simpa [V.path, V.step] using h10
        exact hg i hi _ h11
  · simp at ha
  · simp at ha
  · simp at ha
theorem R.sl_fr (hs : SR B C M) {id off len : Nat} {p : List Step} {cap : Option Nat} {e : Shape} {blk : Blk} {n1 : Nat} {f g : Nat → V} {md : Ab.M} {u : Bool} (hM : M id = some blk) (ha : blk.alive = true) (hv : blk.v.path p = .arr n1 f)
    (hg : ∀ i, i < len → ∀ md, R C (f (off + i)) md → R (frC C B) (g i) md) (hr : R C (.sl id p e off len cap) md) : R (frC C B) (.ro u (capIs cap len) e len g) md := by
  obtain ⟨hal, ad, c, o1, n2, h3, h4, h5, h2, h8, h6⟩ := hr
  refine ⟨ad, c, h3, h4, (fun hc => h5 _ (capIs_eq hc)), h6.imp (fun h => by omega) ?_⟩
  rintro ⟨b, h1, h6⟩
  obtain ⟨h7, _⟩ := BR.at (hs.mem id blk hM) ha h1 h2
  rw [hv] at h7
  obtain ⟨e', q1, h9⟩ := h7
  simp only [Shape.arr.injEq] at q1
  obtain ⟨rfl, rfl⟩ := q1
  refine ⟨b, o1 + off * e.size, h6, hs.lt hM (Blk.lv ha) (blkL_of h1), fun i hi => ?_⟩
  have h10 : R C (f (off + i)) (.cel e (cg C.w b) (o1 + off * e.size + i * e.size)) := by rw [Nat.add_assoc, ← Nat.add_mul]; exact h9 (off + i) (by omega)
  exact hg i hi _ h10
theorem R.ptr_fr (hs : SR B C M) {id : Nat} {p : List Step} {s : Shape} {blk : Blk} {g : V} {md : Ab.M} {u : Bool} (hM : M id = some blk) (ha : blk.alive = true)
    (hg : ∀ md, R C (blk.v.path p) md → R (frC C B) g md) (hr : R C (.ptr id p s) md) : R (frC C B) (.ref u s g) md := by
  obtain ⟨hal, b, off, h1, h2, h3⟩ := hr
  obtain ⟨h7, _⟩ := BR.at (hs.mem id blk hM) ha h1 h2
  have hlt := hs.lt hM (Blk.lv ha) (blkL_of h1)
  exact ⟨b, off, h3, hlt, hg _ h7⟩
omit [Gl] in
theorem R.cons_map {D : Ctx} {a b a' b' : V} (h1 : ∀ m, R C a m → R D a' m) (h2 : ∀ m, R C b m → R D b' m) {m : Ab.M} (h : R C (.cons a b) m) : R D (.cons a' b') m := by
  cases m with
  | cel s g off => obtain ⟨a, b, q1, q2, q3⟩ := h; exact ⟨a, b, q1, h1 _ q2, h2 _ q3⟩
  | val v => obtain ⟨cs, a, b, q1, q2, q3, q4⟩ := h; exact ⟨cs, a, b, q1, q2, h1 _ q3, h2 _ q4⟩
  | list l => obtain ⟨y, ys, q1, q2, q3⟩ := h; exact ⟨y, ys, q1, h1 _ q2, h2 _ q3⟩
omit [Gl] in
theorem R.arr_map {D : Ctx} {n : Nat} {f g : Nat → V} (h1 : ∀ i, i < n → ∀ m, R C (f i) m → R D (g i) m) {m : Ab.M} (h : R C (.arr n f) m) : R D (.arr n g) m := by
  cases m with
  | cel s g off => obtain ⟨e, q1, q2⟩ := h; exact ⟨e, q1, fun i hi => h1 i hi _ (q2 i hi)⟩
  | val v => obtain ⟨cs, e, q1, q2, q3⟩ := h; exact ⟨cs, e, q1, q2, fun i hi => h1 i hi _ (q3 i hi)⟩
  | list l => exact h
omit [Gl] in
theorem R.tup_map {D : Ctx} {a a' : V} (h1 : ∀ m, R C a m → R D a' m) {m : Ab.M} (h : R C (.tup a) m) : R D (.tup a') m := by
  cases m with
  | val v => obtain ⟨cs, q1, q2⟩ := h; exact ⟨cs, q1, h1 _ q2⟩
  | cel => exact h
  | list => exact h
omit [Gl] in
theorem R.fn_map {D : Ctx} {f : FuncId} {a a' : V} (h1 : ∀ m, R C a m → R D a' m) {m : Ab.M} (h : R C (.fn f a) m) : R D (.fn f a') m := by
  obtain ⟨cs, q1, q2⟩ := h; exact ⟨cs, q1, h1 _ q2⟩
end
variable [KGl]
/-! ### Results that are frozen -/
def lfB (v : KV) : Bool := match v with
  | .int .. | .bool _ | .str .. | .nl | .pk .. | .nilp | .nils | .nilf | .unk => true
  | _ => false
def fzBk (f : KV → KV → Bool) (b : Option KBlk) (g : KV → Bool) (w : KV) : Bool := match b with
  | some b => nd (isAl b.k) (nd (g b.v) (f b.v w))
  | none => false
def fzS (zm : KZ) (ih : KV → KV → Bool) (v w : KV) : Bool := match v with
  | .cons a b => match w with
    | .cons a' b' => nd (ih a a') (ih b b')
    | _ => false
  | .tup a => match w with
    | .tup a' => ih a a'
    | _ => false
  | .fn f a => match w with
    | .fn f' a' => nd (Nat.beq f f') (ih a a')
    | _ => false
  | .ar n d t => match w with
    | .ar n' d' t' => nd (Nat.beq n n') (nd (ih d d') (ih t t'))
    | _ => false
  | .te => match w with
    | .te => true
    | _ => false
  | .tb a b c d => match w with
    | .tb a' b' c' d' => nd (ih a a') (nd (ih b b') (nd (ih c c') (ih d d')))
    | _ => false
  | .tn x a b c d => match w with
    | .tn x' a' b' c' d' => nd (ih x x') (nd (ih a a') (nd (ih b b') (nd (ih c c') (ih d d'))))
    | _ => false
  | .row id e len => match w with
    | .ro _ false e' off len' c => nd (e.beq e') (nd (Nat.beq off 0) (nd (Nat.beq len len') (fzBk ih (kb zm id) (fun b => nd (arK b) (Nat.ble len (arZ b))) c)))
    | _ => false
  | .ptr id p s => match w with
    | .ref _ s' c => nd (s.beq s') (fzBk (fun b c => ih (kpath p b) c) (kb zm id) (fun b => pthOk p b) c)
    | _ => false
  | .sl id p e off len cap => match w with
    | .ro _ cl e' off' len' c => nd (e.beq e') (nd (Nat.beq off off') (nd (Nat.beq len len') (nd (cl == capIs cap len) (fzBk (fun b c => ih (kpath p b) c) (kb zm id) (fun b => nd (pthOk p b) (nd (arK (kpath p b)) (Nat.ble (Nat.add off len) (arZ (kpath p b))))) c))))
    | _ => false
  | v => nd (lfB v) (kvb v w)
/-- A value, and what it is where nobody writes any more. -/
def fzB (zm : KZ) (k : Nat) : KV → KV → Bool := @Nat.rec (fun _ => KV → KV → Bool) (fun _ _ => false) (fun _ ih v w => fzS zm ih v w) k
omit [KGl] in
theorem fzBk_s {f : KV → KV → Bool} {b : Option KBlk} {g : KV → Bool} {w : KV} (h : fzBk f b g w = true) : ∃ kd sh v, b = some ⟨kd, sh, v⟩ ∧ isAl kd = true ∧ g v = true ∧ f v w = true := by
  unfold fzBk at h
  split at h
  · rename_i b
    simp only [nd_iff] at h
    exact ⟨b.k, b.sh, b.v, rfl, h.1, h.2.1, h.2.2⟩
  · cases h
/-- What is shown of a pair of trees. -/
def FzR (B : Nat) (C : Ctx) (x y : V) : Prop := ∀ m, R C x m → R (frC C B) y m
omit [KGl] in
theorem R.leaf_fr {B : Nat} {C : Ctx} {v : KV} (h : lfB v = true) : FzR B C v.v v.v := by
  intro m hr
  refine R.noref _ ?_ hr
  cases v with
  | pk k n x =>
    rw [v_pk]
    show ((List.range n).all fun i => noRef (.int k (pkg k x i))) = true
    rw [List.all_eq_true]; intro i _; rfl
  | int _ _ => rfl
  | bool _ => rfl
  | str _ _ => rfl
  | nl => rfl
  | nilp => rfl
  | nils => rfl
  | nilf => rfl
  | unk => rfl
  | _ => cases h
omit [KGl] in
theorem subT_rel {P : V → V → Prop} {a b c d a' b' c' d' : Pth → V → V} (h1 : ∀ p z z', P z z' → P (a p z) (a' p z')) (h2 : ∀ p z z', P z z' → P (b p z) (b' p z')) (h3 : ∀ p z z', P z z' → P (c p z) (c' p z')) (h4 : ∀ p z z', P z z' → P (d p z) (d' p z')) (g : Dg) (p : Pth) (z z' : V) (hz : P z z') : P (subT g a b c d p z) (subT g a' b' c' d' p z') := by
  cases g
  · exact h1 p z z' hz
  · exact h2 p z z' hz
  · exact h3 p z z' hz
  · exact h4 p z z' hz
omit [KGl] in
theorem FzR.unk {B : Nat} {C : Ctx} : FzR B C .unk .unk := fun m hr => by cases m <;> exact hr
/-- What is shown of two values. -/
def FzA (B : Nat) (C : Ctx) (v w : KV) : Prop := FzR B C v.v w.v ∧ (∀ p z z', FzR B C z z' → FzR B C (v.atv p z) (w.atv p z')) ∧ ∀ i, FzR B C (v.v.step (.idx i)) (w.v.step (.idx i))
theorem fzB_s {zm : KZ} {B : Nat} {C : Ctx} {M : Mem} (hs : SR B C M) (hsub : Sub (am zm) M) : ∀ (k : Nat) (v w : KV), fzB zm k v w = true → FzA B C v w
  | 0, _, _, h => by cases h
  | k + 1, v, w, h => by
    have ih := fzB_s hs hsub k
    replace h : fzS zm (fzB zm k) v w = true := h
    have leaf : lfB v = true → fzS zm (fzB zm k) v w = nd (lfB v) (kvb v w) → FzA B C v w := by
      intro hl he
      rw [he] at h
      obtain ⟨h1, h2⟩ := nd_iff.1 h
      obtain rfl := kvb_s h2
      refine ⟨R.leaf_fr h1, fun p z z' hz => ?_, fun i => ?_⟩
      · cases v <;> first | exact hz | cases hl
      · cases v <;> first | exact FzR.unk | exact (fun m hr => hr) | cases hl
    cases v with
    | int _ _ => exact leaf rfl rfl
    | bool _ => exact leaf rfl rfl
    | str _ _ => exact leaf rfl rfl
    | nl => exact leaf rfl rfl
    | pk _ _ _ => exact leaf rfl rfl
    | nilp => exact leaf rfl rfl
    | nils => exact leaf rfl rfl
    | nilf => exact leaf rfl rfl
    | unk => exact leaf rfl rfl
    | yld _ => cases w <;> cases h
    | ref _ _ _ => cases w <;> cases h
    | ro _ _ _ _ _ _ => cases w <;> cases h
    | cons a b =>
      cases w with
      | cons a' b' =>
        obtain ⟨h1, h2⟩ := nd_iff.1 (show nd (fzB zm k a a') (fzB zm k b b') = true from h)
        exact ⟨fun m hr => R.cons_map (ih _ _ h1).1 (ih _ _ h2).1 hr, fun p z z' hz => hz, fun i => FzR.unk⟩
      | _ => cases h
    | tup a =>
      cases w with
      | tup a' => exact ⟨fun m hr => R.tup_map (ih _ _ (show fzB zm k a a' = true from h)).1 hr, fun p z z' hz => hz, fun i => FzR.unk⟩
      | _ => cases h
    | fn f a =>
      cases w with
      | fn f' a' =>
        obtain ⟨h1, h2⟩ := nd_iff.1 (show nd (Nat.beq f f') (fzB zm k a a') = true from h)
        obtain rfl := beqE h1
        exact ⟨fun m hr => R.fn_map (ih _ _ h2).1 hr, fun p z z' hz => hz, fun i => FzR.unk⟩
      | _ => cases h
    | ar n d t =>
      cases w with
      | ar n' d' t' =>
        have h0 : nd (Nat.beq n n') (nd (fzB zm k d d') (fzB zm k t t')) = true := h
        simp only [nd_iff] at h0
        obtain rfl := beqE h0.1
        have hel : ∀ i, FzR B C (t.atv (enc i) d.v) (t'.atv (enc i) d'.v) := fun i => (ih _ _ h0.2.2).2.1 (enc i) _ _ (ih _ _ h0.2.1).1
        exact ⟨fun m hr => R.arr_map (f := fun i => t.atv (enc i) d.v) (g := fun i => t'.atv (enc i) d'.v) (fun i _ => hel i) hr, fun p z z' hz => hz, fun i => hel i⟩
      | _ => cases h
    | te =>
      cases w with
      | te => exact ⟨FzR.unk, fun p z z' hz => hz, fun i => FzR.unk⟩
      | _ => cases h
    | tb a b c d =>
      cases w with
      | tb a' b' c' d' =>
        have h0 : nd (fzB zm k a a') (nd (fzB zm k b b') (nd (fzB zm k c c') (fzB zm k d d'))) = true := h
        simp only [nd_iff] at h0
        refine ⟨FzR.unk, fun p z z' hz => ?_, fun i => FzR.unk⟩
        cases p with
        | nil => exact hz
        | cons g p => exact subT_rel (P := FzR B C) (ih _ _ h0.1).2.1 (ih _ _ h0.2.1).2.1 (ih _ _ h0.2.2.1).2.1 (ih _ _ h0.2.2.2).2.1 g p z z' hz
      | _ => cases h
    | tn x a b c d =>
      cases w with
      | tn x' a' b' c' d' =>
        have h0 : nd (fzB zm k x x') (nd (fzB zm k a a') (nd (fzB zm k b b') (nd (fzB zm k c c') (fzB zm k d d')))) = true := h
        simp only [nd_iff] at h0
        refine ⟨FzR.unk, fun p z z' hz => ?_, fun i => FzR.unk⟩
        cases p with
        | nil => exact (ih _ _ h0.1).1
        | cons g p => exact subT_rel (P := FzR B C) (ih _ _ h0.2.1).2.1 (ih _ _ h0.2.2.1).2.1 (ih _ _ h0.2.2.2.1).2.1 (ih _ _ h0.2.2.2.2).2.1 g p z z' hz
      | _ => cases h
    | row id e len =>
      cases w with
      | ro u cl e' off len' c =>
        cases cl with
        | true => cases h
        | false =>
          have h0 : nd (e.beq e') (nd (Nat.beq off 0) (nd (Nat.beq len len') (fzBk (fzB zm k) (kb zm id) (fun b => nd (arK b) (Nat.ble len (arZ b))) c))) = true := h
          simp only [nd_iff] at h0
          obtain ⟨h1, h2, h3, h4⟩ := h0
          obtain rfl := Shape.eq_of_beq h1
          obtain rfl := beqE h2
          obtain rfl := beqE h3
          obtain ⟨kd, sh, b, hb, q1, q2, q3⟩ := fzBk_s h4
          obtain ⟨q2, q4⟩ := nd_iff.1 q2
          obtain ⟨n, f, hf, hf'⟩ := arK_s q2
          refine ⟨fun m hr => ?_, fun p z z' hz => hz, fun i => FzR.unk⟩
          rw [v_ro]
          refine R.row_fr hs (hsub _ _ (am_some hb)) (by rw [KBlk.b, isAl_eq]; exact q1) (f := f) (by rw [KBlk.b]; exact hf) (fun i hi md hri => ?_) hr
          rw [hf', kidx_v] at hri
          rw [Nat.zero_add]
          exact (ih _ _ q3).2.2 i md hri
      | _ => cases h
    | ptr id p s =>
      cases w with
      | ref u s' c =>
        have h0 : nd (s.beq s') (fzBk (fun b c => fzB zm k (kpath p b) c) (kb zm id) (fun b => pthOk p b) c) = true := h
        obtain ⟨h1, h4⟩ := nd_iff.1 h0
        obtain rfl := Shape.eq_of_beq h1
        obtain ⟨kd, sh, b, hb, q1, q2, q3⟩ := fzBk_s h4
        refine ⟨fun m hr => ?_, fun p z z' hz => hz, fun i => FzR.unk⟩
        rw [v_ref]
        refine R.ptr_fr hs (hsub _ _ (am_some hb)) (by rw [KBlk.b, isAl_eq]; exact q1) (fun md hri => ?_) hr
        rw [KBlk.b] at hri
        rw [← kpath_v p b q2] at hri
        exact (ih _ _ q3).1 md hri
      | _ => cases h
    | sl id p e off len cap =>
      cases w with
      | ro u cl e' off' len' c =>
        have h0 : nd (e.beq e') (nd (Nat.beq off off') (nd (Nat.beq len len') (nd (cl == capIs cap len) (fzBk (fun b c => fzB zm k (kpath p b) c) (kb zm id) (fun b => nd (pthOk p b) (nd (arK (kpath p b)) (Nat.ble (Nat.add off len) (arZ (kpath p b))))) c)))) = true := h
        simp only [nd_iff] at h0
        obtain ⟨h1, h2, h3, h5, h4⟩ := h0
        obtain rfl := Shape.eq_of_beq h1
        obtain rfl := beqE h2
        obtain rfl := beqE h3
        rw [beq_iff_eq] at h5
        subst h5
        obtain ⟨kd, sh, b, hb, q1, q2, q3⟩ := fzBk_s h4
        simp only [nd_iff] at q2
        obtain ⟨q2, q4, q5⟩ := q2
        obtain ⟨n, f, hf, hf'⟩ := arK_s q4
        refine ⟨fun m hr => ?_, fun p z z' hz => hz, fun i => FzR.unk⟩
        rw [v_ro]
        refine R.sl_fr hs (hsub _ _ (am_some hb)) (by rw [KBlk.b, isAl_eq]; exact q1) (f := f) (n1 := n) (by rw [KBlk.b, ← kpath_v p b q2]; exact hf) (fun i hi md hri => ?_) hr
        rw [hf', kidx_v] at hri
        exact (ih _ _ q3).2.2 (off + i) md hri
      | _ => cases h
/-- A function that was run: on these arguments it hands back this, in memory of its own. -/
theorem csoundF {E : KEnv} (hE : KOk E) {n k fid : Nat} {args : List KV} {w : KV} (h : callR E (krun E n) 0 fid args .e 0 0 fun r zm _ _ => tK (fzB zm k r w)) :
    CSoundG E.P fid { pre := fun l => @decide (l = args.map KV.v) (Classical.propDecidable _), res := fun _ => w.v, fresh := true } := by
  have hme : MB (am (.e : KZ)) 0 := by rw [am_e]; exact emptyB 0
  refine ⟨(callR_s (B := 0) (krun_ok hE n) hE h hme (Nat.le_refl 0)).1, fun C l vals hok hg hargs hpre => ?_⟩
  have hl : l = args.map KV.v := @of_decide_eq_true _ (Classical.propDecidable _) hpre
  subst hl
  obtain ⟨_, r, zm', nx', mx', h1, h2, h3⟩ := callR_s (B := C.w.heap.size) (krun_ok hE n) hE h hme (Nat.le_refl 0)
  have h4 := tK_s h1
  have hz : GR C.w.heap.size (nx' + mx') C.pur (fun _ => none) (am .e) 0 :=
    ⟨⟨Nat.le_refl _, hok, (fun _ _ h => (by cases h)), (fun _ _ h => (by cases h)), (fun _ _ _ _ _ h => (by cases h)), (fun _ _ _ h => (by cases h)), hg⟩, (fun id b hb => by rw [am_e] at hb; cases hb), fun _ _ _ h => h⟩
  refine (h3 (nx' + mx') C.pur (fun _ => none) vals (by omega) (by omega) hz hargs).mono ?_
  rintro e w' ⟨val, he, C', M', hw, hR, hz', hc⟩
  subst hw
  refine ⟨hc.kp.below, val, he, ?_⟩
  have h5 := (fzB_s hz'.sr hz'.sub k r w h4).1 _ hR
  refine R.keep (C := frC C' C.w.heap.size) ?_ _ _ h5
  exact ⟨fun _ h => h.elim, fun _ h => h.elim, fun _ h => h.elim, fun u b hb => Or.inr hb, fun _ _ _ => rfl⟩
omit [KGl] in
theorem unL_mkL' (l : List V) : unL (mkL l) = l := by
  induction l with
  | nil => rfl
  | cons x r ih => show x :: unL (mkL r) = _; rw [ih]
theorem kconF_s {E : KEnv} (hE : KOk E) {n k fid : Nat} {args : List KV} {w : KV} (h : callR E (krun E n) 0 fid args .e 0 0 fun r zm _ _ => tK (fzB zm k r w)) : KCS E.P fid (kcon args w) := by
  have hc := csoundF hE h
  refine ⟨hc.1, fun l K hs => ?_⟩
  obtain ⟨h1, h2⟩ := chk_inv hs
  obtain rfl := kvbs_s h1
  refine ⟨w, h2, fun B μ nx mx l0 hl0 => ?_⟩
  have := con_call (B := B) (μ := μ) (nx := nx) (mx := mx) hE.gn hc rfl hl0 (by rw [unL_mkL']; exact @decide_eq_true _ (Classical.propDecidable _) rfl)
  exact this
/-- A contract over arguments that need not be known: a run of it shows what comes out. -/
theorem kcsP {P : Program} {fid : FuncId} {s : KSpec} (hf : ∃ fn, P.funcs[fid]? = some fn ∧ (fn.name == "runtime.NumGoroutine") = false ∧ fn.body.isNone = false)
    (h : ∀ l K, s l K → ∃ E : KEnv, KOk E ∧ E.P = P ∧ ∃ (n : Nat) (Q : KV → Prop) (w : KV), K w ∧ noRef w.v = true ∧ (∀ r : KV, Q r → Imp r.v w.v) ∧ callR E (krun E n) 0 fid l .e 0 0 fun r _ _ _ => Q r) : KCS P fid s := by
  refine ⟨hf, fun l K hs => ?_⟩
  obtain ⟨E, hE, rfl, n, Q, w, h1, h2, h3, h4⟩ := h l K hs
  have hc : CSoundG E.P fid { pre := fun l' => @decide (l' = l.map KV.v) (Classical.propDecidable _), res := fun _ => w.v, fresh := true } := by
    have hme : MB (am (.e : KZ)) 0 := by rw [am_e]; exact emptyB 0
    refine ⟨hf, fun C l' vals hok hg hargs hpre => ?_⟩
    have hl : l' = l.map KV.v := @of_decide_eq_true _ (Classical.propDecidable _) hpre
    subst hl
    obtain ⟨_, r, zm', nx', mx', q1, q2, q3⟩ := callR_s (B := C.w.heap.size) (krun_ok hE n) hE h4 hme (Nat.le_refl 0)
    have hz : GR C.w.heap.size (nx' + mx') C.pur (fun _ => none) (am .e) 0 :=
      ⟨⟨Nat.le_refl _, hok, (fun _ _ h => (by cases h)), (fun _ _ h => (by cases h)), (fun _ _ _ _ _ h => (by cases h)), (fun _ _ _ h => (by cases h)), hg⟩, (fun id b hb => by rw [am_e] at hb; cases hb), fun _ _ _ h => h⟩
    refine (q3 (nx' + mx') C.pur (fun _ => none) vals (by omega) (by omega) hz hargs).mono ?_
    rintro e w' ⟨val, he, C', M', hw, hR, _, hc⟩
    subst hw
    exact ⟨hc.kp.below, val, he, R.noref _ h2 (h3 r q1 _ _ hR)⟩
  refine ⟨w, h1, fun B μ nx mx l0 hl0 => ?_⟩
  exact con_call (B := B) (μ := μ) (nx := nx) (mx := mx) hE.gn hc rfl hl0 (by rw [unL_mkL']; exact @decide_eq_true _ (Classical.propDecidable _) rfl)
theorem kcsE {P : Program} {fid : FuncId} {s : KSpec} (hf : ∃ fn, P.funcs[fid]? = some fn ∧ (fn.name == "runtime.NumGoroutine") = false ∧ fn.body.isNone = false)
    (h : ∀ l K, s l K → ∃ E : KEnv, KOk E ∧ E.P = P ∧ ∃ n v w, K w ∧ noRef w.v = true ∧ Imp v.v w.v ∧ callR E (krun E n) 0 fid l .e 0 0 fun r _ _ _ => r = v) : KCS P fid s :=
  kcsP hf fun l K hs => by
    obtain ⟨E, hE, hP, n, v, w, h1, h2, h3, h4⟩ := h l K hs
    exact ⟨E, hE, hP, n, fun r => r = v, w, h1, h2, fun r hr => by rw [hr]; exact h3, h4⟩
theorem kcsQ {E : KEnv} (hE : KOk E) {fid : Nat} {s : KSpec} (hf : ∃ fn, E.P.funcs[fid]? = some fn ∧ (fn.name == "runtime.NumGoroutine") = false ∧ fn.body.isNone = false)
    (h : ∀ l K, s l K → ∃ n v w, K w ∧ noRef w.v = true ∧ Imp v.v w.v ∧ callR E (krun E n) 0 fid l .e 0 0 fun r _ _ _ => r = v) : KCS E.P fid s :=
  kcsE hf fun l K hs => ⟨E, hE, rfl, h l K hs⟩
/-- The second of two results. -/
def errQ (e : KV) (r : KV) : Prop := onTup (fun l => onCons (fun _ b => onCons (fun c d => onNl (tK (kvb c e)) (BadN 320) d) (BadN 321) b) (BadN 322) l) (BadN 323) r
omit [KGl] in
theorem errQ_s {e r : KV} (h : errQ e r) : Imp r.v (KV.tup (.cons .unk (.cons e .nl))).v := by
  rcases onTup_inv h with ⟨l, rfl, h1⟩ | ⟨_, h1⟩
  · rcases onCons_inv h1 with ⟨a, b, rfl, h2⟩ | ⟨_, h2⟩
    · rcases onCons_inv h2 with ⟨c, d, rfl, h3⟩ | ⟨_, h3⟩
      · rcases onNl_inv h3 with ⟨rfl, h4⟩ | ⟨_, h4⟩
        · obtain rfl := kvb_s (tK_s h4)
          rintro C m hr
          cases m with
          | val v =>
            obtain ⟨cs, q1, y, ys, q2, q3, q4⟩ := hr
            exact ⟨cs, q1, y, ys, q2, trivial, q4⟩
          | cel => exact hr
          | list => exact hr
        · exact h4.elim
      · exact h3.elim
    · exact h2.elim
  · exact h1.elim
/-- The same, where the results lie in memory of their own. -/
theorem kcsF {P : Program} {fid : FuncId} {s : KSpec} (hf : ∃ fn, P.funcs[fid]? = some fn ∧ (fn.name == "runtime.NumGoroutine") = false ∧ fn.body.isNone = false)
    (h : ∀ l K, s l K → ∃ E : KEnv, KOk E ∧ E.P = P ∧ ∃ n k w, K w ∧ callR E (krun E n) 0 fid l .e 0 0 fun r zm _ _ => tK (fzB zm k r w)) : KCS P fid s := by
  refine ⟨hf, fun l K hs => ?_⟩
  obtain ⟨E, hE, rfl, n, k, w, h1, h4⟩ := h l K hs
  have hc := csoundF hE h4
  refine ⟨w, h1, fun B μ nx mx l0 hl0 => ?_⟩
  exact con_call (B := B) (μ := μ) (nx := nx) (mx := mx) hE.gn hc rfl hl0 (by rw [unL_mkL']; exact @decide_eq_true _ (Classical.propDecidable _) rfl)
end
end Go.K
set_option linter.unusedVariables false
set_option linter.unusedSimpArgs false
set_option linter.constructorNameAsVariable false
namespace Go.K
open Go.Ab Go.RowKit Go.Y
noncomputable section
theorem SR.inst {i j : Gl} (h : ∀ g, i.G g = j.G g) {B : Nat} {C : Ctx} {m : Mem} (s : @SR i B C m) : @SR j B C m := by
  obtain ⟨q1, q2, q3, q4, q5, q6, q7⟩ := s
  exact @SR.mk j B C m q1 q2 q3 q4 q5 q6 fun g => by rw [← h g]; exact q7 g
theorem GR.inst {i j : Gl} (h : ∀ g, i.G g = j.G g) {B H : Nat} {C : Ctx} {M μ : Mem} {nx : Nat} (s : @GR i B H C M μ nx) : @GR j B H C M μ nx := by
  obtain ⟨q1, q2, q3⟩ := s
  exact @GR.mk j B H C M μ nx (SR.inst h q1) q2 q3
theorem Lend.inst {i j : Gl} (h : ∀ g, i.G g = j.G g) {B : Nat} {μ : Mem} {l0 l : List V} (s : @Lend i B μ l0 l) : @Lend j B μ l0 l :=
  fun C M vals hs hm hr => s C M vals (SR.inst (fun g => (h g).symm) hs) hm hr
theorem GCall.inst {i j : Gl} (h : ∀ g, i.G g = j.G g) {P : Program} {B : Nat} {fid : FuncId} {l : List V} {μ μ' : Mem} {nx nx' mx' : Nat} {v : V} (s : @GCall i P B fid l μ nx v μ' nx' mx') : @GCall j P B fid l μ nx v μ' nx' mx' := by
  intro H C M vals h1 h2 hz hl
  refine (s H C M vals h1 h2 (GR.inst (fun g => (h g).symm) hz) hl).mono ?_
  rintro e w' ⟨val, he, C', M', hw, hR, hz', hc⟩
  exact ⟨val, he, C', M', hw, hR, GR.inst h hz', hc⟩
/-- The same globals, but not all is known. -/
@[reducible] def opnG (k : KGl) : KGl := { g := k.g, cl := false }
theorem KCS.opn {k : KGl} {P : Program} {fid : FuncId} {s : KSpec} (h : @KCS k P fid s) : @KCS (opnG k) P fid s := by
  refine ⟨h.1, fun l K hs => ?_⟩
  obtain ⟨v, h1, h2⟩ := h.2 l K hs
  exact ⟨v, h1, fun B μ nx mx l0 hl => GCall.inst (i := @instGl k) (j := @instGl (opnG k)) (fun _ => rfl) (h2 B μ nx mx l0 (Lend.inst (i := @instGl (opnG k)) (j := @instGl k) (fun _ => rfl) hl))⟩
theorem KCS.cls {k : KGl} {P : Program} {fid : FuncId} {s : KSpec} (h : @KCS (opnG k) P fid s) : @KCS k P fid s := by
  refine ⟨h.1, fun l K hs => ?_⟩
  obtain ⟨v, h1, h2⟩ := h.2 l K hs
  exact ⟨v, h1, fun B μ nx mx l0 hl => GCall.inst (i := @instGl (opnG k)) (j := @instGl k) (fun _ => rfl) (h2 B μ nx mx l0 (Lend.inst (i := @instGl k) (j := @instGl (opnG k)) (fun _ => rfl) hl))⟩
/-! ### Tables of contracts -/
def ctL (l : List (Nat × KSpec)) (f : FuncId) : Option KSpec := @List.rec (Nat × KSpec) (fun _ => Option KSpec) none (fun x _ ih => @Bool.rec (fun _ => Option KSpec) ih (some x.2) (Nat.beq f x.1)) l
def allC [KGl] (P : Program) : List (Nat × KSpec) → Prop
  | [] => True
  | x :: l => KCS P x.1 x.2 ∧ allC P l
theorem ctL_s [KGl] {P : Program} : ∀ {l : List (Nat × KSpec)}, allC P l → ∀ f s, ctL l f = some s → KCS P f s
  | [], _, f, s, h => by cases h
  | x :: l, hl, f, s, h => by
    replace h : @Bool.rec (fun _ => Option KSpec) (ctL l f) (some x.2) (Nat.beq f x.1) = some s := h
    cases h1 : Nat.beq f x.1 with
    | true =>
      rw [h1] at h; cases h
      obtain rfl := beqE h1
      exact hl.1
    | false => rw [h1] at h; exact ctL_s hl.2 f s h
/-- A call that is not to happen. -/
def sDead : KSpec := fun _ _ => False
theorem sDead_s [KGl] {P : Program} {fid : FuncId} (hf : ∃ fn, P.funcs[fid]? = some fn ∧ (fn.name == "runtime.NumGoroutine") = false ∧ fn.body.isNone = false) : KCS P fid sDead := ⟨hf, fun _ _ h => h.elim⟩
/-- With a table. -/
def KEnv.tab (E : KEnv) (l : List (Nat × KSpec)) : KEnv := { E with ct := ctL l }
theorem KOk.tab [KGl] {E : KEnv} (hE : KOk E) {l : List (Nat × KSpec)} (h : allC E.P l) : KOk (E.tab l) := ⟨hE.fns, ctL_s h, hE.gn, hE.mixed, hE.ex⟩
theorem KOk.opn {k : KGl} {E : KEnv} (h : @KOk k E) : @KOk (opnG k) E := by
  obtain ⟨h1, h2, h3, h4, h5⟩ := h
  exact @KOk.mk (opnG k) E h1 (fun f s hs => (h2 f s hs).opn) h3 h4 h5
theorem Imp.tup {a b : V} (h : Imp a b) : Imp (.tup a) (.tup b) := fun C m hr => R.tup_map (fun m hr => h C m hr) hr
theorem Imp.consL {a b a' b' : V} (h1 : ∀ C x, R C a (.val x) → R C a' (.val x)) (h2 : ∀ C l, R C b (.list l) → R C b' (.list l)) : ∀ C l, R C (.cons a b) (.list l) → R C (.cons a' b') (.list l) := by
  rintro C l ⟨y, ys, q1, q2, q3⟩
  exact ⟨y, ys, q1, h1 _ _ q2, h2 _ _ q3⟩
theorem Imp.tupL {a b : V} (h : ∀ C l, R C a (.list l) → R C b (.list l)) : Imp (.tup a) (.tup b) := fun C m hr => by
  cases m with
  | val v => obtain ⟨cs, q1, q2⟩ := hr; exact ⟨cs, q1, h _ _ q2⟩
  | cel => exact hr
  | list => exact hr
end
end Go.K
