/- Loops with what stays true of them; contracts from runs. No condition. Pieces of code, counting loops, contracts. No condition. Steps of code, from equations of runs. No condition. -/
import Derived.Test.YthnhbdidiglcgaaGreatDoorY6
set_option linter.unusedVariables false
set_option linter.unusedSimpArgs false
set_option linter.constructorNameAsVariable false
namespace Go.Y
open Go.Ab Go.RowKit
noncomputable section
variable [Gl]

/-! ### Weaker knowledge -/
def wkV (n : Nat) (v w : V) : Prop := match w with
  | .unk => True
  | w => v.le w ∧ v.bel n
def wkB (n : Nat) (b : Option Blk) (c : Blk) : Prop := match c.k with
  | .dead => ∃ x, b = some x
  | .lp .. => False
  | k => ∃ x, b = some x ∧ x.k = k ∧ x.sh = c.sh ∧ x.v.le c.v ∧ x.v.bel n
def WkT (n : Nat) (tm tm1 : Tm) : Prop := ∀ t, wkV n (tv tm t) (tv tm1 t)
def WkZ (n : Nat) (zm zm1 : Zm) : Prop := ∀ id c, gm zm1 id = some c → id < n ∧ wkB n (gm zm id) c

/-- Names that are left. -/
def cutC (C : Ctx) (n H : Nat) : Ctx := { C with al := fun id => C.al id ∧ (id < n ∨ H ≤ id) }
omit [Gl] in
theorem R.cutLow {C : Ctx} {n H : Nat} (v : V) {m : Ab.M} (hb : v.bel n) (h : R C v m) : R (cutC C n H) v m := by
  have h1 := R.cut v hb h
  refine R.keep (C := C.cut n) ?_ _ _ h1
  exact ⟨fun id hid => ⟨hid.1, .inl hid.2⟩, fun _ _ => rfl, fun _ _ => rfl, fun _ _ h => h, fun _ _ _ => rfl⟩
omit [Gl] in
/-- What stood for something before, and still does, needs no name that is not left. -/
theorem R.two {C0 C : Ctx} {n H : Nat} (h0 : ∀ id, C0.al id → id < n ∨ H ≤ id) (v : V) : ∀ {m0 m : Ab.M}, R C0 v m0 → R C v m → R (cutC C n H) v m := by
  have aln : ∀ {v : V} {id : Nat} {m0 : Ab.M}, (∃ p s, v = .ptr id p s) ∨ (∃ e k, v = .row id e k) ∨ (∃ p e off len cap, v = .sl id p e off len cap) → R C0 v m0 → id < n ∨ H ≤ id := by
    rintro v id m0 (⟨p, s, rfl⟩ | ⟨e, k, rfl⟩ | ⟨p, e, off, len, cap, rfl⟩) h
    · exact h0 _ h.1
    · exact h0 _ h.1
    · exact h0 _ h.1
  have purk : ∀ {v : V} {m : Ab.M}, R C.pur v m → R (cutC C n H) v m := fun h => R.keep (C := C.pur) (C' := cutC C n H) ⟨fun _ h => h.elim, fun _ h => h.elim, fun _ h => h.elim, fun _ _ h => h, fun _ _ _ => rfl⟩ _ _ h
  induction v with
  | ptr id p s => intro m0 m h h'; exact ⟨⟨h'.1, aln (.inl ⟨_, _, rfl⟩) h⟩, h'.2⟩
  | row id e k => intro m0 m h h'; exact ⟨⟨h'.1, aln (.inr (.inl ⟨_, _, rfl⟩)) h⟩, h'.2⟩
  | yld id => intro m0 m h h'; exact ⟨⟨h'.1, h0 _ h.1⟩, h'.2⟩
  | sl id p e off len cap => intro m0 m h h'; exact ⟨⟨h'.1, aln (.inr (.inr ⟨_, _, _, _, _, rfl⟩)) h⟩, h'.2⟩
  | cons x t ih1 ih2 =>
    intro m0 m h h'
    have hx : (∃ q, R C0 x q) ∧ ∃ q, R C0 t q := by
      cases m0 with
      | cel s g off => obtain ⟨a, b, h1, h2, h3⟩ := h; exact ⟨⟨_, h2⟩, ⟨_, h3⟩⟩
      | val v => obtain ⟨cs, a, b, h1, h2, h3, h4⟩ := h; exact ⟨⟨_, h3⟩, ⟨_, h4⟩⟩
      | list l => obtain ⟨y, ys, h1, h2, h3⟩ := h; exact ⟨⟨_, h2⟩, ⟨_, h3⟩⟩
    obtain ⟨⟨q1, k1⟩, ⟨q2, k2⟩⟩ := hx
    cases m with
    | cel s g off => obtain ⟨a, b, h1, h2, h3⟩ := h'; exact ⟨a, b, h1, ih1 k1 h2, ih2 k2 h3⟩
    | val v => obtain ⟨cs, a, b, h1, h2, h3, h4⟩ := h'; exact ⟨cs, a, b, h1, h2, ih1 k1 h3, ih2 k2 h4⟩
    | list l => obtain ⟨y, ys, h1, h2, h3⟩ := h'; exact ⟨y, ys, h1, ih1 k1 h2, ih2 k2 h3⟩
  | arr k f ih =>
    intro m0 m h h'
    have hx : ∀ i, i < k → ∃ q, R C0 (f i) q := by
      intro i hi
      cases m0 with
      | cel s g off => obtain ⟨e, h1, h2⟩ := h; exact ⟨_, h2 i hi⟩
      | val v => obtain ⟨cs, e, h1, h2, h3⟩ := h; exact ⟨_, h3 i hi⟩
      | list l => exact h.elim
    cases m with
    | cel s g off => obtain ⟨e, h1, h2⟩ := h'; exact ⟨e, h1, fun i hi => by obtain ⟨q, k1⟩ := hx i hi; exact ih i k1 (h2 i hi)⟩
    | val v => obtain ⟨cs, e, h1, h2, h3⟩ := h'; exact ⟨cs, e, h1, h2, fun i hi => by obtain ⟨q, k1⟩ := hx i hi; exact ih i k1 (h3 i hi)⟩
    | list l => exact h'
  | fn f c ih =>
    intro m0 m h h'
    obtain ⟨_, _, k1⟩ := h
    obtain ⟨cs, h1, h2⟩ := h'
    exact ⟨cs, h1, ih k1 h2⟩
  | tup l ih =>
    intro m0 m h h'
    have hx : ∃ q, R C0 l q := by
      cases m0 with
      | val v => obtain ⟨cs, h1, h2⟩ := h; exact ⟨_, h2⟩
      | cel => exact h.elim
      | list => exact h.elim
    obtain ⟨q, k1⟩ := hx
    cases m with
    | val v => obtain ⟨cs, h1, h2⟩ := h'; exact ⟨cs, h1, ih k1 h2⟩
    | cel => exact h'
    | list => exact h'
  | _ => intro m0 m _ h'; exact purk (R.pure_of _ rfl h')

omit [Gl] in
theorem wkV_s {C : Ctx} {n H : Nat} {v w : V} {x : Value} (h : wkV n v w) (hr : R C v (.val x)) : R (cutC C n H) w (.val x) := by
  unfold wkV at h
  split at h
  · trivial
  · exact R.le v h.1 (R.cutLow v h.2 hr)
omit [Gl] in
theorem BR.mk {B : Nat} {C : Ctx} {n H : Nat} {id : Nat} {b c : Blk} (h : BR B C id b) (hk : b.k = c.k) (hs : b.sh = c.sh) (hv : (∀ k ps x y, c.k ≠ .lp k ps x y) → ∀ m, R C b.v m → R (cutC C n H) c.v m) (hl : ∀ k ps x y, c.k = .lp k ps x y → LoopR B C id k ps x y b.v → LoopR B (cutC C n H) id k ps x y c.v) : BR B (cutC C n H) id c := by
  unfold BR at h ⊢
  rw [hk] at h
  cases hkd : c.k <;> simp only [hkd] at h ⊢
  · obtain ⟨g, cur, e, h1, h2, h3, h4, h5, h6, hT⟩ := h
    rw [hs] at h4 h5 h6
    exact ⟨g, cur, e, h1, h2, h3, h4, h5, hv (by simp [hkd]) _ h6, hT⟩
  · obtain ⟨n1, s, cells, h1, h2, h3, h4⟩ := h
    rw [hs] at h1 h2 h4
    exact ⟨n1, s, cells, h1, h2, h3, hv (by simp [hkd]) _ h4⟩
  · exact hl _ _ _ _ hkd h
  · obtain ⟨g, es, clk, h1, h2, h3, h4⟩ := h
    exact ⟨g, es, clk, h1, h2, h3, hv (by simp [hkd]) _ h4⟩
omit [Gl] in
theorem LoopR.two {B : Nat} {C0 C : Ctx} {n H id m : Nat} {ps : Array Tmp} {a b : Code} {v : V} (hold : ∀ id, C0.al id → id < n ∨ H ≤ id) (h0 : LoopR B C0 id m ps a b v) (h : LoopR B C id m ps a b v) : LoopR B (cutC C n H) id m ps a b v := by
  rcases h with ⟨l, r, st, n1, τ, h1, h2, h3, h4, h7, h8, k9, h10⟩ | h
  · rcases h0 with ⟨_, r0, st0, n0, τ0, _, _, _, _, e0, _, h9, _⟩ | ⟨e0, _⟩
    · rw [e0] at h7
      injection h7 with q1 q2
      injection q2 with q2 q3
      subst q1; subst q2; subst q3
      exact .inl ⟨l, r, _, _, _, h1, h2, h3, h4, e0, h8, fun t => R.two hold _ (h9 t) (k9 t), h10⟩
    · rw [e0] at h7; cases h7
  · exact .inr h

section
variable {P : Program} {ct : CTab} {B N : Nat}
/-- Less is known; names from 'n' on are free again. -/
theorem cut_state {H nx0 nx1 : Nat} {C C1 : Ctx} {M M1 : Mem} {zm0 zm1 zm2 : Zm} {tm1 tm2 : Tm} {a : Act} (hgn : ∀ g, noId (Gl.G g) = true) (hH : nx1 ≤ H) (h0 : YR B H C M zm0 nx0) (hkb0 : KB zm0 nx0) (h1 : YR B H C1 M1 zm1 nx1) (ht : YT C1 tm1 a N) (hc : YC B H C M zm0 nx0 C1 M1 zm1 nx1)
    (hwt : WkT nx0 tm1 tm2) (hwz : WkZ nx0 zm1 zm2) :
    ∃ C2 M2, C2.w = C1.w ∧ YR B H C2 M2 zm2 nx0 ∧ YT C2 tm2 a N ∧ YC B H C M zm0 nx0 C2 M2 zm2 nx0 := by
  have hold : ∀ id, C.al id → id < nx0 ∨ H ≤ id := fun id hid => by
    rcases Nat.lt_or_ge id nx0 with h | h
    · exact .inl h
    · rcases Nat.lt_or_ge id H with h' | h'
      · exact absurd hid (h0.al id h h')
      · exact .inr h'
  let M2 : Mem := fun id => match gm zm2 id with
    | some c => some c
    | none => if (id < nx0 ∨ H ≤ id) ∧ gm zm0 id = none then M1 id else none
  have hM2 : ∀ id c, M2 id = some c → (gm zm2 id = some c ∧ id < nx0 ∧ wkB nx0 (gm zm1 id) c) ∨ (M1 id = some c ∧ M id = some c ∧ (id < nx0 ∨ H ≤ id)) := by
    intro id c h
    simp only [M2] at h
    split at h
    · rename_i c' hc'
      cases h
      obtain ⟨q1, q2⟩ := hwz id c hc'
      exact .inl ⟨hc', q1, q2⟩
    · split at h
      · rename_i hn
        have := (hc.fr id hn.1 hn.2).1
        exact .inr ⟨h, by rw [← this]; exact h, hn.1⟩
      · cases h
  have hsome : ∀ id c, M2 id = some c → ∃ b, M1 id = some b ∧ (c.live = true → b.live = true) := by
    intro id c h
    rcases hM2 id c h with ⟨_, _, h3⟩ | ⟨h3, _⟩
    · unfold wkB at h3
      split at h3
      · rename_i hk
        obtain ⟨x, hx⟩ := h3
        exact ⟨x, h1.sub _ _ hx, fun ha => by unfold Blk.live at ha; rw [hk] at ha; cases ha⟩
      · exact h3.elim
      · obtain ⟨x, hx, hk, _⟩ := h3
        exact ⟨x, h1.sub _ _ hx, fun ha => by unfold Blk.live at ha ⊢; rw [hk]; exact ha⟩
    · exact ⟨c, h3, fun h => h⟩
  have hkeep : Keep C (cutC C1 nx0 H) := ⟨fun id hid => ⟨hc.kp.al id hid, hold id hid⟩, hc.kp.sv, hc.kp.shp, hc.kp.ok, hc.kp.heap⟩
  refine ⟨cutC C1 nx0 H, M2, rfl, ⟨⟨h1.sr.base, h1.sr.okLt, ?_, ?_, ?_, ?_, fun g => R.keep (C := C1.pur) (C' := cutC C1 nx0 H) ⟨fun _ h => h.elim, fun _ h => h.elim, fun _ h => h.elim, fun _ _ h => h, fun _ _ _ => rfl⟩ _ _ (R.pure_of _ (hgn g) (h1.sr.gl g))⟩, ?_, ?_⟩, ⟨fun t => wkV_s (hwt t) (ht.tv t), ht.size, ht.defers⟩, ⟨⟨hkeep, hc.kp.below, hc.kp.okn⟩, ?_, ?_⟩⟩
  · intro id c h
    obtain ⟨b, hb, _⟩ := hsome id c h
    refine ⟨h1.sr.al id b hb, ?_⟩
    rcases hM2 id c h with ⟨_, h3, _⟩ | ⟨_, _, h3⟩
    · exact .inl h3
    · exact h3
  · intro id c h
    rcases hM2 id c h with ⟨_, _, h3⟩ | ⟨h3, h4, _⟩
    · unfold wkB at h3
      split at h3
      · rename_i hk
        unfold BR; rw [hk]; trivial
      · exact h3.elim
      · rename_i k hk hk2
        obtain ⟨x, hx, q1, q2, q3, q4⟩ := h3
        exact BR.mk (h1.sr.mem id x (h1.sub _ _ hx)) q1 q2 (fun _ m hr => R.le _ q3 (R.cutLow _ q4 hr)) fun k ps x y e => absurd e (hk2 k ps x y)
    · by_cases hd : c.k = .dead
      · unfold BR; rw [hd]; trivial
      have hb := h0.sr.mem id c h4
      unfold BR at hb
      refine BR.mk (h1.sr.mem id c h3) rfl rfl (fun hnl m hr => ?_) fun k ps x y e hl => ?_
      · cases hkd : c.k <;> simp only [hkd] at hb
        · obtain ⟨g, cur, e, _, _, _, _, _, h6, _⟩ := hb; exact R.two hold _ h6 hr
        · obtain ⟨n1, s, cells, _, _, _, h6⟩ := hb; exact R.two hold _ h6 hr
        · exact absurd hkd hd
        · exact absurd hkd (hnl _ _ _ _)
        · obtain ⟨g, es, clk, _, _, _, h6⟩ := hb; exact R.two hold _ h6 hr
      · rw [e] at hb; exact LoopR.two hold hb hl
  · intro id id' c c' b q1 q2 q3 q4 q5 q6
    obtain ⟨b1, p1, p2⟩ := hsome id c q1
    obtain ⟨b2, p3, p4⟩ := hsome id' c' q3
    exact h1.sr.sep id id' b1 b2 b p1 (p2 q2) p3 (p4 q4) q5 q6
  · intro id c b q1 q2 q3 u
    obtain ⟨b1, p1, p2⟩ := hsome id c q1
    exact h1.sr.own id b1 b p1 (p2 q2) q3 u
  · intro id c h
    show M2 id = some c
    simp only [M2, h]
  · intro id q1 q2 q3
    rcases q3.2 with h | h
    · omega
    · omega
  · intro id hid
    rcases hc.al id hid.1 with h | h
    · exact .inl h
    · rcases hid.2 with h' | h'
      · omega
      · omega
  · intro id hid hn
    obtain ⟨q1, q2⟩ := hc.fr id hid hn
    have h3 : gm zm2 id = none := by
      cases hz : gm zm2 id with
      | none => rfl
      | some c =>
        obtain ⟨_, h4⟩ := hwz id c hz
        unfold wkB at h4
        split at h4
        · obtain ⟨x, hx⟩ := h4; rw [q2] at hx; cases hx
        · exact h4.elim
        · obtain ⟨x, hx, _⟩ := h4; rw [q2] at hx; cases hx
    refine ⟨?_, h3⟩
    show M2 id = M id
    simp only [M2, h3]
    rw [if_pos ⟨hid, hn⟩, q1]

/-- A loop, round by round, less and less known. -/
inductive LoopWk (P : Program) (B : Nat) (c : Code) (N nx0 nb : Nat) (e : Exit) (tm' : Tm) (zm' : Zm) : Nat → Tm → Zm → Prop where
  | out {k : Nat} {tm : Tm} {zm : Zm} {nx1 : Nat} (h : Runs P B c tm zm nx0 N e tm' zm' nx1) (he : e ≠ .normal) (hle : nx0 ≤ nx1) (hb : nx1 ≤ nb) : LoopWk P B c N nx0 nb e tm' zm' (k + 1) tm zm
  | round {k : Nat} {tm tm1 tm2 : Tm} {zm zm1 zm2 : Zm} {nx1 : Nat} (h : Runs P B c tm zm nx0 N .normal tm1 zm1 nx1) (hle : nx0 ≤ nx1) (hb : nx1 ≤ nb) (hwt : WkT nx0 tm1 tm2) (hwz : WkZ nx0 zm1 zm2) (h2 : LoopWk P B c N nx0 nb e tm' zm' k tm2 zm2) : LoopWk P B c N nx0 nb e tm' zm' (k + 1) tm zm
theorem YR.raise {H nx nb : Nat} {C : Ctx} {M : Mem} {zm : Zm} (h : YR B H C M zm nx) (hle : nx ≤ nb) : YR B H C M zm nb := ⟨h.sr, h.sub, fun id h1 h2 => h.al id (by omega) h2⟩
omit [Gl] in
theorem YC.raise {H nx nx' nb : Nat} {C C' : Ctx} {M M' : Mem} {zm zm' : Zm} (h : YC B H C M zm nx C' M' zm' nx') (hle : nx' ≤ nb) : YC B H C M zm nx C' M' zm' nb :=
  ⟨h.kp, fun id hid => (h.al id hid).imp (fun h => h) fun h => ⟨h.1, by omega⟩, h.fr⟩
omit [Gl] in
theorem WkZ.kb {n : Nat} {zm zm1 : Zm} (h : WkZ n zm zm1) : KB zm1 n := fun id hid => by
  cases hz : gm zm1 id with
  | none => rfl
  | some c => have := (h id c hz).1; omega
theorem LoopWk.runs (hgn : ∀ g, noId (Gl.G g) = true) {c : Code} {nx0 nb k : Nat} {e : Exit} {tm tm' : Tm} {zm zm' : Zm} (h : LoopWk P B c N nx0 nb e tm' zm' k tm zm) (hkb : KB zm nx0) : Runs P B (.loop c) tm zm nx0 N e tm' zm' nb := by
  intro H C M a hH hz ht
  refine wp_loop_ghost (fun n a w => ∃ C' M' tm1 zm1, C'.w = w ∧ YR B H C' M' zm1 nx0 ∧ YT C' tm1 a N ∧ YC B H C M zm nx0 C' M' zm1 nx0 ∧ LoopWk P B c N nx0 nb e tm' zm' n tm1 zm1) k ⟨C, M, tm, zm, rfl, hz, ht, YC.refl C M zm nx0, h⟩ ?_
  rintro n a w ⟨C1, M1, tm1, zm1, rfl, h1, h2, h3, h5⟩
  cases h5 with
  | @out _ _ _ nx1 hr he hle hb =>
    refine wp_mono (hr H C1 M1 a (by omega) h1 h2) ?_
    rintro e' a' w' ⟨rfl, C2, M2, rfl, hf⟩
    have hq : YFin B H C M zm nx0 N e' tm' zm' nb e' a' C2.w := ⟨rfl, C2, M2, rfl, hf.yr.raise hb, hf.yt, (h3.trans hf.yc (Nat.le_refl _) hle).raise hb⟩
    cases e' with
    | normal => exact absurd rfl he
    | _ => exact hq
  | @round k _ tm2 tm3 _ zm2 zm3 nx1 hr hle hb hwt hwz h6 =>
    refine wp_mono (hr H C1 M1 a (by omega) h1 h2) ?_
    rintro e' a' w' ⟨rfl, C2, M2, rfl, hf⟩
    obtain ⟨C3, M3, q1, q2, q3, q4⟩ := cut_state hgn (by omega) hz hkb hf.yr hf.yt (h3.trans hf.yc (Nat.le_refl _) hle) hwt hwz
    exact ⟨k, by omega, C3, M3, tm3, zm3, q1, q2, q3, q4, h6⟩
/-- A loop. 'I': what stays true, with how many rounds may come; 'nb': names below it serve for all rounds. -/
theorem WR.loop (hE : Env P ct) {c : Code} {nx0 : Nat} (nb : Nat) {K : K3} (I : Nat → Tm → Zm → Prop)
    (step : ∀ m tm zm, I m tm zm → KB zm nx0 → WR P B N c tm zm nx0 (fun e tm' zm' nx' => nx' ≤ nb ∧ (e = .normal → ∃ m' tm1 zm1, m' < m ∧ WkT nx0 tm' tm1 ∧ WkZ nx0 zm' zm1 ∧ I m' tm1 zm1) ∧ (e ≠ .normal → K e tm' zm' nb))) :
    ∀ (m : Nat) (tm : Tm) (zm : Zm), I m tm zm → KB zm nx0 → WR P B N (.loop c) tm zm nx0 K := by
  have key : ∀ (m : Nat) (tm : Tm) (zm : Zm), I m tm zm → KB zm nx0 → ∃ e tm' zm' k, K e tm' zm' nb ∧ KB zm' nb ∧ nx0 ≤ nb ∧ LoopWk P B c N nx0 nb e tm' zm' k tm zm := by
    intro m
    induction m using Nat.strongRecOn with
    | _ m IH =>
    intro tm zm hI hkb
    obtain ⟨e, tm1, zm1, nx1, ⟨hb, hn, hx⟩, k2, k3, k4⟩ := step m tm zm hI hkb
    by_cases he : e = .normal
    · subst he
      obtain ⟨m', tm2, zm2, hlt, hwt, hwz, hI'⟩ := hn rfl
      obtain ⟨e, tm', zm', k, q1, q2, q3, q4⟩ := IH m' hlt tm2 zm2 hI' hwz.kb
      exact ⟨e, tm', zm', k + 1, q1, q2, q3, .round k4 k3 hb hwt hwz q4⟩
    · exact ⟨e, tm1, zm1, 1, hx he, fun id hid => k2 id (by omega), by omega, .out k4 he k3 hb⟩
  intro m tm zm hI hkb
  obtain ⟨e, tm', zm', k, q1, q2, q3, q4⟩ := key m tm zm hI hkb
  exact ⟨e, tm', zm', nb, q1, q2, q3, q4.runs hE.gn hkb⟩

/-! ### Explicit states -/
def mkT : List Nat → List V → Tm
  | t :: lt, v :: vs => set v (enc t) (mkT lt vs)
  | _, _ => .e
def mkZ : List Nat → List Blk → Zm
  | i :: li, b :: bs => set (some b) (enc i) (mkZ li bs)
  | _, _ => .e
def wkVs (n : Nat) : List V → List V → Prop
  | v :: vs, w :: ws => wkV n v w ∧ wkVs n vs ws
  | _, [] => True
  | [], _ :: _ => False
def wkBs (n : Nat) : List Nat → List (Option Blk) → List Blk → Prop
  | i :: li, v :: vs, w :: ws => (i < n ∧ wkB n v w) ∧ wkBs n li vs ws
  | _, _, [] => True
  | _, _, _ :: _ => False
omit [Gl] in
theorem wkV_unk {n : Nat} {v : V} : wkV n v .unk := trivial
omit [Gl] in
theorem tv_e (t : Nat) : tv .e t = .unk := get_e _ _
omit [Gl] in
theorem WkT_mk {n : Nat} {tm : Tm} : ∀ {lt : List Nat} {vs : List V}, wkVs n (lt.map (tv tm)) vs → WkT n tm (mkT lt vs)
  | [], vs, _ => fun t => by cases vs <;> (show wkV n _ (tv .e t); rw [tv_e]; exact wkV_unk)
  | t :: lt, [], _ => fun t => by show wkV n _ (tv .e t); rw [tv_e]; exact wkV_unk
  | t :: lt, v :: vs, h => fun q => by
    show wkV n _ (tv (set v (enc t) (mkT lt vs)) q)
    rw [tv_set]
    split
    · rename_i e; subst e; exact h.1
    · exact WkT_mk (lt := lt) (vs := vs) h.2 q
omit [Gl] in
theorem WkZ_mk {n : Nat} {zm : Zm} : ∀ {li : List Nat} {bs : List Blk}, wkBs n li (li.map (gm zm)) bs → WkZ n zm (mkZ li bs)
  | [], bs, _ => fun t c h => by cases bs <;> (have h : gm .e t = some c := h; rw [gm_e] at h; cases h)
  | i :: li, [], _ => fun t c h => by have h : gm .e t = some c := h; rw [gm_e] at h; cases h
  | i :: li, b :: bs, h => fun q c hq => by
    have h1 : gm (set (some b) (enc i) (mkZ li bs)) q = some c := hq
    clear hq
    rw [gm_set] at h1
    split at h1
    · rename_i e; subst e; cases h1; exact h.1
    · exact WkZ_mk (li := li) (bs := bs) h.2 q c h1
omit [Gl] in
theorem KB_mkZ {n : Nat} : ∀ {li : List Nat} {bs : List Blk}, (li.all fun i => decide (i < n)) = true → KB (mkZ li bs) n
  | [], bs, _ => fun id _ => by cases bs <;> exact gm_e id
  | i :: li, [], _ => fun id _ => gm_e id
  | i :: li, b :: bs, h => fun id hid => by
    simp only [List.all_cons, Bool.and_eq_true, decide_eq_true_eq] at h
    show gm (set (some b) (enc i) (mkZ li bs)) id = none
    rw [gm_set, if_neg (by omega)]
    exact KB_mkZ (li := li) (bs := bs) h.2 id hid
/-- What is looked at behind a piece of code: some temporaries, some blocks. -/
def outK (lt li : List Nat) (Q : Exit → List V → List (Option Blk) → Nat → Prop) : K3 := fun e tm zm nx => Q e (lt.map (tv tm)) (li.map (gm zm)) nx

/-! ### Contracts -/
/-- A result, as the contract has it. -/
def retQ (c : CSpec) (l : List V) (v : V) (zm : Zm) (_ : Nat) : Prop := (frz (gm zm) 12 v).le (c.res l) ∧ (c.fresh = true → (frz (gm zm) 12 v).own)
theorem csound_of (hE : Env P ct) {f : FuncId} {fn : Func} {c : Code} {s : CSpec} (hf : P.funcs[f]? = some fn) (hb : fn.body = some c)
    (h : ∀ (B N : Nat) args, s.pre args = true → fn.ntmps ≤ N → WR P B N c (bindT (args.map borrow) 0 .e) .e 0 (retK P fn.results.toList (retQ s args))) : CSoundG P f s := by
  obtain ⟨hname, hcode⟩ := hE.fns.get hf
  refine ⟨⟨fn, hf, hname, by rw [hb]; rfl⟩, fun C args vals hok hg hargs hpre => ?_⟩
  let C0 : Ctx := { C.pur with ok := fun u b => u = true ∧ ∃ u', C.ok u' b }
  have hbor : ∀ (l : List V) (vs : List Value), R C.pur (mkL l) (.list vs) → R C0 (mkL (l.map borrow)) (.list vs) := by
    intro l
    induction l with
    | nil => intro vs h; exact h
    | cons v l ih =>
      intro vs h
      obtain ⟨x, xs, rfl, h1, h2⟩ := h
      exact ⟨x, xs, rfl, R.borrow (ok' := C0.ok) v (fun u b h => ⟨rfl, u, h⟩) h1, ih xs h2⟩
  have hargs' := hbor _ _ hargs
  have hgl : ∀ g, R C0 (Gl.G g) (.val (.pointer (some ⟨g, 0, none⟩))) := fun g => by
    have := R.borrow (ok' := C0.ok) (Gl.G g) (C := C.pur) (fun u b h => ⟨rfl, u, h⟩) (hg g)
    rw [hE.gb] at this; exact this
  obtain ⟨e, tm', zm', nx', k1, _, _, hrun⟩ := h C.w.heap.size (vals.length + (fn.ntmps - vals.length)) args hpre (by omega)
  have hyr : YR C.w.heap.size nx' C0 (fun _ => none) .e 0 :=
    ⟨⟨Nat.le_refl _, (fun u b h => by obtain ⟨_, u', h⟩ := h; exact hok u' b h), (fun _ _ h => (by cases h)), (fun _ _ h => (by cases h)), (fun _ _ _ _ _ h => (by cases h)), (fun _ _ _ h => (by cases h)), hgl⟩, (fun id b hb => by rw [gm_e] at hb; cases hb), fun _ _ _ h => h⟩
  refine calls_of_wp hf hb (wp_mono (hrun nx' C0 (fun _ => none) _ (Nat.le_refl _) hyr (YT.enter hargs' fn.ntmps)) ?_)
  rintro e' a w' ⟨rfl, C1, M1, rfl, hfin⟩
  have fin : someK (rvA P tm' zm' fn.results.toList) (fun v => retQ s args v zm' nx') → a.defers = [] ∧ ∃ v, (results fn a.tmps).run P C1.w = .ok v C1.w ∧ (Below C.w.heap.size C.w C1.w ∧ ∃ r, Ending.returned v = .returned r ∧
      R { C.pur with w := C1.w, ok := fun u b => (s.fresh = false ∧ ∃ u', C.ok u' b) ∨ (C.w.heap.size ≤ b ∧ b < C1.w.heap.size) } (s.res args) (.val r)) := by
    intro hr
    obtain ⟨v, hv, hle, hfresh⟩ := someK_inv hr
    obtain ⟨x, hx, hrx⟩ := rvA_s hfin.yr hfin.yt hv
    refine ⟨hfin.yt.defers, x, hx, hfin.yc.kp.below, x, rfl, ?_⟩
    have h1 := R.frz hfin.yr.sr hfin.yr.sub 12 v _ hrx
    refine R.le _ hle ?_
    have hof : ∀ u b, C1.ok u b → (u = true ∧ ∃ u', C.ok u' b) ∨ (C.w.heap.size ≤ b ∧ b < C1.w.heap.size) := by
      intro u b hb
      have hlt := hfin.yr.sr.okLt u b hb
      rcases hfin.yc.kp.okn u b hb with (h2 | ⟨_, h2⟩) | h2
      · exact .inl h2
      · exact absurd h2.1 (by simp)
      · exact .inr ⟨h2, hlt⟩
    cases hfr : s.fresh with
    | false =>
      refine R.keep (C := C1.opened C.w.heap.size) (C' := { C.pur with w := C1.w, ok := fun u b => (false = false ∧ ∃ u', C.ok u' b) ∨ (C.w.heap.size ≤ b ∧ b < C1.w.heap.size) }) ⟨fun _ h => h.elim, fun _ h => h.elim, fun _ h => h.elim, ?_, fun _ _ _ => rfl⟩ _ _ h1
      intro u b hb
      rcases hb with hb | hb
      · rcases hof u b hb with h2 | h2
        · exact .inl ⟨rfl, h2.2⟩
        · exact .inr h2
      · exact .inr hb
    | true =>
      have h2 := R.own _ (hfresh hfr) h1
      refine R.keep (C := { C1.opened C.w.heap.size with ok := fun _ b => (C1.opened C.w.heap.size).ok false b }) (C' := { C.pur with w := C1.w, ok := fun u b => (true = false ∧ ∃ u', C.ok u' b) ∨ (C.w.heap.size ≤ b ∧ b < C1.w.heap.size) }) ⟨fun _ h => h.elim, fun _ h => h.elim, fun _ h => h.elim, ?_, fun _ _ _ => rfl⟩ _ _ h2
      intro u b hb
      rcases hb with hb | hb
      · rcases hof false b hb with h3 | h3
        · exact absurd h3.1 (by simp)
        · exact .inr h3
      · exact .inr hb
  cases e' with
  | normal => exact fin k1
  | ret => exact fin k1
  | _ => exact k1.elim
end
end
end Go.Y
set_option linter.unusedVariables false
set_option linter.unusedSimpArgs false
set_option linter.constructorNameAsVariable false
namespace Go.Y
open Go.Ab Go.RowKit
noncomputable section
variable [Gl]
section
variable {P : Program} {ct : CTab} {B N : Nat}

/-! ### Pieces of code -/
def cFst (c : Code) : Code := match c with
  | .seq a _ => a
  | c => c
def cSnd (c : Code) : Code := match c with
  | .seq _ b => b
  | c => c
def cBdy (c : Code) : Code := match c with
  | .block _ b => b
  | .loop b => b
  | .scope b => b
  | c => c
def cIsSeq (c : Code) : Bool := match c with
  | .seq _ _ => true
  | _ => false
def cIsLoop (c : Code) : Bool := match c with
  | .loop _ => true
  | _ => false
def cIsBlk (i : Nat) (c : Code) : Bool := match c with
  | .block j _ => Nat.beq j i
  | _ => false
omit [Gl] in
theorem cIsSeq_eq {c : Code} (h : cIsSeq c = true) : c = .seq (cFst c) (cSnd c) := by
  cases c <;> first | rfl | cases h
omit [Gl] in
theorem cIsLoop_eq {c : Code} (h : cIsLoop c = true) : c = .loop (cBdy c) := by
  cases c <;> first | rfl | cases h
omit [Gl] in
theorem cIsBlk_eq {i : Nat} {c : Code} (h : cIsBlk i c = true) : c = .block i (cBdy c) := by
  cases c <;> first
    | cases h
    | (have := Nat.eq_of_beq_eq_true h; subst this; rfl)
section
variable {tm tm1 : Tm} {zm zm1 : Zm} {nx : Nat} {K : K3} {c : Code}
theorem WR.seq' (hc : cIsSeq c = true) (h : WR P B N (cFst c) tm zm nx (thenK (fun tm zm nx => WR P B N (cSnd c) tm zm nx K) K)) : WR P B N c tm zm nx K := by
  rw [cIsSeq_eq hc]; exact WR.seq h
theorem WR.block' {i : Nat} (hc : cIsBlk i c = true) (h : WR P B N (cBdy c) tm zm nx (blockK i K)) : WR P B N c tm zm nx K := by
  rw [cIsBlk_eq hc]; exact WR.block h
/-- Less is known. -/
theorem WR.weak (hE : Env P ct) (hwt : WkT nx tm tm1) (hwz : WkZ nx zm zm1) (hkb : KB zm nx) (h : WR P B N c tm1 zm1 nx K) : WR P B N c tm zm nx K := by
  obtain ⟨e, tm', zm', nx', k1, k2, k3, k4⟩ := h
  refine ⟨e, tm', zm', nx', k1, k2, k3, fun H C M a hH hz ht => ?_⟩
  obtain ⟨C3, M3, q1, q2, q3, q4⟩ := cut_state hE.gn (by omega) hz hkb hz ht (YC.refl C M zm nx) hwt hwz
  have h5 := k4 H C3 M3 a hH q2 q3
  rw [q1] at h5
  refine wp_mono h5 ?_
  rintro e' a' w' ⟨rfl, C', M', rfl, hf⟩
  exact ⟨rfl, C', M', rfl, hf.yr, hf.yt, q4.trans hf.yc (Nat.le_refl _) k3⟩
/-- A loop that counts. -/
theorem WR.count (hE : Env P ct) (nb n : Nat) (S : Nat → Tm) (Z : Nat → Zm) (hkb : KB zm nx) (hc : cIsLoop c = true) (hwt : WkT nx tm (S 0)) (hwz : WkZ nx zm (Z 0))
    (step : ∀ t, t < n → WR P B N (cBdy c) (S t) (Z t) nx (fun e tm' zm' nx' => nx' ≤ nb ∧ e = .normal ∧ WkT nx tm' (S (t + 1)) ∧ WkZ nx zm' (Z (t + 1))))
    (out : WR P B N (cBdy c) (S n) (Z n) nx (fun e tm' zm' nx' => nx' ≤ nb ∧ e ≠ .normal ∧ K e tm' zm' nb)) : WR P B N c tm zm nx K := by
  rw [cIsLoop_eq hc]
  refine WR.weak hE hwt hwz hkb ?_
  refine WR.loop hE nb (fun m tm zm => ∃ t, t + m = n ∧ tm = S t ∧ zm = Z t) ?_ n (S 0) (Z 0) ⟨0, by omega, rfl, rfl⟩ hwz.kb
  rintro m tm2 zm2 ⟨t, ht, rfl, rfl⟩ hk
  cases m with
  | zero =>
    obtain rfl : t = n := by omega
    refine out.mono fun e tm' zm' nx' _ h => ⟨h.1, fun he => absurd he h.2.1, fun _ => h.2.2⟩
  | succ m =>
    refine (step t (by omega)).mono fun e tm' zm' nx' _ h => ⟨h.1, fun _ => ⟨m, S (t + 1), Z (t + 1), by omega, h.2.2.1, h.2.2.2, t + 1, by omega, rfl, rfl⟩, fun he => absurd h.2.1 he⟩
/-- By a run, and what is to be shown behind it. -/
theorem WR.go (hE : Env P ct) {u : Bool} {n nt : Nat} (hN : nt ≤ N) (hO : cOk nt c = true) (hkb : KB zm nx) {Q : K3} (h : Go.Y.run P Gl.G ct u n c tm zm nx Q) (hQ : ∀ e tm zm nx, KB zm nx → Q e tm zm nx → K e tm zm nx) : WR P B N c tm zm nx K :=
  (WR.run hE h (cOk_mono hN hO) hkb).mono hQ
end

/-! ### Contracts -/
def valK (Q : V → Prop) (v : V) (zm : Zm) (_ : Nat) : Prop := Q (frz (gm zm) 12 v)
def retV (c : CSpec) (l : List V) (v : V) : Prop := v.le (c.res l) ∧ (c.fresh = true → v.own)
/-- Without loops: the run says it all. -/
theorem csound_run (hE : Env P ct) {f : FuncId} {fn : Func} {c : Code} {s : CSpec} (u : Bool) (n : Nat) (hf : P.funcs[f]? = some fn) (hb : fn.body = some c)
    (h : ∀ args, s.pre args = true → Go.Y.run P Gl.G ct u n c (bindT (args.map borrow) 0 .e) .e 0 (retK P fn.results.toList (valK (retV s args)))) : CSoundG P f s :=
  csound_of hE hf hb fun B N args hp hN => WR.run hE (h args hp) (cOk_mono hN ((hE.fns.get hf).2 c hb)) (fun id _ => gm_e id)
end
end
end Go.Y
set_option linter.unusedVariables false
set_option linter.unusedSimpArgs false
set_option linter.constructorNameAsVariable false
namespace Go.Y
open Go.Ab Go.RowKit
noncomputable section
variable [Gl]
abbrev Q4 := Exit → List V → List (Option Blk) → Nat → Prop
section
variable {P : Program} {ct : CTab} {B N nt nx : Nat} {c c2 : Code} {tm : Tm} {zm : Zm} {K : K3} {u : Bool} {fu : Nat}

/-- A piece that ends as it should; what is known behind it. -/
theorem WR.piece (hE : Env P ct) (hN : nt ≤ N) (hO : cOk nt c = true) (hkb : KB zm nx) (lt li : List Nat) {e : Exit} {vs0 : List V} {bs0 : List (Option Blk)} {nx' : Nat} (vs : List V) (bs : List Blk)
    (h : ∀ Q : Q4, Go.Y.run P Gl.G ct u fu c tm zm nx (outK lt li Q) = Q e vs0 bs0 nx')
    (hK : ∀ tm' zm', lt.map (tv tm') = vs0 → li.map (gm zm') = bs0 → KB zm' nx' → K e tm' zm' nx') : WR P B N c tm zm nx K := by
  have h1 : Go.Y.run P Gl.G ct u fu c tm zm nx (outK lt li fun e2 v b n => e2 = e ∧ v = vs0 ∧ b = bs0 ∧ n = nx') := by rw [h]; exact ⟨rfl, rfl, rfl, rfl⟩
  refine WR.go hE hN hO hkb h1 ?_
  rintro e2 tm2 zm2 nx2 hk ⟨rfl, h2, h3, rfl⟩
  exact hK tm2 zm2 h2 h3 hk
/-- One piece after the other. -/
theorem WR.then (hE : Env P ct) (hN : nt ≤ N) (hO : cOk nt c = true) (hkb : KB zm nx) (lt li : List Nat) {vs0 : List V} {bs0 : List (Option Blk)} {nx' : Nat} (vs : List V) (bs : List Blk)
    (h : ∀ Q : Q4, Go.Y.run P Gl.G ct u fu c tm zm nx (outK lt li Q) = Q .normal vs0 bs0 nx') (hv : wkVs nx' vs0 vs) (hb : wkBs nx' li bs0 bs)
    (hK : KB (mkZ li bs) nx' → WR P B N c2 (mkT lt vs) (mkZ li bs) nx' K) : WR P B N c tm zm nx (thenK (fun tm zm nx => WR P B N c2 tm zm nx K) K) := by
  refine WR.piece hE hN hO hkb lt li vs bs h fun tm' zm' h1 h2 hk => ?_
  have hz : WkZ nx' zm' (mkZ li bs) := WkZ_mk (by rw [h2]; exact hb)
  exact WR.weak hE (WkT_mk (by rw [h1]; exact hv)) hz hk (hK hz.kb)
/-- Behind it, in a block that is left by it. -/
theorem exit_then (hE : Env P ct) {i : Nat} (lt li : List Nat) {vs0 : List V} {bs0 : List (Option Blk)} (vs : List V) (bs : List Blk) (tm' : Tm) (zm' : Zm)
    (h1 : lt.map (tv tm') = vs0) (h2 : li.map (gm zm') = bs0) (hk : KB zm' nx) (hv : wkVs nx vs0 vs) (hb : wkBs nx li bs0 bs) (hK : KB (mkZ li bs) nx → WR P B N c2 (mkT lt vs) (mkZ li bs) nx K) :
    blockK i (thenK (fun tm zm nx => WR P B N c2 tm zm nx K) K) (.exit i) tm' zm' nx := by
  have hz : WkZ nx zm' (mkZ li bs) := WkZ_mk (by rw [h2]; exact hb)
  show @Bool.rec (fun _ => Tm → Zm → Nat → Prop) _ _ (Nat.beq i i) tm' zm' nx
  rw [Nat.beq_refl]
  exact WR.weak hE (WkT_mk (by rw [h1]; exact hv)) hz hk (hK hz.kb)
/-- A loop that counts, from equations. -/
theorem WR.loopN (hE : Env P ct) (hN : nt ≤ N) (hO : cOk nt (cBdy c) = true) (hkb : KB zm nx) (hc : cIsLoop c = true) (nb n : Nat) (lt li : List Nat) (vs : Nat → List V) (bs : Nat → List Blk)
    (h0 : wkVs nx (lt.map (tv tm)) (vs 0)) (h1 : wkBs nx li (li.map (gm zm)) (bs 0))
    (vs' : Nat → List V) (bs' : Nat → List (Option Blk)) (nx' : Nat → Nat)
    (step : ∀ t, t < n → (∀ Q : Q4, Go.Y.run P Gl.G ct u fu (cBdy c) (mkT lt (vs t)) (mkZ li (bs t)) nx (outK lt li Q) = Q .normal (vs' t) (bs' t) (nx' t)) ∧ nx' t ≤ nb ∧ wkVs nx (vs' t) (vs (t + 1)) ∧ wkBs nx li (bs' t) (bs (t + 1)))
    (lt2 li2 : List Nat) {e : Exit} {vs2 : List V} {bs2 : List (Option Blk)} {nx2 : Nat} (he : e ≠ .normal)
    (out : ∀ Q : Q4, Go.Y.run P Gl.G ct u fu (cBdy c) (mkT lt (vs n)) (mkZ li (bs n)) nx (outK lt2 li2 Q) = Q e vs2 bs2 nx2) (hnx2 : nx2 ≤ nb)
    (hK : ∀ tm' zm', lt2.map (tv tm') = vs2 → li2.map (gm zm') = bs2 → KB zm' nb → K e tm' zm' nb) : WR P B N c tm zm nx K := by
  have hz0 : WkZ nx zm (mkZ li (bs 0)) := WkZ_mk h1
  have kbs : ∀ t, t ≤ n → KB (mkZ li (bs t)) nx := by
    intro t ht
    cases t with
    | zero => exact hz0.kb
    | succ t =>
      obtain ⟨_, _, _, q⟩ := step t (by omega)
      have : ∀ (li : List Nat) (bs0 : List (Option Blk)) (bs : List Blk), wkBs nx li bs0 bs → KB (mkZ li bs) nx := by
        intro li
        induction li with
        | nil => intro bs0 bs _ id hid; cases bs <;> exact gm_e id
        | cons i li ih =>
          intro bs0 bs h
          cases bs with
          | nil => intro id hid; exact gm_e id
          | cons b bs =>
            cases bs0 with
            | nil => exact h.elim
            | cons x bs0 =>
              obtain ⟨⟨q1, q2⟩, q3⟩ := h
              intro id hid
              show gm (set (some b) (enc i) (mkZ li bs)) id = none
              rw [gm_set, if_neg (by omega)]
              exact ih bs0 bs q3 id hid
      exact this _ _ _ q
  refine WR.count hE nb n (fun t => mkT lt (vs t)) (fun t => mkZ li (bs t)) hkb hc (WkT_mk h0) hz0 ?_ ?_
  · intro t ht
    obtain ⟨q1, q2, q3, q4⟩ := step t ht
    refine WR.piece hE hN hO (kbs t (by omega)) lt li (vs (t + 1)) (bs (t + 1)) q1 fun tm' zm' h1 h2 hk => ⟨q2, rfl, WkT_mk (by rw [h1]; exact q3), WkZ_mk (by rw [h2]; exact q4)⟩
  · refine WR.piece hE hN hO (kbs n (Nat.le_refl _)) lt2 li2 vs2 [] out fun tm' zm' h1 h2 hk => ⟨hnx2, he, hK tm' zm' h1 h2 fun id hid => hk id (by omega)⟩
end
end
end Go.Y
