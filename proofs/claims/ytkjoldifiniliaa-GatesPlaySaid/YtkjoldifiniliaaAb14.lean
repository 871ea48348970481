/- Code: what it comes to; contracts from it. No condition. -/
import Derived.Test.YtkjoldifiniliaaAb13
import Derived.Deep.LoopGhost
import Derived.Scope
set_option linter.unusedVariables false
set_option linter.unusedSimpArgs false
namespace Go.Ab
open Go.RowKit

/-! ### Weaker knowledge -/
/-- Whoever stands for the first stands for the second. -/
def V.le : V → V → Prop
  | .cons a b, w => match w with | .cons c d => a.le c ∧ b.le d | _ => False
  | .arr n f, w => match w with | .arr m g => n = m ∧ ∀ i, i < n → (f i).le (g i) | _ => False
  | .ref u s c, w => match w with | .ref u' s' c' => u = u' ∧ s = s' ∧ c.le c' | _ => False
  | .ro u clip e len f, w => match w with | .ro u' clip' e' len' g => u = u' ∧ (clip' = true → clip = true) ∧ e = e' ∧ len = len' ∧ ∀ i, i < len → (f i).le (g i) | _ => False
  | .nils, w => match w with | .nils => True | .ro _ _ _ len _ => len = 0 | _ => False
  | .fn f c, w => match w with | .fn g d => f = g ∧ c.le d | _ => False
  | .tup l, w => match w with | .tup r => l.le r | _ => False
  | v, w => v = w

theorem V.le_refl (v : V) : v.le v := by
  induction v with
  | cons a b ih1 ih2 => exact ⟨ih1, ih2⟩
  | arr n f ih => exact ⟨rfl, fun i _ => ih i⟩
  | ref u s c ih => exact ⟨rfl, rfl, ih⟩
  | ro u clip e len f ih => exact ⟨rfl, id, rfl, rfl, fun i _ => ih i⟩
  | fn f c ih => exact ⟨rfl, ih⟩
  | tup l ih => exact ih
  | _ => simp [V.le]

theorem R.le (v : V) : ∀ {C : Ctx} {w : V} {m : M}, v.le w → R C v m → R C w m := by
  induction v with
  | cons x t ih1 ih2 =>
    intro C w m hl h
    cases w <;> simp only [V.le] at hl
    cases m with
    | cel s g off => obtain ⟨a, b, h1, h2, h3⟩ := h; exact ⟨a, b, h1, ih1 hl.1 h2, ih2 hl.2 h3⟩
    | val v => obtain ⟨cs, a, b, h1, h2, h3, h4⟩ := h; exact ⟨cs, a, b, h1, h2, ih1 hl.1 h3, ih2 hl.2 h4⟩
    | list l => obtain ⟨y, ys, h1, h2, h3⟩ := h; exact ⟨y, ys, h1, ih1 hl.1 h2, ih2 hl.2 h3⟩
  | arr n f ih =>
    intro C w m hl h
    cases w <;> simp only [V.le] at hl
    obtain ⟨rfl, hl⟩ := hl
    cases m with
    | cel s g off => obtain ⟨e, h1, h2⟩ := h; exact ⟨e, h1, fun i hi => ih i (hl i hi) (h2 i hi)⟩
    | val v => obtain ⟨cs, e, h1, h2, h3⟩ := h; exact ⟨cs, e, h1, h2, fun i hi => ih i (hl i hi) (h3 i hi)⟩
    | list l => exact h
  | ref u s c ih =>
    intro C w m hl h
    cases w <;> simp only [V.le] at hl
    obtain ⟨rfl, rfl, hl⟩ := hl
    obtain ⟨b, o, h1, h2, h3⟩ := h
    exact ⟨b, o, h1, h2, ih hl h3⟩
  | ro u clip e len f ih =>
    intro C w m hl h
    cases w <;> simp only [V.le] at hl
    obtain ⟨rfl, hc, rfl, rfl, hl⟩ := hl
    obtain ⟨a, c, h1, h2, h3, h4⟩ := h
    refine ⟨a, c, h1, h2, fun x => h3 (hc x), h4.imp id ?_⟩
    rintro ⟨b, o, h5, h6, h7⟩
    exact ⟨b, o, h5, h6, fun i hi => ih i (hl i hi) (h7 i hi)⟩
  | nils =>
    intro C w m hl h
    cases w <;> simp only [V.le] at hl
    · exact h
    · subst hl
      exact ⟨none, 0, h, Nat.le_refl _, fun _ => rfl, .inl rfl⟩
  | fn f c ih =>
    intro C w m hl h
    cases w <;> simp only [V.le] at hl
    obtain ⟨rfl, hl⟩ := hl
    obtain ⟨cs, h1, h2⟩ := h
    exact ⟨cs, h1, ih hl h2⟩
  | tup l ih =>
    intro C w m hl h
    cases w <;> simp only [V.le] at hl
    cases m with
    | val v => obtain ⟨cs, h1, h2⟩ := h; exact ⟨cs, h1, ih hl h2⟩
    | cel => exact h
    | list => exact h
  | _ => intro C w m hl h; simp only [V.le] at hl; subst hl; exact h

/-- All names in it come before. -/
def V.bel (n : Nat) : V → Prop
  | .ptr id _ _ => id < n
  | .row id _ _ => id < n
  | .sl id _ _ _ _ _ => id < n
  | .cons a b => a.bel n ∧ b.bel n
  | .arr k f => ∀ i, i < k → (f i).bel n
  | .fn _ c => c.bel n
  | .tup l => l.bel n
  | _ => True

def Ctx.cut (C : Ctx) (n : Nat) : Ctx := { C with al := fun id => C.al id ∧ id < n }

theorem R.cut {C : Ctx} {n : Nat} (v : V) : ∀ {m : M}, v.bel n → R C v m → R (C.cut n) v m := by
  induction v with
  | cons x t ih1 ih2 =>
    intro m hl h
    cases m with
    | cel s g off => obtain ⟨a, b, h1, h2, h3⟩ := h; exact ⟨a, b, h1, ih1 hl.1 h2, ih2 hl.2 h3⟩
    | val v => obtain ⟨cs, a, b, h1, h2, h3, h4⟩ := h; exact ⟨cs, a, b, h1, h2, ih1 hl.1 h3, ih2 hl.2 h4⟩
    | list l => obtain ⟨y, ys, h1, h2, h3⟩ := h; exact ⟨y, ys, h1, ih1 hl.1 h2, ih2 hl.2 h3⟩
  | arr n f ih =>
    intro m hl h
    cases m with
    | cel s g off => obtain ⟨e, h1, h2⟩ := h; exact ⟨e, h1, fun i hi => ih i (hl i hi) (h2 i hi)⟩
    | val v => obtain ⟨cs, e, h1, h2, h3⟩ := h; exact ⟨cs, e, h1, h2, fun i hi => ih i (hl i hi) (h3 i hi)⟩
    | list l => exact h
  | ptr id p s => intro m hl h; obtain ⟨h0, r⟩ := h; exact ⟨⟨h0, hl⟩, r⟩
  | row id e n => intro m hl h; obtain ⟨h0, r⟩ := h; exact ⟨⟨h0, hl⟩, r⟩
  | sl id p e off len cap => intro m hl h; obtain ⟨h0, r⟩ := h; exact ⟨⟨h0, hl⟩, r⟩
  | fn f c ih => intro m hl h; obtain ⟨cs, h1, h2⟩ := h; exact ⟨cs, h1, ih hl h2⟩
  | tup l ih =>
    intro m hl h
    cases m with
    | val v => obtain ⟨cs, h1, h2⟩ := h; exact ⟨cs, h1, ih hl h2⟩
    | cel => exact h
    | list => exact h
  | nl => intro m _ h; cases m <;> exact h
  | unk => intro m _ h; cases m <;> exact h
  | _ => intro m _ h; exact h

def entV (n : Nat) (v w : V) : Prop := match w with
  | .unk => True
  | w => v.le w ∧ v.bel n
def entT (n : Nat) : List V → List V → Prop
  | [], [] => True
  | v :: l, w :: r => entV n v w ∧ entT n l r
  | _, _ => False
def entB (n : Nat) (b c : Blk) : Prop := match c.k with
  | .dead => True
  | _ => b.k = c.k ∧ b.sh = c.sh ∧ b.v.le c.v ∧ b.v.bel n
def entM (n : Nat) : List Blk → List Blk → Prop
  | _, [] => True
  | b :: l, c :: r => entB n b c ∧ entM n l r
  | _, _ => False
/-- Whatever the first stands for, the second stands for. -/
def Ent (S T : St) : Prop := entT T.mem.length S.tm T.tm ∧ entM T.mem.length S.mem T.mem

theorem entV_sound {C : Ctx} {n : Nat} {v w : V} {x : Value} (h : entV n v w) (hr : R C v (.val x)) : R (C.cut n) w (.val x) := by
  cases w <;> first
    | trivial
    | exact R.le v h.1 (R.cut v h.2 hr)

theorem entT_sound {n : Nat} : ∀ {l r : List V}, entT n l r → l.length = r.length ∧ ∀ t, entV n (l.getD t .unk) (r.getD t .unk)
  | [], [], _ => ⟨rfl, fun t => by simp [entV]⟩
  | v :: l, w :: r, h => by
    obtain ⟨h1, h2⟩ := entT_sound h.2
    refine ⟨by simp [h1], fun t => ?_⟩
    cases t with
    | zero => exact h.1
    | succ t => exact h2 t
  | [], _ :: _, h => h.elim
  | _ :: _, [], h => h.elim

theorem entM_sound {n : Nat} : ∀ {l r : List Blk}, entM n l r → ∀ (id : Nat) (c : Blk), r[id]? = some c → ∃ b, l[id]? = some b ∧ entB n b c
  | _, [], _, id, c, hc => by simp at hc
  | b :: l, c' :: r, h, id, c, hc => by
    cases id with
    | zero => simp only [List.getElem?_cons_zero, Option.some.injEq] at hc; subst hc; exact ⟨b, rfl, h.1⟩
    | succ id => exact entM_sound (l := l) h.2 id c hc
  | [], _ :: _, h, _, _, _ => h.elim

theorem Ent.srel {B : Nat} {C : Ctx} {S T : St} {a : Act} (h : Ent S T) (hs : SRel B C S a) : SRel B (C.cut T.mem.length) T a := by
  obtain ⟨hlen, ht⟩ := entT_sound h.1
  have hm := entM_sound h.2
  have hin : ∀ id c, T.m id = some c → id < T.mem.length := fun id c hc => (List.getElem?_eq_some_iff.1 hc).1
  have hal : ∀ id c, T.m id = some c → c.alive = true → ∃ b, S.m id = some b ∧ b.alive = true := by
    intro id c hc ha
    obtain ⟨b, hb, he⟩ := hm id c hc
    refine ⟨b, hb, ?_⟩
    unfold entB at he; unfold Blk.alive at ha ⊢
    cases hk : c.k <;> simp only [hk] at he ha
    · rw [he.1]
    · rw [he.1]
    · cases ha
  refine ⟨⟨hs.sr.base, hs.sr.okLt, ?_, ?_, ?_, ?_⟩, fun t => entV_sound (ht t) (hs.tm t), fun id h => h.2, by rw [hs.size, hlen], hs.defers⟩
  · intro id c hc
    obtain ⟨b, hb, _⟩ := hm id c hc
    exact ⟨hs.sr.al id b hb, hin id c hc⟩
  · intro id c hc
    obtain ⟨b, hb, he⟩ := hm id c hc
    have hbr := hs.sr.mem id b hb
    unfold entB at he; unfold BR at hbr ⊢
    cases hk : c.k <;> simp only [hk] at he ⊢
    · simp only [he.1] at hbr
      obtain ⟨g, cur, e, h1, h2, h3, h4, h5, h6⟩ := hbr
      rw [he.2.1] at h4 h5 h6
      exact ⟨g, cur, e, h1, h2, h3, h4, h5, R.le _ he.2.2.1 (R.cut _ he.2.2.2 h6)⟩
    · simp only [he.1] at hbr
      obtain ⟨n, s, cells, h1, h2, h3, h4⟩ := hbr
      rw [he.2.1] at h1 h2 h4
      exact ⟨n, s, cells, h1, h2, h3, R.le _ he.2.2.1 (R.cut _ he.2.2.2 h4)⟩
  · intro id id' c c' b h1 h2 h3 h4 h5 h6
    obtain ⟨b1, hb1, ha1⟩ := hal id c h1 h2
    obtain ⟨b2, hb2, ha2⟩ := hal id' c' h3 h4
    exact hs.sr.sep id id' b1 b2 b hb1 ha1 hb2 ha2 h5 h6
  · intro id c b h1 h2 h3 u
    obtain ⟨b1, hb1, ha1⟩ := hal id c h1 h2
    exact hs.sr.own id b1 b hb1 ha1 h3 u

theorem Kp.cut {B : Nat} {C0 C : Ctx} {n : Nat} (h0 : ∀ id, ¬ C0.al id) (h : Kp B C0 C) : Kp B C0 (C.cut n) :=
  ⟨⟨fun id h => absurd h (h0 id), fun id h => absurd h (h0 id), fun id h => absurd h (h0 id), h.ok, h.heap⟩, h.below, h.okn⟩

theorem AWp.weaken {P : Program} {B N : Nat} {C0 : Ctx} {c : Code} {Q : Exit → St → Prop} {S T : St} (h0 : ∀ id, ¬ C0.al id) (he : Ent S T) (h : AWp P B N C0 c Q T) : AWp P B N C0 c Q S :=
  fun C a hk hs hN => h (C.cut T.mem.length) a (hk.cut h0) (he.srel hs) (by rw [← (entT_sound he.1).1]; exact hN)

/-! ### Code -/
def St.lit (S : St) (c : Operand) (b : Bool) : St := match c with
  | .tmp t => S.ap (some t) (pureE (.bool b))
  | _ => S

def vc (P : Program) (G : Nat → V) (ct : FuncId → Option CSpec) : Code → (Exit → St → Prop) → St → Prop
  | .skip, Q, S => Q .normal S
  | .region _ ops draw, Q, S => bif draw then rr P G ct ops ops.toList S [] (fun S' tr => drawOk ops tr = true ∧ Q .normal S') else rr P G ct ops ops.toList S [] (fun S' _ => Q .normal S')
  | .seq a b, Q, S => vc P G ct a (fun e S' => match e with | .normal => vc P G ct b Q S' | e => Q e S') S
  | .cond c x y, Q, S => match opv G S.t c with
    | .bool b => (b = true → vc P G ct x Q (S.lit c true)) ∧ (b = false → vc P G ct y Q (S.lit c false))
    | _ => False
  | .block id c, Q, S => vc P G ct c (fun e S' => match e with | .exit id' => if id' = id then Q .normal S' else Q (.exit id') S' | e => Q e S') S
  | .loop c, Q, S => ∃ I : Nat → St → Prop, (∃ n T, Ent S T ∧ I n T) ∧ ∀ n S', I n S' → vc P G ct c (fun e S'' => match e with | .normal => ∃ m T, m < n ∧ Ent S'' T ∧ I m T | e => Q e S'') S'
  | .exit id, Q, S => Q (.exit id) S
  | .label _, Q, S => Q .normal S
  | .scope c, Q, S => vc P G ct c (fun e S' => match e with | .goto _ => False | e => Q e S') S
  | .ret, Q, S => Q .ret S
  | _, _, _ => False

/-- All that is written lies in the frame. -/
def codeOk (N : Nat) : Code → Bool
  | .region _ ops _ => ops.toList.all fun o => dOk N o.dst
  | .seq a b => codeOk N a && codeOk N b
  | .cond _ x y => codeOk N x && codeOk N y
  | .block _ c => codeOk N c
  | .loop c => codeOk N c
  | .scope c => codeOk N c
  | .rangeFunc .. => false
  | _ => true

theorem vc_sound {P : Program} {B N : Nat} {C0 : Ctx} {G : Nat → V} {ct : FuncId → Option CSpec} (hct : CT P ct) (hG : HG G C0) (hm : P.follows .mixedOrders = true) (h0 : ∀ id, ¬ C0.al id) (c : Code) :
    codeOk N c = true → ∀ (Q : Exit → St → Prop) (S : St), vc P G ct c Q S → AWp P B N C0 c Q S := by
  induction c with
  | skip => intro hO Q S h C a hk hs hN; exact wp_skip ⟨S, C, rfl, h, hk, hs, hN⟩
  | region id ops draw =>
    intro hO Q S h
    have hD : ∀ o ∈ ops.toList, dOk N o.dst = true := List.all_eq_true.1 hO
    cases draw with
    | false => exact awp_region hct hG hD h
    | true => exact awp_region_draw hct hG hm hD h
  | seq x y ih1 ih2 =>
    intro hO Q S h C a hk hs hN
    simp only [codeOk, Bool.and_eq_true] at hO
    refine wp_seq (wp_mono (ih1 hO.1 _ S h C a hk hs hN) ?_)
    intro e a' w' ⟨S', C', hw, hq, hk', hs', hN'⟩
    subst hw
    cases e with
    | normal => exact ih2 hO.2 Q S' hq C' a' hk' hs' hN'
    | _ => exact ⟨S', C', rfl, hq, hk', hs', hN'⟩
  | cond c x y ih1 ih2 =>
    intro hO Q S h C a hk hs hN
    simp only [codeOk, Bool.and_eq_true] at hO
    simp only [vc] at h
    split at h
    · rename_i b hb
      have hlit : S.lit c b = S := by
        cases c with
        | tmp t => exact St.ap_same hb (by intro h; cases h)
        | _ => rfl
      have hev : a.eval c = .bool b := by
        cases c with
        | tmp t =>
          have h1 := hs.tm t
          rw [show S.t t = .bool b from hb] at h1
          exact h1
        | const v =>
          have h1 := R.ofVal C v
          rw [show V.ofVal v = .bool b from hb] at h1
          exact h1
        | global g =>
          have h1 := hG g C hk.toKeep
          rw [show G g = .bool b from hb] at h1
          cases h1
        | func f => cases hb
      cases b with
      | true => rw [hlit] at h; exact wp_cond_true hev (ih1 hO.1 Q S (h.1 rfl) C a hk hs hN)
      | false => rw [hlit] at h; exact wp_cond_false hev (ih2 hO.2 Q S (h.2 rfl) C a hk hs hN)
    · exact h.elim
  | block id c ih =>
    intro hO Q S h C a hk hs hN
    refine wp_block (wp_mono (ih hO _ S h C a hk hs hN) ?_)
    intro e a' w' ⟨S', C', hw, hq, hk', hs', hN'⟩
    subst hw
    cases e with
    | exit id' =>
      simp only [Exit.inBlock]
      split
      · rename_i hid; simp only [hid, if_true] at hq; exact ⟨S', C', rfl, hq, hk', hs', hN'⟩
      · rename_i hid; simp only [hid, if_false] at hq; exact ⟨S', C', rfl, hq, hk', hs', hN'⟩
    | _ => exact ⟨S', C', rfl, hq, hk', hs', hN'⟩
  | loop c ih =>
    intro hO Q S h C a hk hs hN
    obtain ⟨I, ⟨n, T, he, hI⟩, hround⟩ := h
    refine wp_loop_ghost (fun n a w => ∃ S C, C.w = w ∧ I n S ∧ Kp B C0 C ∧ SRel B C S a ∧ S.tm.length = N) n ⟨T, C.cut T.mem.length, rfl, hI, hk.cut h0, he.srel hs, by rw [← (entT_sound he.1).1]; exact hN⟩ ?_
    intro n a w ⟨S, C, hw, hI, hk, hs, hN⟩
    subst hw
    refine wp_mono (ih hO _ S (hround n S hI) C a hk hs hN) ?_
    intro e a' w' ⟨S', C', hw, hq, hk', hs', hN'⟩
    subst hw
    cases e with
    | normal =>
      obtain ⟨m, T, hlt, he, hI'⟩ := hq
      exact ⟨m, hlt, T, C'.cut T.mem.length, rfl, hI', hk'.cut h0, he.srel hs', by rw [← (entT_sound he.1).1]; exact hN'⟩
    | _ => exact ⟨S', C', rfl, hq, hk', hs', hN'⟩
  | exit id => intro hO Q S h C a hk hs hN; exact wp_exit ⟨S, C, rfl, h, hk, hs, hN⟩
  | label l => intro hO Q S h C a hk hs hN; exact wp_label ⟨S, C, rfl, h, hk, hs, hN⟩
  | scope c ih =>
    intro hO Q S h C a hk hs hN
    refine wp_scope_straight (wp_mono (ih hO _ S h C a hk hs hN) ?_)
    intro e a' w' ⟨S', C', hw, hq, hk', hs', hN'⟩
    subst hw
    cases e with
    | goto l => exact hq.elim
    | _ => exact ⟨S', C', rfl, hq, hk', hs', hN'⟩
  | ret => intro hO Q S h C a hk hs hN; exact wp_ret ⟨S, C, rfl, h, hk, hs, hN⟩
  | _ => intro hO Q S h; exact h.elim

theorem codeOk_mono {N M : Nat} (h : N ≤ M) : ∀ {c : Code}, codeOk N c = true → codeOk M c = true := by
  have hd : ∀ d, dOk N d = true → dOk M d = true := by
    intro d hd
    cases d with
    | none => rfl
    | some d => simp only [dOk, decide_eq_true_eq] at hd ⊢; exact Nat.lt_of_lt_of_le hd h
  intro c
  induction c with
  | region id ops draw => intro hc; simp only [codeOk, List.all_eq_true] at hc ⊢; exact fun o ho => hd _ (hc o ho)
  | seq a b ih1 ih2 => intro hc; simp only [codeOk, Bool.and_eq_true] at hc ⊢; exact ⟨ih1 hc.1, ih2 hc.2⟩
  | cond t a b ih1 ih2 => intro hc; simp only [codeOk, Bool.and_eq_true] at hc ⊢; exact ⟨ih1 hc.1, ih2 hc.2⟩
  | block id c ih => intro hc; exact ih hc
  | loop c ih => intro hc; exact ih hc
  | scope c ih => intro hc; exact ih hc
  | rangeFunc => intro hc; cases hc
  | _ => intro _; rfl

/-! ### Contracts -/
/-- Nothing borrowed in it. -/
def V.own : V → Prop
  | .ref u _ c => u = false ∧ c.own
  | .ro u _ _ len f => u = false ∧ ∀ i, i < len → (f i).own
  | .cons a b => a.own ∧ b.own
  | .arr k f => ∀ i, i < k → (f i).own
  | .fn _ c => c.own
  | .tup l => l.own
  | _ => True

theorem R.own (v : V) : ∀ {C : Ctx} {m : M}, v.own → R C v m → R { C with ok := fun _ b => C.ok false b } v m := by
  induction v with
  | cons x t ih1 ih2 =>
    intro C m hl h
    cases m with
    | cel s g off => obtain ⟨a, b, h1, h2, h3⟩ := h; exact ⟨a, b, h1, ih1 hl.1 h2, ih2 hl.2 h3⟩
    | val v => obtain ⟨cs, a, b, h1, h2, h3, h4⟩ := h; exact ⟨cs, a, b, h1, h2, ih1 hl.1 h3, ih2 hl.2 h4⟩
    | list l => obtain ⟨y, ys, h1, h2, h3⟩ := h; exact ⟨y, ys, h1, ih1 hl.1 h2, ih2 hl.2 h3⟩
  | arr n f ih =>
    intro C m hl h
    cases m with
    | cel s g off => obtain ⟨e, h1, h2⟩ := h; exact ⟨e, h1, fun i hi => ih i (hl i hi) (h2 i hi)⟩
    | val v => obtain ⟨cs, e, h1, h2, h3⟩ := h; exact ⟨cs, e, h1, h2, fun i hi => ih i (hl i hi) (h3 i hi)⟩
    | list l => exact h
  | ref u s c ih =>
    intro C m hl h
    obtain ⟨rfl, hl⟩ := hl
    obtain ⟨b, o, h1, h2, h3⟩ := h
    exact ⟨b, o, h1, h2, ih (C := C.pur) hl h3⟩
  | ro u clip e len f ih =>
    intro C m hl h
    obtain ⟨rfl, hl⟩ := hl
    obtain ⟨a, c, h1, h2, h3, h4⟩ := h
    refine ⟨a, c, h1, h2, h3, h4.imp id ?_⟩
    rintro ⟨b, o, h5, h6, h7⟩
    exact ⟨b, o, h5, h6, fun i hi => ih i (C := C.pur) (hl i hi) (h7 i hi)⟩
  | fn f c ih => intro C m hl h; obtain ⟨cs, h1, h2⟩ := h; exact ⟨cs, h1, ih hl h2⟩
  | tup l ih =>
    intro C m hl h
    cases m with
    | val v => obtain ⟨cs, h1, h2⟩ := h; exact ⟨cs, h1, ih hl h2⟩
    | cel => exact h
    | list => exact h
  | nl => intro C m _ h; cases m <;> exact h
  | unk => intro C m _ h; cases m <;> exact h
  | _ => intro C m _ h; exact h

def resV (P : Program) (S : St) : ResultVar → Option V
  | .tmp t => some (S.t t)
  | .cell a t => match tshape P t, P.underlying t with
    | some s, some _ => match S.t a with
      | .ptr id p s' => match S.mem[id]? with
        | some blk => if blk.alive && s'.beq s then some (blk.v.path p) else none
        | none => none
      | _ => none
    | _, _ => none
def resL (P : Program) (S : St) : List ResultVar → Option V
  | [] => some .nl
  | r :: l => match resV P S r, resL P S l with
    | some v, some w => some (.cons v w)
    | _, _ => none
def resAll (P : Program) (S : St) (l : List ResultVar) : Option V := match l with
  | [r] => resV P S r
  | l => (resL P S l).map .tup

def retOk (P : Program) (fn : Func) (want : V) (fresh : Bool) (S : St) : Prop :=
  match resAll P S fn.results.toList with
  | some v => match res S.mem v with
    | some (p, v', _) => p ∧ v'.le want ∧ (fresh = true → v'.own)
    | none => False
  | none => False

def rdV (a : Act) : ResultVar → Sem Value
  | .tmp t => pure (a.tmps.getD t undef)
  | .cell p t => do loadVar t (← asAddr (a.tmps.getD p undef))
theorem results_rdV (fn : Func) (a : Act) : results fn a.tmps = (do let vs ← fn.results.mapM (rdV a); pure (if h : vs.size = 1 then vs[0] else .tuple vs)) := by
  unfold results
  congr 1

theorem run_resV {P : Program} {B : Nat} {C : Ctx} {S : St} {a : Act} (hs : SRel B C S a) {r : ResultVar} {v : V} (h : resV P S r = some v) :
    ∃ x, (rdV a r).run P C.w = .ok x C.w ∧ R C v (.val x) := by
  cases r with
  | tmp t => simp only [resV, Option.some.injEq] at h; subst h; exact ⟨_, rfl, hs.tm t⟩
  | cell p t =>
    simp only [resV] at h
    split at h
    · rename_i s d ht hu
      split at h
      · rename_i id q s' hp
        split at h
        · rename_i blk hb
          split at h
          · rename_i hc
            simp only [Bool.and_eq_true] at hc
            have := Shape.eq_of_beq hc.2
            subst this
            simp only [Option.some.injEq] at h
            subst h
            have h1 := hs.tm p
            rw [hp] at h1
            obtain ⟨hal, b, off, h2, h3, h4⟩ := h1
            have h4' : a.tmps.getD p undef = .pointer (some ⟨b, off, none⟩) := h4
            obtain ⟨h5, _⟩ := BR.at (hs.sr.mem id blk hb) hc.1 h2 h3
            obtain ⟨val, h6, h7⟩ := run_loadVar_tree ht hu h5
            exact ⟨val, by simp only [rdV, h4']; simpa [asAddr] using h6, h7⟩
          · cases h
        · cases h
      · cases h
    · cases h

theorem run_resL {P : Program} {B : Nat} {C : Ctx} {S : St} {a : Act} (hs : SRel B C S a) : ∀ {l : List ResultVar} {v : V}, resL P S l = some v →
    ∃ xs, (l.mapM (rdV a)).run P C.w = .ok xs C.w ∧ R C v (.list xs) ∧ xs.length = l.length
  | [], v, h => by simp only [resL, Option.some.injEq] at h; subst h; exact ⟨[], rfl, rfl, rfl⟩
  | r :: l, v, h => by
    simp only [resL] at h
    split at h
    · rename_i v1 v2 h1 h2
      simp only [Option.some.injEq] at h
      subst h
      obtain ⟨x, e1, r1⟩ := run_resV hs h1
      obtain ⟨xs, e2, r2, hl⟩ := run_resL hs h2
      refine ⟨x :: xs, ?_, ⟨x, xs, rfl, r1, r2⟩, by simp [hl]⟩
      rw [List.mapM_cons, Sem.run_bind, e1, Result.andThen_ok, Sem.run_bind, e2, Result.andThen_ok, Sem.run_pure]
    · cases h

theorem run_resAll {P : Program} {B : Nat} {C : Ctx} {S : St} {a : Act} (hs : SRel B C S a) {fn : Func} {v : V} (h : resAll P S fn.results.toList = some v) :
    ∃ x, (results fn a.tmps).run P C.w = .ok x C.w ∧ R C v (.val x) := by
  have key : ∀ {w : V}, resL P S fn.results.toList = some w → ∃ xs : List Value, (fn.results.mapM (rdV a)).run P C.w = .ok xs.toArray C.w ∧ R C w (.list xs) ∧ xs.length = fn.results.toList.length := by
    intro w hw
    obtain ⟨xs, h1, h2, h3⟩ := run_resL hs hw
    refine ⟨xs, ?_, h2, h3⟩
    have : fn.results = fn.results.toList.toArray := by simp
    rw [this, List.mapM_toArray, map_eq_pure_bind, Sem.run_bind, h1]; rfl
  unfold resAll at h
  split at h
  · rename_i r hr
    obtain ⟨xs, h1, h2, h3⟩ := key (w := .cons v .nl) (by rw [hr]; simp [resL, h])
    obtain ⟨x, xs', rfl, h4, h5⟩ := h2
    rw [hr] at h3
    have h6 : xs' = [] := by simpa using h3
    subst h6
    refine ⟨x, ?_, h4⟩
    rw [results_rdV]
    rw [Sem.run_bind, h1]; rfl
  · rename_i hne
    cases hl : resL P S fn.results.toList with
    | none => rw [hl] at h; cases h
    | some w =>
      rw [hl] at h
      simp only [Option.map_some, Option.some.injEq] at h
      subst h
      obtain ⟨xs, h1, h2, h3⟩ := key hl
      refine ⟨.tuple xs.toArray, ?_, xs.toArray, rfl, by simpa using h2⟩
      rw [results_rdV]
      rw [Sem.run_bind, h1]
      have h4 : ¬ xs.toArray.size = 1 := by
        intro h5
        simp only [List.size_toArray] at h5
        rw [h5] at h3
        match hm : fn.results.toList, h3 with
        | [r], _ => exact hne r hm
        | [], h3 => simp at h3
        | _ :: _ :: _, h3 => simp at h3
      rw [Result.andThen_ok, dif_neg h4, Sem.run_pure]

/-- What a function begins with. -/
def enter (fn : Func) (args : List V) : St := ⟨args.map borrow ++ List.replicate (fn.ntmps - args.length) .unk, []⟩

theorem csound_of_vc {P : Program} {ct : FuncId → Option CSpec} (hct : CT P ct) (hm : P.follows .mixedOrders = true) {f : FuncId} {fn : Func} {c : Code} {s : CSpec} (hf : P.funcs[f]? = some fn) (hb : fn.body = some c) (hname : (fn.name == "runtime.NumGoroutine") = false) (hO : codeOk fn.ntmps c = true)
    (h : ∀ args, s.pre args → vc P (fun _ => .unk) ct c (fun e S => match e with | .ret => retOk P fn (s.res args) s.fresh S | .normal => retOk P fn (s.res args) s.fresh S | _ => False) (enter fn args)) : CSound P f s := by
  refine ⟨⟨fn, hf, hname, by rw [hb]; rfl⟩, ?_⟩
  intro C args vals hok hargs hpre
  let C0 : Ctx := { C.pur with ok := fun u b => u = true ∧ ∃ u', C.ok u' b }
  have hlen : ∀ (l : List V) (vs : List Value), R C.pur (mkL l) (.list vs) → l.length = vs.length := by
    intro l
    induction l with
    | nil => intro vs h; obtain rfl : vs = [] := h; rfl
    | cons v l ih => intro vs h; obtain ⟨x, xs, rfl, _, h2⟩ := h; simp [ih xs h2]
  have hl := hlen _ _ hargs
  have htm : ∀ (l : List V) (vs : List Value), R C.pur (mkL l) (.list vs) → ∀ t, t < l.length → R C0 ((l.map borrow).getD t .unk) (.val (vs.getD t undef)) := by
    intro l
    induction l with
    | nil => intro vs _ t ht; simp at ht
    | cons v l ih =>
      intro vs h t ht
      obtain ⟨x, xs, rfl, h1, h2⟩ := h
      cases t with
      | zero => exact R.borrow (ok' := C0.ok) v (fun u b h => ⟨rfl, u, h⟩) h1
      | succ t => exact ih xs h2 t (by simpa using ht)
  have hK : Kp C.w.heap.size C0 C0 := Kp.refl _ _
  have hS : SRel C.w.heap.size C0 (enter fn args) { tmps := vals.toArray ++ Array.replicate (fn.ntmps - vals.toArray.size) undef, defers := [] } := by
    refine ⟨⟨Nat.le_refl _, fun u b h => ?_, ?_, ?_, ?_, ?_⟩, fun t => ?_, fun id h => h.elim, ?_, rfl⟩
    · obtain ⟨_, u', h⟩ := h; exact hok u' b h
    · intro id blk h; simp [St.m, enter] at h
    · intro id blk h; simp [St.m, enter] at h
    · intro id id' blk blk' b h; simp [St.m, enter] at h
    · intro id blk b h; simp [St.m, enter] at h
    · by_cases ht : t < args.length
      · have := htm _ _ hargs t ht
        have h1 : (enter fn args).t t = (args.map borrow).getD t .unk := by
          simp only [St.t, enter, List.getD_eq_getElem?_getD]
          rw [List.getElem?_append_left (by simpa using ht)]
        have h2 : (vals.toArray ++ Array.replicate (fn.ntmps - vals.toArray.size) undef).getD t undef = vals.getD t undef := by
          rw [Array.getD_eq_getD_getElem?, Array.getElem?_append_left (by simpa [← hl] using ht)]
          simp
        rw [h1]
        simp only [h2]
        exact this
      · have h1 : (enter fn args).t t = .unk := by
          simp only [St.t, enter, List.getD_eq_getElem?_getD]
          rw [List.getElem?_append_right (by simpa using ht)]
          simp only [List.getElem?_replicate]
          split <;> rfl
        rw [h1]; trivial
    · simp [enter, hl]
  refine calls_of_wp hf hb (wp_mono (vc_sound hct (G := fun _ => .unk) (fun g C hk => trivial) hm (fun id h => h) c (codeOk_mono (N := fn.ntmps) (M := args.length + (fn.ntmps - args.length)) (by omega) hO) _ _ (h args hpre) C0 _ hK hS (by simp [enter])) ?_)
  intro e a w' ⟨S, C1, hw, hq, hk, hs, _⟩
  subst hw
  have fin : retOk P fn (s.res args) s.fresh S → a.defers = [] ∧ ∃ v, (results fn a.tmps).run P C1.w = .ok v C1.w ∧ (Below C.w.heap.size C.w C1.w ∧ ∃ r, Ending.returned v = .returned r ∧
      R { C.pur with w := C1.w, ok := fun u b => (s.fresh = false ∧ ∃ u', C.ok u' b) ∨ (C.w.heap.size ≤ b ∧ b < C1.w.heap.size) } (s.res args) (.val r)) := by
    intro hr
    unfold retOk at hr
    split at hr
    · rename_i v hv
      split at hr
      · rename_i p v' rd hres
        obtain ⟨hp, hle, hfresh⟩ := hr
        obtain ⟨x, hx, hrx⟩ := run_resAll hs hv
        refine ⟨hs.defers, x, hx, hk.below, x, rfl, ?_⟩
        have h1 := R.res hs.sr (m := S.mem) v hres hp (fun _ _ => rfl) hrx
        refine R.le _ hle ?_
        have hof : ∀ u b, C1.ok u b → (u = true ∧ ∃ u', C.ok u' b) ∨ (C.w.heap.size ≤ b ∧ b < C1.w.heap.size) := by
          intro u b hb
          have hlt := hs.sr.okLt u b hb
          rcases hk.okn u b hb with (h2 | ⟨_, h2⟩) | h2
          · exact .inl h2
          · exact absurd h2.1 (by simp)
          · exact .inr ⟨h2, hlt⟩
        cases hfr : s.fresh with
        | false =>
          refine R.keep (C := C1.opened C.w.heap.size) (C' := { C.pur with w := C1.w, ok := fun u b => (false = false ∧ ∃ u', C.ok u' b) ∨ (C.w.heap.size ≤ b ∧ b < C1.w.heap.size) }) ⟨fun _ h => h.elim, fun _ h => h.elim, fun _ h => h.elim, ?_, fun _ _ _ => rfl⟩ _ _ h1
          intro u b hb
          rcases hb with hb | hb
          · rcases hof u b hb with h2 | h2
            · exact .inl ⟨rfl, h2.2⟩
            · exact .inr h2
          · exact .inr hb
        | true =>
          have h2 := R.own _ (hfresh hfr) h1
          refine R.keep (C := { C1.opened C.w.heap.size with ok := fun _ b => (C1.opened C.w.heap.size).ok false b }) (C' := { C.pur with w := C1.w, ok := fun u b => (true = false ∧ ∃ u', C.ok u' b) ∨ (C.w.heap.size ≤ b ∧ b < C1.w.heap.size) }) ⟨fun _ h => h.elim, fun _ h => h.elim, fun _ h => h.elim, ?_, fun _ _ _ => rfl⟩ _ _ h2
          intro u b hb
          rcases hb with hb | hb
          · rcases hof false b hb with h3 | h3
            · exact absurd h3.1 (by simp)
            · exact .inr h3
          · exact .inr hb
      · exact hr.elim
    · exact hr.elim
  cases e with
  | normal => exact fin hq
  | ret => exact fin hq
  | _ => exact hq.elim

end Go.Ab
