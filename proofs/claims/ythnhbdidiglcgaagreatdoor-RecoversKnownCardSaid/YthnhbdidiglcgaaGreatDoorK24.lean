/- Runs in pieces: open ones beside closed ones; contracts of them. No condition. Closed contracts whose results refer to what was handed over. No condition. -/
import Derived.Test.YthnhbdidiglcgaaGreatDoorK23
set_option linter.unusedVariables false
set_option linter.unusedSimpArgs false
namespace Go.K
open Go.Ab Go.RowKit Go.Y
noncomputable section
theorem GRuns.inst {i j : Gl} (h : ∀ g, i.G g = j.G g) {P : Program} {B : Nat} {c : Code} {τ τ' : Nat → V} {μ μ' : Mem} {nx N nx' mx' : Nat} {e : Exit} (s : @GRuns i P B c τ μ nx N e τ' μ' nx' mx') : @GRuns j P B c τ μ nx N e τ' μ' nx' mx' := by
  intro ro n0 H C M a h1 h2 hz ht hs
  refine wpIn_mono (s ro n0 H C M a h1 h2 (GR.inst (fun g => (h g).symm) hz) ht hs) ?_
  rintro e' a' w' ⟨rfl, C', M', rfl, ⟨q1, q2, q3, q4⟩⟩
  exact ⟨rfl, C', M', rfl, @GF.mk j ro n0 B H C M μ nx N τ' μ' nx' C' M' a' (GR.inst h q1) q2 q3 q4⟩
theorem wrun.inst {k k' : KGl} (hg : ∀ g, (@instGl k).G g = (@instGl k').G g) {E E' : KEnv} (hP : E.P = E'.P) {mask lo : Nat} {c : Code} {tr : KTm} {zm : KZ} {nx mx : Nat} {K : K3} (h : @wrun k E mask lo c tr zm nx mx K) : @wrun k' E' mask lo c tr zm nx mx K := fun B N h1 h2 h3 h4 => by
  obtain ⟨e, tr', zm', nx', mx', q, f, i, g⟩ := h B N h1 h2 h3 h4
  exact ⟨e, tr', zm', nx', mx', q, f, i, hP ▸ GRuns.inst hg g⟩
variable [KGl]
section
variable {E : KEnv} {mask : Nat} {c : Code} {tr : KTm} {zm : KZ} {nx mx : Nat} {K : K3}
def trP (tr : KTm) : List (Nat × KV) → Prop
  | [] => True
  | (t, v) :: l => tget tr t = v ∧ trP tr l
omit [KGl] in
theorem trP_s {tr : KTm} : ∀ {l : List (Nat × KV)}, trP tr l → ∀ t v, (t, v) ∈ l → tget tr t = v
  | [], _, t, v, hm => by cases hm
  | (d, w) :: l, h, t, v, hm => by
    rcases List.mem_cons.1 hm with q | q
    · cases q; exact h.1
    · exact trP_s h.2 t v q
def litP (e0 : Exit) (lt : List (Nat × KV)) (n1 m1 : Nat) : K3 := fun e tr zm nx mx => chk (exB e e0) 400 (chk (nd (Nat.ble nx n1) (Nat.ble mx m1)) 401 (trP tr lt))
theorem wrun.litP {e0 : Exit} {lt : List (Nat × KV)} {n1 m1 : Nat} (h : wrun E mask 0 c tr zm nx mx (litP e0 lt n1 m1)) (hk : keepL mask lt = true)
    (hq : K e0 (mkTr lt) (mkZm []) n1 m1) : wrun E mask 0 c tr zm nx mx K := fun B N h1 h2 h3 h4 => by
  obtain ⟨e, tr1, zm1, nx1, mx1, q, f1, i1, g1⟩ := h B N h1 h2 h3 h4
  unfold Go.K.litP at q
  obtain ⟨q1, q6⟩ := chk_inv q
  obtain ⟨q2, q7⟩ := chk_inv q6
  obtain ⟨q2, q3⟩ := nd_iff.1 q2
  obtain rfl := exB_s q1
  have hn := Nat.le_of_ble_eq_true q2
  have hm1 := Nat.le_of_ble_eq_true q3
  have ht : TImp (tv' (tget tr1)) (tv' (tget (mkTr lt))) := fun t x C hx => by
    show R C (tv' (tget (mkTr lt)) t) _
    have hx' : R C (tv' (tget tr1) t) (.val x) := hx
    unfold tv' at hx' ⊢
    rcases tget_mk (t := t) (l := lt) with q4 | ⟨v, q4, q5⟩
    · rw [q4]; trivial
    · rw [q5, ← trP_s q7 t v q4]; exact hx'
  have hm : MImp (am zm1) (am (mkZm [])) := fun id b hb => by
    unfold am at hb
    rcases kb_mk (id := id) (l := []) with q4 | ⟨b', q4, q5⟩
    · rw [q4] at hb; cases hb
    · cases q4
  refine ⟨e, mkTr lt, mkZm [], n1, m1, hq, ⟨fun id hid => ?_, Nat.le_trans f1.nx hn, Nat.le_trans f1.mx hm1, fun _ h => absurd h (Nat.not_lt_zero _)⟩, INV.mk hk, g1.imp ht hm hn hm1⟩
  cases hz : am (mkZm []) id with
  | none => rfl
  | some b => obtain ⟨b', hb', _⟩ := hm id b hz; rw [f1.mb id (by omega)] at hb'; cases hb'
end
theorem kcsW {P : Program} {fid : FuncId} {s : KSpec} (hf : ∃ fn, P.funcs[fid]? = some fn ∧ (fn.name == "runtime.NumGoroutine") = false ∧ fn.body.isNone = false)
    (h : ∀ l K, s l K → ∃ E : KEnv, KOk E ∧ E.P = P ∧ ∃ w : KV, K w ∧ noRef w.v = true ∧ callR E (wrun E) 0 fid l .e 0 0 fun r _ _ _ => tK (kvb r w)) : KCS P fid s := by
  refine ⟨hf, fun l K hs => ?_⟩
  obtain ⟨E, hE, rfl, w, h1, h2, h4⟩ := h l K hs
  have hc : CSoundG E.P fid { pre := fun l' => @decide (l' = l.map KV.v) (Classical.propDecidable _), res := fun _ => w.v, fresh := true } := by
    have hme : MB (am (.e : KZ)) 0 := by rw [am_e]; exact emptyB 0
    refine ⟨hf, fun C l' vals hok hg hargs hpre => ?_⟩
    have hl : l' = l.map KV.v := @of_decide_eq_true _ (Classical.propDecidable _) hpre
    subst hl
    obtain ⟨_, r, zm', nx', mx', q1, q2, q3⟩ := callR_s (B := C.w.heap.size) (wrun_ok _) hE h4 hme (Nat.le_refl 0)
    have hz : GR C.w.heap.size (nx' + mx') C.pur (fun _ => none) (am .e) 0 :=
      ⟨⟨Nat.le_refl _, hok, (fun _ _ h => (by cases h)), (fun _ _ h => (by cases h)), (fun _ _ _ _ _ h => (by cases h)), (fun _ _ _ h => (by cases h)), hg⟩, (fun id b hb => by rw [am_e] at hb; cases hb), fun _ _ _ h => h⟩
    refine (q3 (nx' + mx') C.pur (fun _ => none) vals (by omega) (by omega) hz hargs).mono ?_
    rintro e w' ⟨val, he, C', M', hw, hR, _, hc⟩
    subst hw
    obtain rfl := kvb_s (tK_s q1)
    exact ⟨hc.kp.below, val, he, R.noref _ h2 hR⟩
  refine ⟨w, h1, fun B μ nx mx l0 hl0 => ?_⟩
  exact con_call (B := B) (μ := μ) (nx := nx) (mx := mx) hE.gn hc rfl hl0 (by rw [unL_mkL']; exact @decide_eq_true _ (Classical.propDecidable _) rfl)
end
end Go.K
namespace Go.K
open Go.Ab Go.RowKit Go.Y
noncomputable section
variable [KGl]
omit [KGl] in
theorem allBel_bel : ∀ {l : List KV}, allBel l = true → (mkL (l.map KV.v)).bel 0
  | [], _ => trivial
  | x :: l, h => by
    obtain ⟨q1, q2⟩ := nd_iff.1 (show nd (kbel 0 x) (allBel l) = true from h)
    exact ⟨(kbel_s 0 _ q1).1, allBel_bel q2⟩
omit [KGl] in
theorem R.pur0 {C : Ctx} {v : V} {m : Ab.M} (hb : v.bel 0) (h : R C v m) : R C.pur v m :=
  R.keep (C := C.cut 0) (C' := C.pur) ⟨fun _ h => absurd h.2 (Nat.not_lt_zero _), fun _ _ => rfl, fun _ _ => rfl, fun _ _ h => h, fun _ _ _ => rfl⟩ _ _ (R.cut v hb h)
theorem gcallB {E : KEnv} (hE : KOk E) {run : RUN} (hr : ∀ B, KRunOK E B run) {k fid : Nat} {args : List KV} {w : KV} (h : callR E run 0 fid args .e 0 0 fun r zm _ _ => tK (fzG true zm k r w)) (hb : allBel args = true) (B : Nat) (μ : Mem) (nx mx : Nat) :
    GCall E.P B fid (args.map KV.v) μ nx w.v μ nx mx := by
  have hme : MB (am (.e : KZ)) 0 := by rw [am_e]; exact emptyB 0
  intro H C M vals hH hH2 hz hl
  have hp : R C.pur (mkL (args.map KV.v)) (.list vals) := R.pur0 (allBel_bel hb) hl
  obtain ⟨_, r, zm', nx', mx', q1, q2, q3⟩ := callR_s (B := C.w.heap.size) (hr _) hE h hme (Nat.le_refl 0)
  have h4 := tK_s q1
  have hz0 : GR C.w.heap.size (nx' + mx') C.pur (fun _ => none) (am .e) 0 :=
    ⟨⟨Nat.le_refl _, hz.sr.okLt, (fun _ _ h => (by cases h)), (fun _ _ h => (by cases h)), (fun _ _ _ _ _ h => (by cases h)), (fun _ _ _ h => (by cases h)), fun g => R.pure_of _ (hE.gn g) (hz.sr.gl g)⟩, (fun id b hb => by rw [am_e] at hb; cases hb), fun _ _ _ h => h⟩
  refine (q3 (nx' + mx') C.pur (fun _ => none) vals (by omega) (by omega) hz0 hp).mono ?_
  rintro e w' ⟨val, he, C', M', hw, hR, hz', hc⟩
  subst hw
  have hbel : Below C.w.heap.size C.w C'.w := hc.kp.below
  let ok' : Bool → Nat → Prop := fun u b => (C.ok u b ∨ (u = true ∧ C.ok false b)) ∨ (C.w.heap.size ≤ b ∧ b < C'.w.heap.size)
  obtain ⟨hs2, hk2⟩ := hz.sr.grown hbel ok' (fun u b h => .inl (.inl h)) (fun u b h => h)
  have h5 := (fzG_s (br := true) hz'.sr hz'.sub k r w h4).1 _ hR
  refine ⟨val, he, { C with w := C'.w, ok := ok' }, M, rfl, ?_, ⟨hs2, hz.sub, fun id h1 h2 h3 => hz.al id h1 h2 h3⟩, ⟨hk2, fun id h => .inl h, fun _ _ h => ⟨rfl, h⟩⟩⟩
  refine R.keep (C := frC true C' C.w.heap.size) (C' := { C with w := C'.w, ok := ok' }) ⟨fun _ h => h.elim, fun _ h => h.elim, fun _ h => h.elim, fun u b hb2 => ?_, fun _ _ _ => rfl⟩ _ _ h5
  rcases hb2 with ⟨_, rfl, h6⟩ | h6
  · rcases hc.kp.okn _ _ h6 with h7 | h7
    · exact .inl h7
    · exact .inr ⟨h7, hz'.sr.okLt _ _ h6⟩
  · exact .inr h6
theorem kconB_s {E : KEnv} (hE : KOk E) {n k fid : Nat} {args : List KV} {w : KV} (h : callR E (krun E n) 0 fid args .e 0 0 fun r zm _ _ => tK (fzG true zm k r w)) : KCSb E.P fid (kcon args w) := by
  have hme : MB (am (.e : KZ)) 0 := by rw [am_e]; exact emptyB 0
  refine ⟨(callR_s (B := 0) (krun_ok hE n) hE h hme (Nat.le_refl 0)).1, fun l K hs => ?_⟩
  obtain ⟨h1, h2⟩ := chk_inv hs
  obtain rfl := kvbs_s h1
  exact ⟨w, h2, fun hb B μ nx mx => gcallB hE (fun _ => krun_ok hE n) h hb B μ nx mx⟩
theorem KCS.b {P : Program} {fid : FuncId} {s : KSpec} (h : KCS P fid s) : KCSb P fid s := ⟨h.1, fun l K hs => by
  obtain ⟨v, h1, h2⟩ := h.2 l K hs
  exact ⟨v, h1, fun hb B μ nx mx => h2 B μ nx mx _ (lend_bel l hb B μ)⟩⟩
def allMb (P : Program) (fid : FuncId) (L : List (List KV × KV)) : Prop := @List.rec (List KV × KV) (fun _ => Prop) True (fun x _ ih => KCSb P fid (kcon x.1 x.2) ∧ kvbs x.1 x.1 = true ∧ ih) L
theorem sMemb_s {P : Program} {fid : FuncId} (hf : ∃ fn, P.funcs[fid]? = some fn ∧ (fn.name == "runtime.NumGoroutine") = false ∧ fn.body.isNone = false) : ∀ {L : List (List KV × KV)}, allMb P fid L → KCSb P fid (sMem L)
  | [], _ => ⟨hf, fun l K h => (show BadN 320 from h).elim⟩
  | x :: L, hL => by
    obtain ⟨h1, h2, h3⟩ := (show KCSb P fid (kcon x.1 x.2) ∧ kvbs x.1 x.1 = true ∧ allMb P fid L from hL)
    refine ⟨hf, fun l K h => ?_⟩
    replace h : @Bool.rec (fun _ => Prop) (sMem L l K) (K x.2) (kvbsR l x.1) := h
    cases hk : kvbsR l x.1 with
    | true =>
      rw [hk] at h
      obtain rfl := kvbsR_s hk
      exact h1.2 x.1 K (by show chk (kvbs x.1 x.1) 190 (K x.2); rw [h2]; exact h)
    | false => rw [hk] at h; exact (sMemb_s hf h3).2 l K h
end
end Go.K
