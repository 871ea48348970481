/- Long closed runs put together from pieces: a run known by what it does; loops in chunks of rounds; closed contracts from it. No condition. Runs in pieces: the states between them are written down whole. No condition. Runs in pieces: open ones beside closed ones; contracts of them. No condition. Closed contracts whose results refer to what was handed over. No condition. errors.As of a concrete type: from what it does to what the run needs. No condition. errors.Is of a refusal against what a package variable holds: from what it does to what the run needs. No condition. -/
import Derived.Test.YtfpmealbbibhpaaGreatDoorK21
set_option linter.unusedVariables false
set_option linter.unusedSimpArgs false
namespace Go.K
open Go.Ab Go.RowKit Go.Y
noncomputable section
variable [KGl]
def wrun (E : KEnv) : RUN := fun mask lo c tr zm nx mx K => ∀ B N, cOk N c = true → MB (am zm) nx → lo ≤ nx → INV mask tr →
  ∃ e tr' zm' nx' mx', K e tr' zm' nx' mx' ∧ KFin lo zm nx mx zm' nx' mx' ∧ INV mask tr' ∧ GRuns E.P B c (tv' (tget tr)) (am zm) nx N e (tv' (tget tr')) (am zm') nx' mx'
def wloop (E : KEnv) : RUN := fun mask lo c tr zm nx mx K => ∀ B N, cOk N c = true → MB (am zm) nx → lo ≤ nx → INV mask tr →
  ∃ e tr' zm' nx' mx' k, K e tr' zm' nx' mx' ∧ KFin lo zm nx mx zm' nx' mx' ∧ INV mask tr' ∧ GLoop E.P B c N e (tv' (tget tr')) (am zm') nx' mx' k (tv' (tget tr)) (am zm) nx
section
variable {E : KEnv} {mask lo : Nat} {c : Code} {tr : KTm} {zm : KZ} {nx mx : Nat} {K : K3}
theorem wrun_ok (B : Nat) : KRunOK E B (wrun E) := fun _ _ _ _ _ _ _ _ N h h1 h2 h3 h4 => h B N h1 h2 h3 h4
theorem wrun_of (hE : KOk E) {n : Nat} (h : krun E n mask lo c tr zm nx mx K) : wrun E mask lo c tr zm nx mx K := fun _ N h1 h2 h3 h4 => krun_ok hE n mask lo c tr zm nx mx K N h h1 h2 h3 h4
theorem wrun.mono {K' : K3} (h : wrun E mask lo c tr zm nx mx K) (hk : ∀ e tr zm nx mx, K e tr zm nx mx → K' e tr zm nx mx) : wrun E mask lo c tr zm nx mx K' := fun B N h1 h2 h3 h4 => by
  obtain ⟨e, tr', zm', nx', mx', q, r⟩ := h B N h1 h2 h3 h4
  exact ⟨e, tr', zm', nx', mx', hk _ _ _ _ _ q, r⟩
theorem wrun.seq {a b : Code} (h : wrun E mask lo a tr zm nx mx (fun e tr zm nx mx => (e = .normal ∧ wrun E mask lo b tr zm nx mx K) ∨ (e ≠ .normal ∧ K e tr zm nx mx))) : wrun E mask lo (.seq a b) tr zm nx mx K := fun B N h1 h2 h3 h4 => by
  simp only [cOk, Bool.and_eq_true] at h1
  obtain ⟨e, tr1, zm1, nx1, mx1, q, f1, i1, g1⟩ := h B N h1.1 h2 h3 h4
  rcases q with ⟨rfl, q⟩ | ⟨he, q⟩
  · obtain ⟨e2, tr2, zm2, nx2, mx2, q2, f2, i2, g2⟩ := q B N h1.2 f1.mb (Nat.le_trans h3 f1.nx) i1
    exact ⟨e2, tr2, zm2, nx2, mx2, q2, f1.trans f2, i2, GRuns.seq g1 g2 f1.nx f2.nx f2.mx⟩
  · exact ⟨e, tr1, zm1, nx1, mx1, q, f1, i1, GRuns.seqX he g1⟩
theorem wrun.block {id : Nat} (h : wrun E mask lo c tr zm nx mx (fun e tr zm nx mx => (e = .exit id ∧ K .normal tr zm nx mx) ∨ (e ≠ .exit id ∧ K e tr zm nx mx))) : wrun E mask lo (.block id c) tr zm nx mx K := fun B N h1 h2 h3 h4 => by
  obtain ⟨e, tr1, zm1, nx1, mx1, q, f1, i1, g1⟩ := h B N h1 h2 h3 h4
  rcases q with ⟨rfl, q⟩ | ⟨he, q⟩
  · exact ⟨.normal, tr1, zm1, nx1, mx1, q, f1, i1, GRuns.blockE g1⟩
  · exact ⟨e, tr1, zm1, nx1, mx1, q, f1, i1, GRuns.blockX he g1⟩
theorem wloop.run (h : wloop E mask lo c tr zm nx mx K) : wrun E mask lo (.loop c) tr zm nx mx K := fun B N h1 h2 h3 h4 => by
  obtain ⟨e, tr1, zm1, nx1, mx1, k, q, f1, i1, g1⟩ := h B N h1 h2 h3 h4
  exact ⟨e, tr1, zm1, nx1, mx1, q, f1, i1, g1.runs⟩
theorem wloop.out (h : wrun E mask lo c tr zm nx mx (fun e tr zm nx mx => e ≠ .normal ∧ K e tr zm nx mx)) : wloop E mask lo c tr zm nx mx K := fun B N h1 h2 h3 h4 => by
  obtain ⟨e, tr1, zm1, nx1, mx1, ⟨he, q⟩, f1, i1, g1⟩ := h B N h1 h2 h3 h4
  exact ⟨e, tr1, zm1, nx1, mx1, 1, q, f1, i1, .out g1 he f1.nx⟩
theorem wloop.round (h : wrun E mask lo c tr zm nx mx (fun e tr zm nx mx => e = .normal ∧ wloop E mask lo c tr zm nx mx K)) : wloop E mask lo c tr zm nx mx K := fun B N h1 h2 h3 h4 => by
  obtain ⟨e, tr1, zm1, nx1, mx1, ⟨rfl, q⟩, f1, i1, g1⟩ := h B N h1 h2 h3 h4
  obtain ⟨e2, tr2, zm2, nx2, mx2, k, q2, f2, i2, g2⟩ := q B N h1 f1.mb (Nat.le_trans h3 f1.nx) i1
  exact ⟨e2, tr2, zm2, nx2, mx2, k + 1, q2, f1.trans f2, i2, .round g1 f1.nx f2.mx g2⟩
def repR (E : KEnv) (n : Nat) (mask lo : Nat) (c : Code) (m : Nat) : KTm → KZ → Nat → Nat → (KTm → KZ → Nat → Nat → Prop) → Prop :=
  @Nat.rec (fun _ => KTm → KZ → Nat → Nat → (KTm → KZ → Nat → Nat → Prop) → Prop) (fun tr zm nx mx K => K tr zm nx mx) (fun _ ih tr zm nx mx K => krun E n mask lo c tr zm nx mx fun e tr zm nx mx => chk (exB e .normal) 0 (ih tr zm nx mx K)) m
theorem wloop.rep (hE : KOk E) {n : Nat} : ∀ (m : Nat) (tr : KTm) (zm : KZ) (nx mx : Nat), repR E n mask lo c m tr zm nx mx (fun tr zm nx mx => wloop E mask lo c tr zm nx mx K) → wloop E mask lo c tr zm nx mx K
  | 0, _, _, _, _, h => h
  | m + 1, tr, zm, nx, mx, h => wloop.round ((wrun_of hE (show krun E n mask lo c tr zm nx mx _ from h)).mono fun e tr1 zm1 nx1 mx1 q => by
    obtain ⟨q1, q2⟩ := chk_inv q
    exact ⟨exB_s q1, wloop.rep hE m _ _ _ _ q2⟩)
theorem wrun.lit {e0 : Exit} {lt : List (Nat × KV)} {lz : List (Nat × KBlk)} {n1 : Nat} (h : wrun E mask 0 c tr zm nx mx fun e tr zm nx _ => tK (stT e0 lt lz n1 e tr zm nx)) (hk : keepL mask lt = true)
    (hq : ∀ mx, K e0 (mkTr lt) (mkZm lz) n1 mx) : wrun E mask 0 c tr zm nx mx K := fun B N h1 h2 h3 h4 => by
  obtain ⟨e, tr1, zm1, nx1, mx1, q, f1, i1, g1⟩ := h B N h1 h2 h3 h4
  have hs := tK_s q
  simp only [stT, nd_iff] at hs
  obtain rfl := exB_s hs.1
  have hn := Nat.le_of_ble_eq_true hs.2.2.2
  have ht : TImp (tv' (tget tr1)) (tv' (tget (mkTr lt))) := fun t x C hx => by
    show R C (tv' (tget (mkTr lt)) t) _
    have hx' : R C (tv' (tget tr1) t) (.val x) := hx
    unfold tv' at hx' ⊢
    rcases tget_mk (t := t) (l := lt) with q | ⟨v, q1, q2⟩
    · rw [q]; trivial
    · rw [q2, ← trT_s hs.2.1 t v q1]; exact hx'
  have hm : MImp (am zm1) (am (mkZm lz)) := fun id b hb => by
    unfold am at hb
    rcases kb_mk (id := id) (l := lz) with q | ⟨b', q1, q2⟩
    · rw [q] at hb; cases hb
    · rw [q2] at hb
      cases hb
      exact ⟨_, am_some (zmT_s hs.2.2.1 id b' q1), BImp.refl _⟩
  refine ⟨e, mkTr lt, mkZm lz, n1, mx1, hq mx1, ⟨fun id hid => ?_, Nat.le_trans f1.nx hn, f1.mx, fun _ h => absurd h (Nat.not_lt_zero _)⟩, INV.mk hk, g1.imp ht hm hn (Nat.le_refl _)⟩
  cases hz : am (mkZm lz) id with
  | none => rfl
  | some b =>
    obtain ⟨b', hb', _⟩ := hm id b hz
    rw [f1.mb id (by omega)] at hb'
    cases hb'
theorem wrun.piece (hE : KOk E) {n : Nat} {e0 : Exit} {lt : List (Nat × KV)} {lz : List (Nat × KBlk)} {n1 : Nat} (h : krun E n mask 0 c tr zm nx mx fun e tr zm nx _ => tK (stT e0 lt lz n1 e tr zm nx)) (hk : keepL mask lt = true)
    (hq : ∀ mx, K e0 (mkTr lt) (mkZm lz) n1 mx) : wrun E mask 0 c tr zm nx mx K := wrun.lit (wrun_of hE h) hk hq
theorem wloop.piece (hE : KOk E) {n : Nat} {lt : List (Nat × KV)} {lz : List (Nat × KBlk)} {n1 : Nat} (hk : keepL mask lt = true) (hq : ∀ mx, wloop E mask 0 c (mkTr lt) (mkZm lz) n1 mx K) :
    ∀ (m : Nat) (tr : KTm) (zm : KZ) (nx mx : Nat), repR E n mask 0 c (m + 1) tr zm nx mx (fun tr zm nx _ => tK (stT .normal lt lz n1 .normal tr zm nx)) → wloop E mask 0 c tr zm nx mx K
  | 0, tr, zm, nx, mx, h => wloop.round (wrun.lit (e0 := .normal) (lt := lt) (lz := lz) (n1 := n1) ((wrun_of hE (show krun E n mask 0 c tr zm nx mx _ from h)).mono fun e tr1 zm1 nx1 mx1 q => by
    obtain ⟨q1, q2⟩ := chk_inv q
    rw [exB_s q1]; exact q2) hk fun mx => ⟨rfl, hq mx⟩)
  | m + 1, tr, zm, nx, mx, h => wloop.round ((wrun_of hE (show krun E n mask 0 c tr zm nx mx _ from h)).mono fun e tr1 zm1 nx1 mx1 q => by
    obtain ⟨q1, q2⟩ := chk_inv q
    exact ⟨exB_s q1, wloop.piece hE hk hq m _ _ _ _ q2⟩)
end
theorem kconW_s {E : KEnv} (hE : KOk E) {k fid : Nat} {args : List KV} {w : KV} (h : callR E (wrun E) 0 fid args .e 0 0 fun r zm _ _ => tK (fzB zm k r w)) : KCS E.P fid (kcon args w) := by
  have hc : CSoundG E.P fid { pre := fun l => @decide (l = args.map KV.v) (Classical.propDecidable _), res := fun _ => w.v, fresh := true } := by
    have hme : MB (am (.e : KZ)) 0 := by rw [am_e]; exact emptyB 0
    refine ⟨(callR_s (B := 0) (wrun_ok 0) hE h hme (Nat.le_refl 0)).1, fun C l vals hok hg hargs hpre => ?_⟩
    have hl : l = args.map KV.v := @of_decide_eq_true _ (Classical.propDecidable _) hpre
    subst hl
    obtain ⟨_, r, zm', nx', mx', h1, h2, h3⟩ := callR_s (B := C.w.heap.size) (wrun_ok _) hE h hme (Nat.le_refl 0)
    have h4 := tK_s h1
    have hz : GR C.w.heap.size (nx' + mx') C.pur (fun _ => none) (am .e) 0 :=
      ⟨⟨Nat.le_refl _, hok, (fun _ _ h => (by cases h)), (fun _ _ h => (by cases h)), (fun _ _ _ _ _ h => (by cases h)), (fun _ _ _ h => (by cases h)), hg⟩, (fun id b hb => by rw [am_e] at hb; cases hb), fun _ _ _ h => h⟩
    refine (h3 (nx' + mx') C.pur (fun _ => none) vals (by omega) (by omega) hz hargs).mono ?_
    rintro e w' ⟨val, he, C', M', hw, hR, hz', hc⟩
    subst hw
    refine ⟨hc.kp.below, val, he, ?_⟩
    have h5 := (fzG_s (br := false) hz'.sr hz'.sub k r w h4).1 _ hR
    refine R.keep (C := frC false C' C.w.heap.size) ?_ _ _ h5
    exact ⟨fun _ h => h.elim, fun _ h => h.elim, fun _ h => h.elim, fun u b hb => hb.elim (fun h => by cases h.1) Or.inr, fun _ _ _ => rfl⟩
  refine ⟨hc.1, fun l K hs => ?_⟩
  obtain ⟨h1, h2⟩ := chk_inv hs
  obtain rfl := kvbs_s h1
  refine ⟨w, h2, fun B μ nx mx l0 hl0 => ?_⟩
  exact con_call (B := B) (μ := μ) (nx := nx) (mx := mx) hE.gn hc rfl hl0 (by rw [unL_mkL']; exact @decide_eq_true _ (Classical.propDecidable _) rfl)
end
end Go.K
namespace Go.K
open Go.Ab Go.RowKit Go.Y
noncomputable section
variable [KGl]
def litT (e0 : Exit) (lt : List (Nat × KV)) (lz : List (Nat × KBlk)) (n1 m1 : Nat) : K3 := fun e tr zm nx mx => tK (nd (stT e0 lt lz n1 e tr zm nx) (Nat.ble mx m1))
section
variable {E : KEnv} {mask : Nat} {c : Code} {tr : KTm} {zm : KZ} {nx mx : Nat} {K : K3}
theorem wrun.litM {e0 : Exit} {lt : List (Nat × KV)} {lz : List (Nat × KBlk)} {n1 m1 : Nat} (h : wrun E mask 0 c tr zm nx mx (litT e0 lt lz n1 m1)) (hk : keepL mask lt = true)
    (hq : K e0 (mkTr lt) (mkZm lz) n1 m1) : wrun E mask 0 c tr zm nx mx K := fun B N h1 h2 h3 h4 => by
  obtain ⟨e, tr1, zm1, nx1, mx1, q, f1, i1, g1⟩ := h B N h1 h2 h3 h4
  have hs := tK_s q
  simp only [stT, nd_iff] at hs
  obtain ⟨hs, hmx⟩ := hs
  obtain rfl := exB_s hs.1
  have hn := Nat.le_of_ble_eq_true hs.2.2.2
  have hm1 := Nat.le_of_ble_eq_true hmx
  have ht : TImp (tv' (tget tr1)) (tv' (tget (mkTr lt))) := fun t x C hx => by
    show R C (tv' (tget (mkTr lt)) t) _
    have hx' : R C (tv' (tget tr1) t) (.val x) := hx
    unfold tv' at hx' ⊢
    rcases tget_mk (t := t) (l := lt) with q | ⟨v, q1, q2⟩
    · rw [q]; trivial
    · rw [q2, ← trT_s hs.2.1 t v q1]; exact hx'
  have hm : MImp (am zm1) (am (mkZm lz)) := fun id b hb => by
    unfold am at hb
    rcases kb_mk (id := id) (l := lz) with q | ⟨b', q1, q2⟩
    · rw [q] at hb; cases hb
    · rw [q2] at hb
      cases hb
      exact ⟨_, am_some (zmT_s hs.2.2.1 id b' q1), BImp.refl _⟩
  refine ⟨e, mkTr lt, mkZm lz, n1, m1, hq, ⟨fun id hid => ?_, Nat.le_trans f1.nx hn, Nat.le_trans f1.mx hm1, fun _ h => absurd h (Nat.not_lt_zero _)⟩, INV.mk hk, g1.imp ht hm hn hm1⟩
  cases hz : am (mkZm lz) id with
  | none => rfl
  | some b =>
    obtain ⟨b', hb', _⟩ := hm id b hz
    rw [f1.mb id (by omega)] at hb'
    cases hb'
theorem wrun.pieceM (hE : KOk E) {n : Nat} {e0 : Exit} {lt : List (Nat × KV)} {lz : List (Nat × KBlk)} {n1 m1 : Nat} (h : krun E n mask 0 c tr zm nx mx (litT e0 lt lz n1 m1)) (hk : keepL mask lt = true)
    (hq : K e0 (mkTr lt) (mkZm lz) n1 m1) : wrun E mask 0 c tr zm nx mx K := wrun.litM (wrun_of hE h) hk hq
theorem wloop.pieceM (hE : KOk E) {n : Nat} {lt : List (Nat × KV)} {lz : List (Nat × KBlk)} {n1 m1 : Nat} (hk : keepL mask lt = true) (hq : wloop E mask 0 c (mkTr lt) (mkZm lz) n1 m1 K) :
    ∀ (m : Nat) (tr : KTm) (zm : KZ) (nx mx : Nat), repR E n mask 0 c (m + 1) tr zm nx mx (fun tr zm nx mx => litT .normal lt lz n1 m1 .normal tr zm nx mx) → wloop E mask 0 c tr zm nx mx K
  | 0, tr, zm, nx, mx, h => wloop.round (wrun.litM (e0 := .normal) (lt := lt) (lz := lz) (n1 := n1) (m1 := m1) ((wrun_of hE (show krun E n mask 0 c tr zm nx mx _ from h)).mono fun e tr1 zm1 nx1 mx1 q => by
    obtain ⟨q1, q2⟩ := chk_inv q
    rw [exB_s q1]; exact q2) hk ⟨rfl, hq⟩)
  | m + 1, tr, zm, nx, mx, h => wloop.round ((wrun_of hE (show krun E n mask 0 c tr zm nx mx _ from h)).mono fun e tr1 zm1 nx1 mx1 q => by
    obtain ⟨q1, q2⟩ := chk_inv q
    exact ⟨exB_s q1, wloop.pieceM hE hk hq m _ _ _ _ q2⟩)
theorem wloop.endM (hE : KOk E) {n : Nat} {e0 : Exit} {lt : List (Nat × KV)} {lz : List (Nat × KBlk)} {n1 m1 : Nat} (m : Nat) (hk : keepL mask lt = true) (hn : exB e0 .normal = false) (hq : K e0 (mkTr lt) (mkZm lz) n1 m1)
    (h : repR E n mask 0 c m tr zm nx mx (fun tr zm nx mx => krun E n mask 0 c tr zm nx mx (litT e0 lt lz n1 m1))) : wloop E mask 0 c tr zm nx mx K := by
  have key : ∀ (m : Nat) (tr : KTm) (zm : KZ) (nx mx : Nat), repR E n mask 0 c m tr zm nx mx (fun tr zm nx mx => krun E n mask 0 c tr zm nx mx (litT e0 lt lz n1 m1)) → wloop E mask 0 c tr zm nx mx K := by
    intro m
    induction m with
    | zero =>
      intro tr zm nx mx h
      exact wloop.out (wrun.litM (wrun_of hE h) hk ⟨fun he => by rw [he] at hn; revert hn; decide, hq⟩)
    | succ m ih =>
      intro tr zm nx mx h
      exact wloop.round ((wrun_of hE (show krun E n mask 0 c tr zm nx mx _ from h)).mono fun e tr1 zm1 nx1 mx1 q => by
        obtain ⟨q1, q2⟩ := chk_inv q
        exact ⟨exB_s q1, ih _ _ _ _ q2⟩)
  exact key m _ _ _ _ h
end
theorem callR_of {E : KEnv} {fid lo : Nat} {l : List KV} {zm : KZ} {nx mx : Nat} {K : KV → KZ → Nat → Nat → Prop} {c : Code} {rs : List ResultVar} {lt : List (Nat × KV)} {run : RUN} (hf : fnB E.P fid = some (c, rs))
    (hb : ∀ F : KTm → Prop, bindA (E.km fid) l 0 .e F = F (mkTr lt)) (h : run (E.km fid) lo c (mkTr lt) zm nx mx (retK E.P rs K)) : callR E run lo fid l zm nx mx K := by
  show os 174 _ (fnB E.P fid)
  rw [hf]
  show bindA (E.km fid) l 0 .e (fun tr => run (E.km fid) lo c tr zm nx mx (retK E.P rs K))
  rw [hb]
  exact h
end
end Go.K
namespace Go.K
open Go.Ab Go.RowKit Go.Y
noncomputable section
theorem GRuns.inst {i j : Gl} (h : ∀ g, i.G g = j.G g) {P : Program} {B : Nat} {c : Code} {τ τ' : Nat → V} {μ μ' : Mem} {nx N nx' mx' : Nat} {e : Exit} (s : @GRuns i P B c τ μ nx N e τ' μ' nx' mx') : @GRuns j P B c τ μ nx N e τ' μ' nx' mx' := by
  intro ro n0 H C M a h1 h2 hz ht hs
  refine wpIn_mono (s ro n0 H C M a h1 h2 (GR.inst (fun g => (h g).symm) hz) ht hs) ?_
  rintro e' a' w' ⟨rfl, C', M', rfl, ⟨q1, q2, q3, q4⟩⟩
  exact ⟨rfl, C', M', rfl, @GF.mk j ro n0 B H C M μ nx N τ' μ' nx' C' M' a' (GR.inst h q1) q2 q3 q4⟩
theorem wrun.inst {k k' : KGl} (hg : ∀ g, (@instGl k).G g = (@instGl k').G g) {E E' : KEnv} (hP : E.P = E'.P) {mask lo : Nat} {c : Code} {tr : KTm} {zm : KZ} {nx mx : Nat} {K : K3} (h : @wrun k E mask lo c tr zm nx mx K) : @wrun k' E' mask lo c tr zm nx mx K := fun B N h1 h2 h3 h4 => by
  obtain ⟨e, tr', zm', nx', mx', q, f, i, g⟩ := h B N h1 h2 h3 h4
  exact ⟨e, tr', zm', nx', mx', q, f, i, hP ▸ GRuns.inst hg g⟩
variable [KGl]
section
variable {E : KEnv} {mask : Nat} {c : Code} {tr : KTm} {zm : KZ} {nx mx : Nat} {K : K3}
def trP (tr : KTm) : List (Nat × KV) → Prop
  | [] => True
  | (t, v) :: l => tget tr t = v ∧ trP tr l
omit [KGl] in
theorem trP_s {tr : KTm} : ∀ {l : List (Nat × KV)}, trP tr l → ∀ t v, (t, v) ∈ l → tget tr t = v
  | [], _, t, v, hm => by cases hm
  | (d, w) :: l, h, t, v, hm => by
    rcases List.mem_cons.1 hm with q | q
    · cases q; exact h.1
    · exact trP_s h.2 t v q
def litP (e0 : Exit) (lt : List (Nat × KV)) (n1 m1 : Nat) : K3 := fun e tr zm nx mx => chk (exB e e0) 400 (chk (nd (Nat.ble nx n1) (Nat.ble mx m1)) 401 (trP tr lt))
theorem wrun.litP {e0 : Exit} {lt : List (Nat × KV)} {n1 m1 : Nat} (h : wrun E mask 0 c tr zm nx mx (litP e0 lt n1 m1)) (hk : keepL mask lt = true)
    (hq : K e0 (mkTr lt) (mkZm []) n1 m1) : wrun E mask 0 c tr zm nx mx K := fun B N h1 h2 h3 h4 => by
  obtain ⟨e, tr1, zm1, nx1, mx1, q, f1, i1, g1⟩ := h B N h1 h2 h3 h4
  unfold Go.K.litP at q
  obtain ⟨q1, q6⟩ := chk_inv q
  obtain ⟨q2, q7⟩ := chk_inv q6
  obtain ⟨q2, q3⟩ := nd_iff.1 q2
  obtain rfl := exB_s q1
  have hn := Nat.le_of_ble_eq_true q2
  have hm1 := Nat.le_of_ble_eq_true q3
  have ht : TImp (tv' (tget tr1)) (tv' (tget (mkTr lt))) := fun t x C hx => by
    show R C (tv' (tget (mkTr lt)) t) _
    have hx' : R C (tv' (tget tr1) t) (.val x) := hx
    unfold tv' at hx' ⊢
    rcases tget_mk (t := t) (l := lt) with q4 | ⟨v, q4, q5⟩
    · rw [q4]; trivial
    · rw [q5, ← trP_s q7 t v q4]; exact hx'
  have hm : MImp (am zm1) (am (mkZm [])) := fun id b hb => by
    unfold am at hb
    rcases kb_mk (id := id) (l := []) with q4 | ⟨b', q4, q5⟩
    · rw [q4] at hb; cases hb
    · cases q4
  refine ⟨e, mkTr lt, mkZm [], n1, m1, hq, ⟨fun id hid => ?_, Nat.le_trans f1.nx hn, Nat.le_trans f1.mx hm1, fun _ h => absurd h (Nat.not_lt_zero _)⟩, INV.mk hk, g1.imp ht hm hn hm1⟩
  cases hz : am (mkZm []) id with
  | none => rfl
  | some b => obtain ⟨b', hb', _⟩ := hm id b hz; rw [f1.mb id (by omega)] at hb'; cases hb'
end
theorem kcsW {P : Program} {fid : FuncId} {s : KSpec} (hf : ∃ fn, P.funcs[fid]? = some fn ∧ (fn.name == "runtime.NumGoroutine") = false ∧ fn.body.isNone = false)
    (h : ∀ l K, s l K → ∃ E : KEnv, KOk E ∧ E.P = P ∧ ∃ w : KV, K w ∧ noRef w.v = true ∧ callR E (wrun E) 0 fid l .e 0 0 fun r _ _ _ => tK (kvb r w)) : KCS P fid s := by
  refine ⟨hf, fun l K hs => ?_⟩
  obtain ⟨E, hE, rfl, w, h1, h2, h4⟩ := h l K hs
  have hc : CSoundG E.P fid { pre := fun l' => @decide (l' = l.map KV.v) (Classical.propDecidable _), res := fun _ => w.v, fresh := true } := by
    have hme : MB (am (.e : KZ)) 0 := by rw [am_e]; exact emptyB 0
    refine ⟨hf, fun C l' vals hok hg hargs hpre => ?_⟩
    have hl : l' = l.map KV.v := @of_decide_eq_true _ (Classical.propDecidable _) hpre
    subst hl
    obtain ⟨_, r, zm', nx', mx', q1, q2, q3⟩ := callR_s (B := C.w.heap.size) (wrun_ok _) hE h4 hme (Nat.le_refl 0)
    have hz : GR C.w.heap.size (nx' + mx') C.pur (fun _ => none) (am .e) 0 :=
      ⟨⟨Nat.le_refl _, hok, (fun _ _ h => (by cases h)), (fun _ _ h => (by cases h)), (fun _ _ _ _ _ h => (by cases h)), (fun _ _ _ h => (by cases h)), hg⟩, (fun id b hb => by rw [am_e] at hb; cases hb), fun _ _ _ h => h⟩
    refine (q3 (nx' + mx') C.pur (fun _ => none) vals (by omega) (by omega) hz hargs).mono ?_
    rintro e w' ⟨val, he, C', M', hw, hR, _, hc⟩
    subst hw
    obtain rfl := kvb_s (tK_s q1)
    exact ⟨hc.kp.below, val, he, R.noref _ h2 hR⟩
  refine ⟨w, h1, fun B μ nx mx l0 hl0 => ?_⟩
  exact con_call (B := B) (μ := μ) (nx := nx) (mx := mx) hE.gn hc rfl hl0 (by rw [unL_mkL']; exact @decide_eq_true _ (Classical.propDecidable _) rfl)
end
end Go.K
namespace Go.K
open Go.Ab Go.RowKit Go.Y
noncomputable section
variable [KGl]
omit [KGl] in
theorem allBel_bel : ∀ {l : List KV}, allBel l = true → (mkL (l.map KV.v)).bel 0
  | [], _ => trivial
  | x :: l, h => by
    obtain ⟨q1, q2⟩ := nd_iff.1 (show nd (kbel 0 x) (allBel l) = true from h)
    exact ⟨(kbel_s 0 _ q1).1, allBel_bel q2⟩
omit [KGl] in
theorem R.pur0 {C : Ctx} {v : V} {m : Ab.M} (hb : v.bel 0) (h : R C v m) : R C.pur v m :=
  R.keep (C := C.cut 0) (C' := C.pur) ⟨fun _ h => absurd h.2 (Nat.not_lt_zero _), fun _ _ => rfl, fun _ _ => rfl, fun _ _ h => h, fun _ _ _ => rfl⟩ _ _ (R.cut v hb h)
theorem gcallB {E : KEnv} (hE : KOk E) {run : RUN} (hr : ∀ B, KRunOK E B run) {k fid : Nat} {args : List KV} {w : KV} (h : callR E run 0 fid args .e 0 0 fun r zm _ _ => tK (fzG true zm k r w)) (hb : allBel args = true) (B : Nat) (μ : Mem) (nx mx : Nat) :
    GCall E.P B fid (args.map KV.v) μ nx w.v μ nx mx := by
  have hme : MB (am (.e : KZ)) 0 := by rw [am_e]; exact emptyB 0
  intro H C M vals hH hH2 hz hl
  have hp : R C.pur (mkL (args.map KV.v)) (.list vals) := R.pur0 (allBel_bel hb) hl
  obtain ⟨_, r, zm', nx', mx', q1, q2, q3⟩ := callR_s (B := C.w.heap.size) (hr _) hE h hme (Nat.le_refl 0)
  have h4 := tK_s q1
  have hz0 : GR C.w.heap.size (nx' + mx') C.pur (fun _ => none) (am .e) 0 :=
    ⟨⟨Nat.le_refl _, hz.sr.okLt, (fun _ _ h => (by cases h)), (fun _ _ h => (by cases h)), (fun _ _ _ _ _ h => (by cases h)), (fun _ _ _ h => (by cases h)), fun g => R.pure_of _ (hE.gn g) (hz.sr.gl g)⟩, (fun id b hb => by rw [am_e] at hb; cases hb), fun _ _ _ h => h⟩
  refine (q3 (nx' + mx') C.pur (fun _ => none) vals (by omega) (by omega) hz0 hp).mono ?_
  rintro e w' ⟨val, he, C', M', hw, hR, hz', hc⟩
  subst hw
  have hbel : Below C.w.heap.size C.w C'.w := hc.kp.below
  let ok' : Bool → Nat → Prop := fun u b => (C.ok u b ∨ (u = true ∧ C.ok false b)) ∨ (C.w.heap.size ≤ b ∧ b < C'.w.heap.size)
  obtain ⟨hs2, hk2⟩ := hz.sr.grown hbel ok' (fun u b h => .inl (.inl h)) (fun u b h => h)
  have h5 := (fzG_s (br := true) hz'.sr hz'.sub k r w h4).1 _ hR
  refine ⟨val, he, { C with w := C'.w, ok := ok' }, M, rfl, ?_, ⟨hs2, hz.sub, fun id h1 h2 h3 => hz.al id h1 h2 h3⟩, ⟨hk2, fun id h => .inl h, fun _ _ h => ⟨rfl, h⟩⟩⟩
  refine R.keep (C := frC true C' C.w.heap.size) (C' := { C with w := C'.w, ok := ok' }) ⟨fun _ h => h.elim, fun _ h => h.elim, fun _ h => h.elim, fun u b hb2 => ?_, fun _ _ _ => rfl⟩ _ _ h5
  rcases hb2 with ⟨_, rfl, h6⟩ | h6
  · rcases hc.kp.okn _ _ h6 with h7 | h7
    · exact .inl h7
    · exact .inr ⟨h7, hz'.sr.okLt _ _ h6⟩
  · exact .inr h6
theorem kconB_s {E : KEnv} (hE : KOk E) {n k fid : Nat} {args : List KV} {w : KV} (h : callR E (krun E n) 0 fid args .e 0 0 fun r zm _ _ => tK (fzG true zm k r w)) : KCSb E.P fid (kcon args w) := by
  have hme : MB (am (.e : KZ)) 0 := by rw [am_e]; exact emptyB 0
  refine ⟨(callR_s (B := 0) (krun_ok hE n) hE h hme (Nat.le_refl 0)).1, fun l K hs => ?_⟩
  obtain ⟨h1, h2⟩ := chk_inv hs
  obtain rfl := kvbs_s h1
  exact ⟨w, h2, fun hb B μ nx mx => gcallB hE (fun _ => krun_ok hE n) h hb B μ nx mx⟩
theorem KCS.b {P : Program} {fid : FuncId} {s : KSpec} (h : KCS P fid s) : KCSb P fid s := ⟨h.1, fun l K hs => by
  obtain ⟨v, h1, h2⟩ := h.2 l K hs
  exact ⟨v, h1, fun hb B μ nx mx => h2 B μ nx mx _ (lend_bel l hb B μ)⟩⟩
def allMb (P : Program) (fid : FuncId) (L : List (List KV × KV)) : Prop := @List.rec (List KV × KV) (fun _ => Prop) True (fun x _ ih => KCSb P fid (kcon x.1 x.2) ∧ kvbs x.1 x.1 = true ∧ ih) L
theorem sMemb_s {P : Program} {fid : FuncId} (hf : ∃ fn, P.funcs[fid]? = some fn ∧ (fn.name == "runtime.NumGoroutine") = false ∧ fn.body.isNone = false) : ∀ {L : List (List KV × KV)}, allMb P fid L → KCSb P fid (sMem L)
  | [], _ => ⟨hf, fun l K h => (show BadN 320 from h).elim⟩
  | x :: L, hL => by
    obtain ⟨h1, h2, h3⟩ := (show KCSb P fid (kcon x.1 x.2) ∧ kvbs x.1 x.1 = true ∧ allMb P fid L from hL)
    refine ⟨hf, fun l K h => ?_⟩
    replace h : @Bool.rec (fun _ => Prop) (sMem L l K) (K x.2) (kvbsR l x.1) := h
    cases hk : kvbsR l x.1 with
    | true =>
      rw [hk] at h
      obtain rfl := kvbsR_s hk
      exact h1.2 x.1 K (by show chk (kvbs x.1 x.1) 190 (K x.2); rw [h2]; exact h)
    | false => rw [hk] at h; exact (sMemb_s hf h3).2 l K h
end
end Go.K
namespace Go.K
open Go.Ab Go.RowKit Go.Y
noncomputable section
variable [KGl]
omit [KGl] in
theorem iface_of {C : Ctx} {T : Nat} {x : V} {v : Value} (hT : T + 2147483649 < 8589934592) (h : R C (.fn (T + 2147483649) (.cons x .nl)) (.val v)) : ∃ z, v = .iface T z ∧ R C x (.val z) := by
  obtain ⟨cs, h1, h2, _⟩ := h
  obtain ⟨z, h3, h4⟩ := cs.v_if (ifLt T)
  have h5 : v = cs.vw C.w := h1
  rw [cs.vw_lt hT, h3, Nat.add_sub_cancel] at h5
  rw [h4] at h2
  obtain ⟨y, ys, h6, h7, _⟩ := h2
  cases h6
  exact ⟨z, h5, h7⟩
def StOk (P : Program) (w : World) (b d : Nat) (val : Value) : Prop := ∀ w1, Below w.heap.size w w1 → ∃ w', (storeCells ⟨b, d, none⟩ val.cells.toList).run P w1 = .ok () w'
theorem asOk_of {P : Program} {f T PT : Nat} (hfn : ∃ fn, P.funcs[f]? = some fn ∧ (fn.name == "runtime.NumGoroutine") = false ∧ fn.body.isNone = false) (hT : T + 2147483649 < 8589934592) (hPT : PT + 2147483649 < 8589934592)
    (law : ∀ (C : Ctx) (val : Value) (b d : Nat), (∀ g, R C (Gl.G g) (.val (.pointer (some ⟨g, 0, none⟩)))) → (∀ s, tshape P T = some s → val.cells.size = s.size) → StOk P C.w b d val →
      Calls P f #[.iface T val, .iface PT (.pointer (some ⟨b, d, none⟩))] C.w fun e w' => e = .returned (.bool true) ∧ ∃ w1, Below C.w.heap.size C.w w1 ∧ (storeCells ⟨b, d, none⟩ val.cells.toList).run P w1 = .ok () w') : AsOk P f T PT := by
  refine ⟨hfn, fun B μ nx mx id s x y hm hs hfit hkn H C M vals hH hH2 hz hl => ?_⟩
  obtain ⟨v0, vs, rfl, h0, v1, vs1, rfl, h1, h2⟩ := hl
  obtain rfl : vs1 = [] := h2
  obtain ⟨val, rfl, hx⟩ := iface_of hT h0
  obtain ⟨pv, rfl, hp⟩ := iface_of hPT h1
  obtain ⟨hal, b, d, hb, hpath, hpv⟩ := hp
  obtain rfl : pv = .pointer (some ⟨b, d, none⟩) := hpv
  have hM := hz.sub _ _ hm
  obtain ⟨hsz, _, _⟩ := R.cells_of hx hfit hkn
  let op : Sem Next := do storeCells ⟨b, d, none⟩ val.cells.toList; pure .skip
  have key : ∀ w1, Below C.w.heap.size C.w w1 → ∃ C1 : Ctx, C1.w = w1 ∧ Kp B C C1 ∧ (∀ i, C1.al i → C.al i) ∧ Does P op w1 (Post B C1 (upd M id (some ⟨.box T, s, x⟩)) (fun i => nx ≤ i ∧ i < nx + 0) (.tup .nl)) := by
    intro w1 hw1
    obtain ⟨hs1, hk1⟩ := hz.sr.grown hw1 C.ok (fun _ _ h => h) (fun _ _ h => .inl (.inl h))
    refine ⟨{ C with w := w1, ok := C.ok }, rfl, hk1, fun _ h => h, ?_⟩
    exact does_store (C := { C with w := w1, ok := C.ok }) (n := nx) (p := []) hs1 hM rfl hb hpath (R.keep hk1.toKeep _ _ hx) hfit hkn fun w' hw' => by
      show (do storeCells ⟨b, d, none⟩ val.cells.toList; pure Next.skip : Sem Next).run P w1 = _
      simp [hw']
  have hst : StOk P C.w b d val := by
    intro w1 hw1
    obtain ⟨C1, rfl, _, _, hd⟩ := key w1 hw1
    unfold Does at hd
    cases hr : (storeCells ⟨b, d, none⟩ val.cells.toList).run P C1.w with
    | ok u w' => exact ⟨w', rfl⟩
    | _ => simp [op, hr, Result.andThen] at hd
  refine (law C val b d hz.sr.gl (fun s' hs' => by rw [hs] at hs'; cases hs'; exact hsz) hst).mono ?_
  rintro e w' ⟨rfl, w1, hw1, hrun⟩
  obtain ⟨C1, rfl, hk1, hal1, hd⟩ := key w1 hw1
  have hop : op.run P C1.w = .ok .skip w' := by simp [op, hrun]
  unfold Does at hd
  rw [hop] at hd
  obtain ⟨C2, rfl, _, hk2, hs2, hal2⟩ := hd
  have hal3 : ∀ i, C2.al i → C.al i := fun i hi => by
    rcases hal2 i hi with h | h
    · exact hal1 i h
    · omega
  refine ⟨.bool true, rfl, C2, _, rfl, rfl, ⟨hs2, fun i bk hi => ?_, fun i q1 q2 q3 => hz.al i q1 q2 (hal3 i q3)⟩, ⟨hk1.trans hk2, fun i hi => .inl (hal3 i hi), fun i hi hn => ?_⟩⟩
  · by_cases h : i = id
    · subst h; rw [upd_same] at hi ⊢; exact hi
    · rw [upd_other _ _ h] at hi ⊢; exact hz.sub i bk hi
  · have h : i ≠ id := fun h => by subst h; rw [hm] at hn; cases hn
    exact ⟨upd_other _ _ h, by rw [upd_other _ _ h]; exact hn⟩
end
end Go.K
namespace Go.K
open Go.Ab Go.RowKit Go.Y
noncomputable section
variable [KGl]
def sIs (ft nn m : Nat) : KSpec := fun l K => l2 (fun x y => onFn (fun f c => chk (Nat.beq f ft) 391 (onCons (fun p r => onNl (onCons (fun e q => onInt (fun _ _ => onCons (fun z q2 => onNl (onFn (fun n _ => onFn (fun m' _ => chk (Nat.beq m' m) 392 (@Bool.rec (fun _ => Prop) (chk (Nat.beq n m) 393 (K (.bool true))) (K (.bool false)) (Nat.beq n nn))) (BadN 394) y) (BadN 394) z) (BadN 394) q2) (BadN 394) q) (BadN 394) e) (BadN 394) p) (BadN 394) r) (BadN 394) c)) (BadN 394) x) l
omit [KGl] in
theorem nilI_of {C : Ctx} {c : V} {m : Ab.M} {x : Value} (h : R C (.fn 2147483648 c) m) (hx : m.leaf x) : x = .nilIface := by
  obtain ⟨cs, h1, _, _⟩ := h
  have h2 : cs.vw C.w = .nilIface := by
    rw [FC.vw_lt (by decide)]
    unfold FC.v
    rw [if_neg (by decide)]
    split
    · rw [if_pos rfl]
    · rfl
  rw [h2] at h1
  cases m with
  | cel s g off =>
    obtain ⟨_, h3⟩ := h1
    obtain ⟨_, h4⟩ := hx
    exact Option.some.inj (h4.symm.trans h3)
  | val v => exact (show v = x from hx).symm.trans h1
  | list l => exact h1.elim
omit [KGl] in
theorem glI_of {C : Ctx} {c : V} {f : Nat} {m : Ab.M} (h1 : 8589934592 ≤ f) (h2 : f < 17179869184) (h : R C (.fn f c) m) : ∃ x a, m.leaf x ∧ C.w.cell? ⟨Go.Ab.gV f, 0, none⟩ = some x ∧ x = .iface (Go.Ab.gY f) (.pointer (some a)) := by
  obtain ⟨cs, h3, _, h5⟩ := h
  obtain ⟨q1, a, q2⟩ := FC.vw_gl h1 h2 h5 cs
  exact ⟨cs.vw C.w, a, h3, q1, q2⟩
omit [KGl] in
theorem leaf_inj {m : Ab.M} {x y : Value} (h : m.leaf x) (k : m.leaf y) : x = y := by
  cases m with
  | cel s g off => exact Option.some.inj (h.2.symm.trans k.2)
  | val v => exact (show v = x from h).symm.trans k
  | list l => exact h.elim
omit [KGl] in
theorem two_of {C : Ctx} {k : IntKind} {i : Int} {n : Nat} {c : V} {z : Value} (h : R C (.cons (.int k i) (.cons (.fn n c) .nl)) (.val z)) : ∃ x : Value, z = .agg #[.int k i, x] ∧ ∃ m : Ab.M, m.leaf x ∧ R C (.fn n c) m := by
  obtain ⟨ds, a, b, rfl, h1, h2, h3⟩ := h
  obtain ⟨a2, b2, rfl, h4, h5⟩ := h3
  obtain ⟨rfl, h6⟩ := (show a = .sc ∧ ds[0]? = some (.int k i) from h2)
  obtain rfl : b2 = .nl := h5
  have h4' := h4
  obtain ⟨cs, h70, _, _⟩ := h4'
  obtain ⟨rfl, h7⟩ := (show a2 = .sc ∧ ds[1]? = some (cs.vw C.w) from h70)
  have hs : ds.size = 2 := h1
  refine ⟨cs.vw C.w, ?_, _, (show (Ab.M.cel .sc (fun i => ds[i]?) 1).leaf _ from ⟨rfl, h7⟩), h4⟩
  congr 1
  apply Array.ext
  · simpa using hs
  · intro j hj1 hj2
    have hj : j = 0 ∨ j = 1 := by omega
    have h8 := Array.getElem?_eq_getElem hj1
    rcases hj with rfl | rfl
    · rw [h8] at h6; simpa using h6
    · rw [h8] at h7; simpa using h7
theorem is_con {P : Program} (hgn : ∀ g, noId (Gl.G g) = true) {f : Nat} {b : Bool} {l : List KV} (hfn : ∃ fn, P.funcs[f]? = some fn ∧ (fn.name == "runtime.NumGoroutine") = false ∧ fn.body.isNone = false)
    (law : ∀ (C : Ctx) (vals : List Value), R C (mkL (l.map KV.v)) (.list vals) → Calls P f vals.toArray C.w fun ev w' => ev = .returned (.bool b) ∧ Below C.w.heap.size C.w w') {B : Nat} {μ : Mem} {nx mx : Nat} {l0 : List V} (hl : Lend B μ l0 (l.map KV.v)) : GCall P B f l0 μ nx (KV.bool b).v μ nx mx := by
  have hc : CSoundG P f { pre := fun l' => @decide (l' = l.map KV.v) (Classical.propDecidable _), res := fun _ => .bool b, fresh := true } := by
    refine ⟨hfn, fun C args vals hok hg hargs hpre => ?_⟩
    have hl' : args = l.map KV.v := @of_decide_eq_true _ (Classical.propDecidable _) hpre
    subst hl'
    refine (law C.pur vals hargs).mono ?_
    rintro e w' ⟨rfl, hb⟩
    exact ⟨hb, _, rfl, rfl⟩
  exact con_call (B := B) (μ := μ) (nx := nx) (mx := mx) hgn hc rfl hl (by rw [unL_mkL']; exact @decide_eq_true _ (Classical.propDecidable _) rfl)
theorem isOk_of {P : Program} (hgn : ∀ g, noId (Gl.G g) = true) {f T Y m : Nat} (hfn : ∃ fn, P.funcs[f]? = some fn ∧ (fn.name == "runtime.NumGoroutine") = false ∧ fn.body.isNone = false) (hT : T + 2147483649 < 8589934592) (h1 : 8589934592 ≤ m) (h2 : m < 17179869184) (hY : Go.Ab.gY m = Y)
    (lawN : ∀ e a w, Calls P f #[.iface T (.agg #[e, .nilIface]), .iface Y (.pointer (some a))] w fun ev w' => ev = .returned (.bool false) ∧ Below w.heap.size w w')
    (lawH : ∀ e a w, Calls P f #[.iface T (.agg #[e, .iface Y (.pointer (some a))]), .iface Y (.pointer (some a))] w fun ev w' => ev = .returned (.bool true) ∧ Below w.heap.size w w') : KCS P f (sIs (T + 2147483649) 2147483648 m) := by
  subst hY
  have hft : ∃ ft, ft = T + 2147483649 := ⟨_, rfl⟩
  obtain ⟨ft, hft⟩ := hft
  have hnn : ∃ nn, nn = 2147483648 := ⟨_, rfl⟩
  obtain ⟨nn, hnn⟩ := hnn
  rw [← hft, ← hnn]
  refine ⟨hfn, fun l K hs => ?_⟩
  obtain ⟨x, y, rfl, hs1⟩ := l2_inv hs
  rcases onFn_inv hs1 with ⟨fx, c, rfl, hs2⟩ | ⟨_, hs2⟩
  rotate_left
  · exact hs2.elim
  obtain ⟨hf, hs3⟩ := chk_inv hs2
  obtain rfl := Nat.eq_of_beq_eq_true hf
  rcases onCons_inv hs3 with ⟨p, r, rfl, hs4⟩ | ⟨_, hs4⟩
  rotate_left
  · exact hs4.elim
  rcases onNl_inv hs4 with ⟨rfl, hs5⟩ | ⟨_, hs5⟩
  rotate_left
  · exact hs5.elim
  rcases onCons_inv hs5 with ⟨e, q, rfl, hs6⟩ | ⟨_, hs6⟩
  rotate_left
  · exact hs6.elim
  rcases onInt_inv hs6 with ⟨k, i, rfl, hs7⟩ | ⟨_, hs7⟩
  rotate_left
  · exact hs7.elim
  rcases onCons_inv hs7 with ⟨z, q2, rfl, hs8⟩ | ⟨_, hs8⟩
  rotate_left
  · exact hs8.elim
  rcases onNl_inv hs8 with ⟨rfl, hs9⟩ | ⟨_, hs9⟩
  rotate_left
  · exact hs9.elim
  rcases onFn_inv hs9 with ⟨n, c1, rfl, hs10⟩ | ⟨_, hs10⟩
  rotate_left
  · exact hs10.elim
  rcases onFn_inv hs10 with ⟨m', c2, rfl, hs11⟩ | ⟨_, hs11⟩
  rotate_left
  · exact hs11.elim
  obtain ⟨hm, hs12⟩ := chk_inv hs11
  obtain rfl : m' = m := Nat.eq_of_beq_eq_true hm
  have args : ∀ (C : Ctx) (vals : List Value), R C (mkL (([.fn fx (.cons (.cons (.int k i) (.cons (.fn n c1) .nl)) .nl), .fn m' c2] : List KV).map KV.v)) (.list vals) → ∃ x v1 a, vals = [.iface T (.agg #[.int k i, x]), v1] ∧ v1 = .iface (Go.Ab.gY m') (.pointer (some a)) ∧ C.w.cell? ⟨Go.Ab.gV m', 0, none⟩ = some v1 ∧ ∃ M : Ab.M, M.leaf x ∧ R C (.fn n c1.v) M := by
    rintro C vals ⟨v0, vs, rfl, g0, v1, vs1, rfl, g1, g2⟩
    obtain rfl : vs1 = [] := g2
    rw [hft] at g0
    obtain ⟨z, rfl, g3⟩ := iface_of hT g0
    obtain ⟨x, rfl, M, g4, g5⟩ := two_of g3
    obtain ⟨v, a, g6, g7, g8⟩ := glI_of h1 h2 g1
    obtain rfl : v1 = v := g6
    exact ⟨x, v1, a, rfl, g8, g7, M, g4, g5⟩
  by_cases hn : n = nn
  · subst hn
    have hs : K (.bool false) := by
      have hb : Nat.beq n n = true := Nat.beq_refl n
      rw [hb] at hs12
      exact hs12
    refine ⟨_, hs, fun B μ nx mx l0 hl => is_con hgn hfn (fun C vals hr => ?_) hl⟩
    obtain ⟨x, v1, a, rfl, rfl, _, M, g1, g2⟩ := args C vals hr
    rw [hnn] at g2
    obtain rfl := nilI_of g2 g1
    exact lawN _ _ _
  · have hb : Nat.beq n nn = false := by
      cases hq : Nat.beq n nn with
      | false => rfl
      | true => exact absurd (Nat.eq_of_beq_eq_true hq) hn
    have hs : @Bool.rec (fun _ => Prop) (chk (Nat.beq n m') 393 (K (.bool true))) (K (.bool false)) (Nat.beq n nn) := hs12
    rw [hb] at hs
    obtain ⟨hq, hsk⟩ := chk_inv hs
    obtain rfl : n = m' := Nat.eq_of_beq_eq_true hq
    refine ⟨_, hsk, fun B μ nx mx l0 hl => is_con hgn hfn (fun C vals hr => ?_) hl⟩
    obtain ⟨x, v1, a, rfl, h3, h4, M, g1, g2⟩ := args C vals hr
    obtain ⟨x2, a2, g3, g4, _⟩ := glI_of h1 h2 g2
    obtain rfl : x = x2 := leaf_inj g1 g3
    obtain rfl : x = v1 := Option.some.inj (g4.symm.trans h4)
    rw [h3]
    exact lawH _ _ _
end
end Go.K
