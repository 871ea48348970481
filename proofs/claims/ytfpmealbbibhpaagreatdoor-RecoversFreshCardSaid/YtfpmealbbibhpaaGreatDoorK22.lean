/- Long closed runs put together from pieces: a run known by what it does; loops in chunks of rounds; closed contracts from it. No condition. Runs in pieces: the states between them are written down whole. No condition. Runs in pieces: open ones beside closed ones; contracts of them. No condition. -/
import Derived.Test.YtfpmealbbibhpaaGreatDoorK21
set_option linter.unusedVariables false
set_option linter.unusedSimpArgs false
namespace Go.K
open Go.Ab Go.RowKit Go.Y
noncomputable section
variable [KGl]
def wrun (E : KEnv) : RUN := fun mask lo c tr zm nx mx K => ∀ B N, cOk N c = true → MB (am zm) nx → lo ≤ nx → INV mask tr →
  ∃ e tr' zm' nx' mx', K e tr' zm' nx' mx' ∧ KFin lo zm nx mx zm' nx' mx' ∧ INV mask tr' ∧ GRuns E.P B c (tv' (tget tr)) (am zm) nx N e (tv' (tget tr')) (am zm') nx' mx'
def wloop (E : KEnv) : RUN := fun mask lo c tr zm nx mx K => ∀ B N, cOk N c = true → MB (am zm) nx → lo ≤ nx → INV mask tr →
  ∃ e tr' zm' nx' mx' k, K e tr' zm' nx' mx' ∧ KFin lo zm nx mx zm' nx' mx' ∧ INV mask tr' ∧ GLoop E.P B c N e (tv' (tget tr')) (am zm') nx' mx' k (tv' (tget tr)) (am zm) nx
section
variable {E : KEnv} {mask lo : Nat} {c : Code} {tr : KTm} {zm : KZ} {nx mx : Nat} {K : K3}
theorem wrun_ok (B : Nat) : KRunOK E B (wrun E) := fun _ _ _ _ _ _ _ _ N h h1 h2 h3 h4 => h B N h1 h2 h3 h4
theorem wrun_of (hE : KOk E) {n : Nat} (h : krun E n mask lo c tr zm nx mx K) : wrun E mask lo c tr zm nx mx K := fun _ N h1 h2 h3 h4 => krun_ok hE n mask lo c tr zm nx mx K N h h1 h2 h3 h4
theorem wrun.mono {K' : K3} (h : wrun E mask lo c tr zm nx mx K) (hk : ∀ e tr zm nx mx, K e tr zm nx mx → K' e tr zm nx mx) : wrun E mask lo c tr zm nx mx K' := fun B N h1 h2 h3 h4 => by
  obtain ⟨e, tr', zm', nx', mx', q, r⟩ := h B N h1 h2 h3 h4
  exact ⟨e, tr', zm', nx', mx', hk _ _ _ _ _ q, r⟩
theorem wrun.seq {a b : Code} (h : wrun E mask lo a tr zm nx mx (fun e tr zm nx mx => (e = .normal ∧ wrun E mask lo b tr zm nx mx K) ∨ (e ≠ .normal ∧ K e tr zm nx mx))) : wrun E mask lo (.seq a b) tr zm nx mx K := fun B N h1 h2 h3 h4 => by
  simp only [cOk, Bool.and_eq_true] at h1
  obtain ⟨e, tr1, zm1, nx1, mx1, q, f1, i1, g1⟩ := h B N h1.1 h2 h3 h4
  rcases q with ⟨rfl, q⟩ | ⟨he, q⟩
  · obtain ⟨e2, tr2, zm2, nx2, mx2, q2, f2, i2, g2⟩ := q B N h1.2 f1.mb (Nat.le_trans h3 f1.nx) i1
    exact ⟨e2, tr2, zm2, nx2, mx2, q2, f1.trans f2, i2, GRuns.seq g1 g2 f1.nx f2.nx f2.mx⟩
  · exact ⟨e, tr1, zm1, nx1, mx1, q, f1, i1, GRuns.seqX he g1⟩
theorem wrun.block {id : Nat} (h : wrun E mask lo c tr zm nx mx (fun e tr zm nx mx => (e = .exit id ∧ K .normal tr zm nx mx) ∨ (e ≠ .exit id ∧ K e tr zm nx mx))) : wrun E mask lo (.block id c) tr zm nx mx K := fun B N h1 h2 h3 h4 => by
  obtain ⟨e, tr1, zm1, nx1, mx1, q, f1, i1, g1⟩ := h B N h1 h2 h3 h4
  rcases q with ⟨rfl, q⟩ | ⟨he, q⟩
  · exact ⟨.normal, tr1, zm1, nx1, mx1, q, f1, i1, GRuns.blockE g1⟩
  · exact ⟨e, tr1, zm1, nx1, mx1, q, f1, i1, GRuns.blockX he g1⟩
theorem wloop.run (h : wloop E mask lo c tr zm nx mx K) : wrun E mask lo (.loop c) tr zm nx mx K := fun B N h1 h2 h3 h4 => by
  obtain ⟨e, tr1, zm1, nx1, mx1, k, q, f1, i1, g1⟩ := h B N h1 h2 h3 h4
  exact ⟨e, tr1, zm1, nx1, mx1, q, f1, i1, g1.runs⟩
theorem wloop.out (h : wrun E mask lo c tr zm nx mx (fun e tr zm nx mx => e ≠ .normal ∧ K e tr zm nx mx)) : wloop E mask lo c tr zm nx mx K := fun B N h1 h2 h3 h4 => by
  obtain ⟨e, tr1, zm1, nx1, mx1, ⟨he, q⟩, f1, i1, g1⟩ := h B N h1 h2 h3 h4
  exact ⟨e, tr1, zm1, nx1, mx1, 1, q, f1, i1, .out g1 he f1.nx⟩
theorem wloop.round (h : wrun E mask lo c tr zm nx mx (fun e tr zm nx mx => e = .normal ∧ wloop E mask lo c tr zm nx mx K)) : wloop E mask lo c tr zm nx mx K := fun B N h1 h2 h3 h4 => by
  obtain ⟨e, tr1, zm1, nx1, mx1, ⟨rfl, q⟩, f1, i1, g1⟩ := h B N h1 h2 h3 h4
  obtain ⟨e2, tr2, zm2, nx2, mx2, k, q2, f2, i2, g2⟩ := q B N h1 f1.mb (Nat.le_trans h3 f1.nx) i1
  exact ⟨e2, tr2, zm2, nx2, mx2, k + 1, q2, f1.trans f2, i2, .round g1 f1.nx f2.mx g2⟩
def repR (E : KEnv) (n : Nat) (mask lo : Nat) (c : Code) (m : Nat) : KTm → KZ → Nat → Nat → (KTm → KZ → Nat → Nat → Prop) → Prop :=
  @Nat.rec (fun _ => KTm → KZ → Nat → Nat → (KTm → KZ → Nat → Nat → Prop) → Prop) (fun tr zm nx mx K => K tr zm nx mx) (fun _ ih tr zm nx mx K => krun E n mask lo c tr zm nx mx fun e tr zm nx mx => chk (exB e .normal) 0 (ih tr zm nx mx K)) m
theorem wloop.rep (hE : KOk E) {n : Nat} : ∀ (m : Nat) (tr : KTm) (zm : KZ) (nx mx : Nat), repR E n mask lo c m tr zm nx mx (fun tr zm nx mx => wloop E mask lo c tr zm nx mx K) → wloop E mask lo c tr zm nx mx K
  | 0, _, _, _, _, h => h
  | m + 1, tr, zm, nx, mx, h => wloop.round ((wrun_of hE (show krun E n mask lo c tr zm nx mx _ from h)).mono fun e tr1 zm1 nx1 mx1 q => by
    obtain ⟨q1, q2⟩ := chk_inv q
    exact ⟨exB_s q1, wloop.rep hE m _ _ _ _ q2⟩)
theorem wrun.lit {e0 : Exit} {lt : List (Nat × KV)} {lz : List (Nat × KBlk)} {n1 : Nat} (h : wrun E mask 0 c tr zm nx mx fun e tr zm nx _ => tK (stT e0 lt lz n1 e tr zm nx)) (hk : keepL mask lt = true)
    (hq : ∀ mx, K e0 (mkTr lt) (mkZm lz) n1 mx) : wrun E mask 0 c tr zm nx mx K := fun B N h1 h2 h3 h4 => by
  obtain ⟨e, tr1, zm1, nx1, mx1, q, f1, i1, g1⟩ := h B N h1 h2 h3 h4
  have hs := tK_s q
  simp only [stT, nd_iff] at hs
  obtain rfl := exB_s hs.1
  have hn := Nat.le_of_ble_eq_true hs.2.2.2
  have ht : TImp (tv' (tget tr1)) (tv' (tget (mkTr lt))) := fun t x C hx => by
    show R C (tv' (tget (mkTr lt)) t) _
    have hx' : R C (tv' (tget tr1) t) (.val x) := hx
    unfold tv' at hx' ⊢
    rcases tget_mk (t := t) (l := lt) with q | ⟨v, q1, q2⟩
    · rw [q]; trivial
    · rw [q2, ← trT_s hs.2.1 t v q1]; exact hx'
  have hm : MImp (am zm1) (am (mkZm lz)) := fun id b hb => by
    unfold am at hb
    rcases kb_mk (id := id) (l := lz) with q | ⟨b', q1, q2⟩
    · rw [q] at hb; cases hb
    · rw [q2] at hb
      cases hb
      exact ⟨_, am_some (zmT_s hs.2.2.1 id b' q1), BImp.refl _⟩
  refine ⟨e, mkTr lt, mkZm lz, n1, mx1, hq mx1, ⟨fun id hid => ?_, Nat.le_trans f1.nx hn, f1.mx, fun _ h => absurd h (Nat.not_lt_zero _)⟩, INV.mk hk, g1.imp ht hm hn (Nat.le_refl _)⟩
  cases hz : am (mkZm lz) id with
  | none => rfl
  | some b =>
    obtain ⟨b', hb', _⟩ := hm id b hz
    rw [f1.mb id (by omega)] at hb'
    cases hb'
theorem wrun.piece (hE : KOk E) {n : Nat} {e0 : Exit} {lt : List (Nat × KV)} {lz : List (Nat × KBlk)} {n1 : Nat} (h : krun E n mask 0 c tr zm nx mx fun e tr zm nx _ => tK (stT e0 lt lz n1 e tr zm nx)) (hk : keepL mask lt = true)
    (hq : ∀ mx, K e0 (mkTr lt) (mkZm lz) n1 mx) : wrun E mask 0 c tr zm nx mx K := wrun.lit (wrun_of hE h) hk hq
theorem wloop.piece (hE : KOk E) {n : Nat} {lt : List (Nat × KV)} {lz : List (Nat × KBlk)} {n1 : Nat} (hk : keepL mask lt = true) (hq : ∀ mx, wloop E mask 0 c (mkTr lt) (mkZm lz) n1 mx K) :
    ∀ (m : Nat) (tr : KTm) (zm : KZ) (nx mx : Nat), repR E n mask 0 c (m + 1) tr zm nx mx (fun tr zm nx _ => tK (stT .normal lt lz n1 .normal tr zm nx)) → wloop E mask 0 c tr zm nx mx K
  | 0, tr, zm, nx, mx, h => wloop.round (wrun.lit (e0 := .normal) (lt := lt) (lz := lz) (n1 := n1) ((wrun_of hE (show krun E n mask 0 c tr zm nx mx _ from h)).mono fun e tr1 zm1 nx1 mx1 q => by
    obtain ⟨q1, q2⟩ := chk_inv q
    rw [exB_s q1]; exact q2) hk fun mx => ⟨rfl, hq mx⟩)
  | m + 1, tr, zm, nx, mx, h => wloop.round ((wrun_of hE (show krun E n mask 0 c tr zm nx mx _ from h)).mono fun e tr1 zm1 nx1 mx1 q => by
    obtain ⟨q1, q2⟩ := chk_inv q
    exact ⟨exB_s q1, wloop.piece hE hk hq m _ _ _ _ q2⟩)
end
theorem kconW_s {E : KEnv} (hE : KOk E) {k fid : Nat} {args : List KV} {w : KV} (h : callR E (wrun E) 0 fid args .e 0 0 fun r zm _ _ => tK (fzB zm k r w)) : KCS E.P fid (kcon args w) := by
  have hc : CSoundG E.P fid { pre := fun l => @decide (l = args.map KV.v) (Classical.propDecidable _), res := fun _ => w.v, fresh := true } := by
    have hme : MB (am (.e : KZ)) 0 := by rw [am_e]; exact emptyB 0
    refine ⟨(callR_s (B := 0) (wrun_ok 0) hE h hme (Nat.le_refl 0)).1, fun C l vals hok hg hargs hpre => ?_⟩
    have hl : l = args.map KV.v := @of_decide_eq_true _ (Classical.propDecidable _) hpre
    subst hl
    obtain ⟨_, r, zm', nx', mx', h1, h2, h3⟩ := callR_s (B := C.w.heap.size) (wrun_ok _) hE h hme (Nat.le_refl 0)
    have h4 := tK_s h1
    have hz : GR C.w.heap.size (nx' + mx') C.pur (fun _ => none) (am .e) 0 :=
      ⟨⟨Nat.le_refl _, hok, (fun _ _ h => (by cases h)), (fun _ _ h => (by cases h)), (fun _ _ _ _ _ h => (by cases h)), (fun _ _ _ h => (by cases h)), hg⟩, (fun id b hb => by rw [am_e] at hb; cases hb), fun _ _ _ h => h⟩
    refine (h3 (nx' + mx') C.pur (fun _ => none) vals (by omega) (by omega) hz hargs).mono ?_
    rintro e w' ⟨val, he, C', M', hw, hR, hz', hc⟩
    subst hw
    refine ⟨hc.kp.below, val, he, ?_⟩
    have h5 := (fzG_s (br := false) hz'.sr hz'.sub k r w h4).1 _ hR
    refine R.keep (C := frC false C' C.w.heap.size) ?_ _ _ h5
    exact ⟨fun _ h => h.elim, fun _ h => h.elim, fun _ h => h.elim, fun u b hb => hb.elim (fun h => by cases h.1) Or.inr, fun _ _ _ => rfl⟩
  refine ⟨hc.1, fun l K hs => ?_⟩
  obtain ⟨h1, h2⟩ := chk_inv hs
  obtain rfl := kvbs_s h1
  refine ⟨w, h2, fun B μ nx mx l0 hl0 => ?_⟩
  exact con_call (B := B) (μ := μ) (nx := nx) (mx := mx) hE.gn hc rfl hl0 (by rw [unL_mkL']; exact @decide_eq_true _ (Classical.propDecidable _) rfl)
end
end Go.K
namespace Go.K
open Go.Ab Go.RowKit Go.Y
noncomputable section
variable [KGl]
def litT (e0 : Exit) (lt : List (Nat × KV)) (lz : List (Nat × KBlk)) (n1 m1 : Nat) : K3 := fun e tr zm nx mx => tK (nd (stT e0 lt lz n1 e tr zm nx) (Nat.ble mx m1))
section
variable {E : KEnv} {mask : Nat} {c : Code} {tr : KTm} {zm : KZ} {nx mx : Nat} {K : K3}
theorem wrun.litM {e0 : Exit} {lt : List (Nat × KV)} {lz : List (Nat × KBlk)} {n1 m1 : Nat} (h : wrun E mask 0 c tr zm nx mx (litT e0 lt lz n1 m1)) (hk : keepL mask lt = true)
    (hq : K e0 (mkTr lt) (mkZm lz) n1 m1) : wrun E mask 0 c tr zm nx mx K := fun B N h1 h2 h3 h4 => by
  obtain ⟨e, tr1, zm1, nx1, mx1, q, f1, i1, g1⟩ := h B N h1 h2 h3 h4
  have hs := tK_s q
  simp only [stT, nd_iff] at hs
  obtain ⟨hs, hmx⟩ := hs
  obtain rfl := exB_s hs.1
  have hn := Nat.le_of_ble_eq_true hs.2.2.2
  have hm1 := Nat.le_of_ble_eq_true hmx
  have ht : TImp (tv' (tget tr1)) (tv' (tget (mkTr lt))) := fun t x C hx => by
    show R C (tv' (tget (mkTr lt)) t) _
    have hx' : R C (tv' (tget tr1) t) (.val x) := hx
    unfold tv' at hx' ⊢
    rcases tget_mk (t := t) (l := lt) with q | ⟨v, q1, q2⟩
    · rw [q]; trivial
    · rw [q2, ← trT_s hs.2.1 t v q1]; exact hx'
  have hm : MImp (am zm1) (am (mkZm lz)) := fun id b hb => by
    unfold am at hb
    rcases kb_mk (id := id) (l := lz) with q | ⟨b', q1, q2⟩
    · rw [q] at hb; cases hb
    · rw [q2] at hb
      cases hb
      exact ⟨_, am_some (zmT_s hs.2.2.1 id b' q1), BImp.refl _⟩
  refine ⟨e, mkTr lt, mkZm lz, n1, m1, hq, ⟨fun id hid => ?_, Nat.le_trans f1.nx hn, Nat.le_trans f1.mx hm1, fun _ h => absurd h (Nat.not_lt_zero _)⟩, INV.mk hk, g1.imp ht hm hn hm1⟩
  cases hz : am (mkZm lz) id with
  | none => rfl
  | some b =>
    obtain ⟨b', hb', _⟩ := hm id b hz
    rw [f1.mb id (by omega)] at hb'
    cases hb'
theorem wrun.pieceM (hE : KOk E) {n : Nat} {e0 : Exit} {lt : List (Nat × KV)} {lz : List (Nat × KBlk)} {n1 m1 : Nat} (h : krun E n mask 0 c tr zm nx mx (litT e0 lt lz n1 m1)) (hk : keepL mask lt = true)
    (hq : K e0 (mkTr lt) (mkZm lz) n1 m1) : wrun E mask 0 c tr zm nx mx K := wrun.litM (wrun_of hE h) hk hq
theorem wloop.pieceM (hE : KOk E) {n : Nat} {lt : List (Nat × KV)} {lz : List (Nat × KBlk)} {n1 m1 : Nat} (hk : keepL mask lt = true) (hq : wloop E mask 0 c (mkTr lt) (mkZm lz) n1 m1 K) :
    ∀ (m : Nat) (tr : KTm) (zm : KZ) (nx mx : Nat), repR E n mask 0 c (m + 1) tr zm nx mx (fun tr zm nx mx => litT .normal lt lz n1 m1 .normal tr zm nx mx) → wloop E mask 0 c tr zm nx mx K
  | 0, tr, zm, nx, mx, h => wloop.round (wrun.litM (e0 := .normal) (lt := lt) (lz := lz) (n1 := n1) (m1 := m1) ((wrun_of hE (show krun E n mask 0 c tr zm nx mx _ from h)).mono fun e tr1 zm1 nx1 mx1 q => by
    obtain ⟨q1, q2⟩ := chk_inv q
    rw [exB_s q1]; exact q2) hk ⟨rfl, hq⟩)
  | m + 1, tr, zm, nx, mx, h => wloop.round ((wrun_of hE (show krun E n mask 0 c tr zm nx mx _ from h)).mono fun e tr1 zm1 nx1 mx1 q => by
    obtain ⟨q1, q2⟩ := chk_inv q
    exact ⟨exB_s q1, wloop.pieceM hE hk hq m _ _ _ _ q2⟩)
theorem wloop.endM (hE : KOk E) {n : Nat} {e0 : Exit} {lt : List (Nat × KV)} {lz : List (Nat × KBlk)} {n1 m1 : Nat} (m : Nat) (hk : keepL mask lt = true) (hn : exB e0 .normal = false) (hq : K e0 (mkTr lt) (mkZm lz) n1 m1)
    (h : repR E n mask 0 c m tr zm nx mx (fun tr zm nx mx => krun E n mask 0 c tr zm nx mx (litT e0 lt lz n1 m1))) : wloop E mask 0 c tr zm nx mx K := by
  have key : ∀ (m : Nat) (tr : KTm) (zm : KZ) (nx mx : Nat), repR E n mask 0 c m tr zm nx mx (fun tr zm nx mx => krun E n mask 0 c tr zm nx mx (litT e0 lt lz n1 m1)) → wloop E mask 0 c tr zm nx mx K := by
    intro m
    induction m with
    | zero =>
      intro tr zm nx mx h
      exact wloop.out (wrun.litM (wrun_of hE h) hk ⟨fun he => by rw [he] at hn; revert hn; decide, hq⟩)
    | succ m ih =>
      intro tr zm nx mx h
      exact wloop.round ((wrun_of hE (show krun E n mask 0 c tr zm nx mx _ from h)).mono fun e tr1 zm1 nx1 mx1 q => by
        obtain ⟨q1, q2⟩ := chk_inv q
        exact ⟨exB_s q1, ih _ _ _ _ q2⟩)
  exact key m _ _ _ _ h
end
theorem callR_of {E : KEnv} {fid lo : Nat} {l : List KV} {zm : KZ} {nx mx : Nat} {K : KV → KZ → Nat → Nat → Prop} {c : Code} {rs : List ResultVar} {lt : List (Nat × KV)} {run : RUN} (hf : fnB E.P fid = some (c, rs))
    (hb : ∀ F : KTm → Prop, bindA (E.km fid) l 0 .e F = F (mkTr lt)) (h : run (E.km fid) lo c (mkTr lt) zm nx mx (retK E.P rs K)) : callR E run lo fid l zm nx mx K := by
  show os 174 _ (fnB E.P fid)
  rw [hf]
  show bindA (E.km fid) l 0 .e (fun tr => run (E.km fid) lo c tr zm nx mx (retK E.P rs K))
  rw [hb]
  exact h
end
end Go.K
namespace Go.K
open Go.Ab Go.RowKit Go.Y
noncomputable section
theorem GRuns.inst {i j : Gl} (h : ∀ g, i.G g = j.G g) {P : Program} {B : Nat} {c : Code} {τ τ' : Nat → V} {μ μ' : Mem} {nx N nx' mx' : Nat} {e : Exit} (s : @GRuns i P B c τ μ nx N e τ' μ' nx' mx') : @GRuns j P B c τ μ nx N e τ' μ' nx' mx' := by
  intro ro n0 H C M a h1 h2 hz ht hs
  refine wpIn_mono (s ro n0 H C M a h1 h2 (GR.inst (fun g => (h g).symm) hz) ht hs) ?_
  rintro e' a' w' ⟨rfl, C', M', rfl, ⟨q1, q2, q3, q4⟩⟩
  exact ⟨rfl, C', M', rfl, @GF.mk j ro n0 B H C M μ nx N τ' μ' nx' C' M' a' (GR.inst h q1) q2 q3 q4⟩
theorem wrun.inst {k k' : KGl} (hg : ∀ g, (@instGl k).G g = (@instGl k').G g) {E E' : KEnv} (hP : E.P = E'.P) {mask lo : Nat} {c : Code} {tr : KTm} {zm : KZ} {nx mx : Nat} {K : K3} (h : @wrun k E mask lo c tr zm nx mx K) : @wrun k' E' mask lo c tr zm nx mx K := fun B N h1 h2 h3 h4 => by
  obtain ⟨e, tr', zm', nx', mx', q, f, i, g⟩ := h B N h1 h2 h3 h4
  exact ⟨e, tr', zm', nx', mx', q, f, i, hP ▸ GRuns.inst hg g⟩
variable [KGl]
section
variable {E : KEnv} {mask : Nat} {c : Code} {tr : KTm} {zm : KZ} {nx mx : Nat} {K : K3}
def trP (tr : KTm) : List (Nat × KV) → Prop
  | [] => True
  | (t, v) :: l => tget tr t = v ∧ trP tr l
omit [KGl] in
theorem trP_s {tr : KTm} : ∀ {l : List (Nat × KV)}, trP tr l → ∀ t v, (t, v) ∈ l → tget tr t = v
  | [], _, t, v, hm => by cases hm
  | (d, w) :: l, h, t, v, hm => by
    rcases List.mem_cons.1 hm with q | q
    · cases q; exact h.1
    · exact trP_s h.2 t v q
def litP (e0 : Exit) (lt : List (Nat × KV)) (n1 m1 : Nat) : K3 := fun e tr zm nx mx => chk (exB e e0) 400 (chk (nd (Nat.ble nx n1) (Nat.ble mx m1)) 401 (trP tr lt))
theorem wrun.litP {e0 : Exit} {lt : List (Nat × KV)} {n1 m1 : Nat} (h : wrun E mask 0 c tr zm nx mx (litP e0 lt n1 m1)) (hk : keepL mask lt = true)
    (hq : K e0 (mkTr lt) (mkZm []) n1 m1) : wrun E mask 0 c tr zm nx mx K := fun B N h1 h2 h3 h4 => by
  obtain ⟨e, tr1, zm1, nx1, mx1, q, f1, i1, g1⟩ := h B N h1 h2 h3 h4
  unfold Go.K.litP at q
  obtain ⟨q1, q6⟩ := chk_inv q
  obtain ⟨q2, q7⟩ := chk_inv q6
  obtain ⟨q2, q3⟩ := nd_iff.1 q2
  obtain rfl := exB_s q1
  have hn := Nat.le_of_ble_eq_true q2
  have hm1 := Nat.le_of_ble_eq_true q3
  have ht : TImp (tv' (tget tr1)) (tv' (tget (mkTr lt))) := fun t x C hx => by
    show R C (tv' (tget (mkTr lt)) t) _
    have hx' : R C (tv' (tget tr1) t) (.val x) := hx
    unfold tv' at hx' ⊢
    rcases tget_mk (t := t) (l := lt) with q4 | ⟨v, q4, q5⟩
    · rw [q4]; trivial
    · rw [q5, ← trP_s q7 t v q4]; exact hx'
  have hm : MImp (am zm1) (am (mkZm [])) := fun id b hb => by
    unfold am at hb
    rcases kb_mk (id := id) (l := []) with q4 | ⟨b', q4, q5⟩
    · rw [q4] at hb; cases hb
    · cases q4
  refine ⟨e, mkTr lt, mkZm [], n1, m1, hq, ⟨fun id hid => ?_, Nat.le_trans f1.nx hn, Nat.le_trans f1.mx hm1, fun _ h => absurd h (Nat.not_lt_zero _)⟩, INV.mk hk, g1.imp ht hm hn hm1⟩
  cases hz : am (mkZm []) id with
  | none => rfl
  | some b => obtain ⟨b', hb', _⟩ := hm id b hz; rw [f1.mb id (by omega)] at hb'; cases hb'
end
theorem kcsW {P : Program} {fid : FuncId} {s : KSpec} (hf : ∃ fn, P.funcs[fid]? = some fn ∧ (fn.name == "runtime.NumGoroutine") = false ∧ fn.body.isNone = false)
    (h : ∀ l K, s l K → ∃ E : KEnv, KOk E ∧ E.P = P ∧ ∃ w : KV, K w ∧ noRef w.v = true ∧ callR E (wrun E) 0 fid l .e 0 0 fun r _ _ _ => tK (kvb r w)) : KCS P fid s := by
  refine ⟨hf, fun l K hs => ?_⟩
  obtain ⟨E, hE, rfl, w, h1, h2, h4⟩ := h l K hs
  have hc : CSoundG E.P fid { pre := fun l' => @decide (l' = l.map KV.v) (Classical.propDecidable _), res := fun _ => w.v, fresh := true } := by
    have hme : MB (am (.e : KZ)) 0 := by rw [am_e]; exact emptyB 0
    refine ⟨hf, fun C l' vals hok hg hargs hpre => ?_⟩
    have hl : l' = l.map KV.v := @of_decide_eq_true _ (Classical.propDecidable _) hpre
    subst hl
    obtain ⟨_, r, zm', nx', mx', q1, q2, q3⟩ := callR_s (B := C.w.heap.size) (wrun_ok _) hE h4 hme (Nat.le_refl 0)
    have hz : GR C.w.heap.size (nx' + mx') C.pur (fun _ => none) (am .e) 0 :=
      ⟨⟨Nat.le_refl _, hok, (fun _ _ h => (by cases h)), (fun _ _ h => (by cases h)), (fun _ _ _ _ _ h => (by cases h)), (fun _ _ _ h => (by cases h)), hg⟩, (fun id b hb => by rw [am_e] at hb; cases hb), fun _ _ _ h => h⟩
    refine (q3 (nx' + mx') C.pur (fun _ => none) vals (by omega) (by omega) hz hargs).mono ?_
    rintro e w' ⟨val, he, C', M', hw, hR, _, hc⟩
    subst hw
    obtain rfl := kvb_s (tK_s q1)
    exact ⟨hc.kp.below, val, he, R.noref _ h2 hR⟩
  refine ⟨w, h1, fun B μ nx mx l0 hl0 => ?_⟩
  exact con_call (B := B) (μ := μ) (nx := nx) (mx := mx) hE.gn hc rfl hl0 (by rw [unL_mkL']; exact @decide_eq_true _ (Classical.propDecidable _) rfl)
end
end Go.K
