/- Runs in pieces: the states between them are written down whole. No condition. -/
import Derived.Test.YthnhbdidiglcgaaGreatDoorK21
set_option linter.unusedVariables false
set_option linter.unusedSimpArgs false
namespace Go.K
open Go.Ab Go.RowKit Go.Y
noncomputable section
variable [KGl]
def litT (e0 : Exit) (lt : List (Nat × KV)) (lz : List (Nat × KBlk)) (n1 m1 : Nat) : K3 := fun e tr zm nx mx => tK (nd (stT e0 lt lz n1 e tr zm nx) (Nat.ble mx m1))
section
variable {E : KEnv} {mask : Nat} {c : Code} {tr : KTm} {zm : KZ} {nx mx : Nat} {K : K3}
theorem wrun.litM {e0 : Exit} {lt : List (Nat × KV)} {lz : List (Nat × KBlk)} {n1 m1 : Nat} (h : wrun E mask 0 c tr zm nx mx (litT e0 lt lz n1 m1)) (hk : keepL mask lt = true)
    (hq : K e0 (mkTr lt) (mkZm lz) n1 m1) : wrun E mask 0 c tr zm nx mx K := fun B N h1 h2 h3 h4 => by
  obtain ⟨e, tr1, zm1, nx1, mx1, q, f1, i1, g1⟩ := h B N h1 h2 h3 h4
  have hs := tK_s q
  simp only [stT, nd_iff] at hs
  obtain ⟨hs, hmx⟩ := hs
  obtain rfl := exB_s hs.1
  have hn := Nat.le_of_ble_eq_true hs.2.2.2
  have hm1 := Nat.le_of_ble_eq_true hmx
  have ht : TImp (tv' (tget tr1)) (tv' (tget (mkTr lt))) := fun t x C hx => by
    show R C (tv' (tget (mkTr lt)) t) _
    have hx' : R C (tv' (tget tr1) t) (.val x) := hx
    unfold tv' at hx' ⊢
    rcases tget_mk (t := t) (l := lt) with q | ⟨v, q1, q2⟩
    · rw [q]; trivial
    · rw [q2, ← trT_s hs.2.1 t v q1]; exact hx'
  have hm : MImp (am zm1) (am (mkZm lz)) := fun id b hb => by
    unfold am at hb
    rcases kb_mk (id := id) (l := lz) with q | ⟨b', q1, q2⟩
    · rw [q] at hb; cases hb
    · rw [q2] at hb
      cases hb
      exact ⟨_, am_some (zmT_s hs.2.2.1 id b' q1), BImp.refl _⟩
  refine ⟨e, mkTr lt, mkZm lz, n1, m1, hq, ⟨fun id hid => ?_, Nat.le_trans f1.nx hn, Nat.le_trans f1.mx hm1, fun _ h => absurd h (Nat.not_lt_zero _)⟩, INV.mk hk, g1.imp ht hm hn hm1⟩
  cases hz : am (mkZm lz) id with
  | none => rfl
  | some b =>
    obtain ⟨b', hb', _⟩ := hm id b hz
    rw [f1.mb id (by omega)] at hb'
    cases hb'
theorem wrun.pieceM (hE : KOk E) {n : Nat} {e0 : Exit} {lt : List (Nat × KV)} {lz : List (Nat × KBlk)} {n1 m1 : Nat} (h : krun E n mask 0 c tr zm nx mx (litT e0 lt lz n1 m1)) (hk : keepL mask lt = true)
    (hq : K e0 (mkTr lt) (mkZm lz) n1 m1) : wrun E mask 0 c tr zm nx mx K := wrun.litM (wrun_of hE h) hk hq
theorem wloop.pieceM (hE : KOk E) {n : Nat} {lt : List (Nat × KV)} {lz : List (Nat × KBlk)} {n1 m1 : Nat} (hk : keepL mask lt = true) (hq : wloop E mask 0 c (mkTr lt) (mkZm lz) n1 m1 K) :
    ∀ (m : Nat) (tr : KTm) (zm : KZ) (nx mx : Nat), repR E n mask 0 c (m + 1) tr zm nx mx (fun tr zm nx mx => litT .normal lt lz n1 m1 .normal tr zm nx mx) → wloop E mask 0 c tr zm nx mx K
  | 0, tr, zm, nx, mx, h => wloop.round (wrun.litM (e0 := .normal) (lt := lt) (lz := lz) (n1 := n1) (m1 := m1) ((wrun_of hE (show krun E n mask 0 c tr zm nx mx _ from h)).mono fun e tr1 zm1 nx1 mx1 q => by
    obtain ⟨q1, q2⟩ := chk_inv q
    rw [exB_s q1]; exact q2) hk ⟨rfl, hq⟩)
  | m + 1, tr, zm, nx, mx, h => wloop.round ((wrun_of hE (show krun E n mask 0 c tr zm nx mx _ from h)).mono fun e tr1 zm1 nx1 mx1 q => by
    obtain ⟨q1, q2⟩ := chk_inv q
    exact ⟨exB_s q1, wloop.pieceM hE hk hq m _ _ _ _ q2⟩)
theorem wloop.endM (hE : KOk E) {n : Nat} {e0 : Exit} {lt : List (Nat × KV)} {lz : List (Nat × KBlk)} {n1 m1 : Nat} (m : Nat) (hk : keepL mask lt = true) (hn : exB e0 .normal = false) (hq : K e0 (mkTr lt) (mkZm lz) n1 m1)
    (h : repR E n mask 0 c m tr zm nx mx (fun tr zm nx mx => krun E n mask 0 c tr zm nx mx (litT e0 lt lz n1 m1))) : wloop E mask 0 c tr zm nx mx K := by
  have key : ∀ (m : Nat) (tr : KTm) (zm : KZ) (nx mx : Nat), repR E n mask 0 c m tr zm nx mx (fun tr zm nx mx => krun E n mask 0 c tr zm nx mx (litT e0 lt lz n1 m1)) → wloop E mask 0 c tr zm nx mx K := by
    intro m
    induction m with
    | zero =>
      intro tr zm nx mx h
      exact wloop.out (wrun.litM (wrun_of hE h) hk ⟨fun he => by rw [he] at hn; revert hn; decide, hq⟩)
    | succ m ih =>
      intro tr zm nx mx h
      exact wloop.round ((wrun_of hE (show krun E n mask 0 c tr zm nx mx _ from h)).mono fun e tr1 zm1 nx1 mx1 q => by
        obtain ⟨q1, q2⟩ := chk_inv q
        exact ⟨exB_s q1, ih _ _ _ _ q2⟩)
  exact key m _ _ _ _ h
end
theorem callR_of {E : KEnv} {fid lo : Nat} {l : List KV} {zm : KZ} {nx mx : Nat} {K : KV → KZ → Nat → Nat → Prop} {c : Code} {rs : List ResultVar} {lt : List (Nat × KV)} {run : RUN} (hf : fnB E.P fid = some (c, rs))
    (hb : ∀ F : KTm → Prop, bindA (E.km fid) l 0 .e F = F (mkTr lt)) (h : run (E.km fid) lo c (mkTr lt) zm nx mx (retK E.P rs K)) : callR E run lo fid l zm nx mx K := by
  show os 174 _ (fnB E.P fid)
  rw [hf]
  show bindA (E.km fid) l 0 .e (fun tr => run (E.km fid) lo c tr zm nx mx (retK E.P rs K))
  rw [hb]
  exact h
end
end Go.K
