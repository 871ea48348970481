/- From pieces to a function. No condition. -/
import Derived.Test.YtkjoldifiniliaaK14
set_option linter.unusedVariables false
set_option linter.unusedSimpArgs false
set_option linter.constructorNameAsVariable false
namespace Go.K
open Go.Ab Go.RowKit Go.Y
noncomputable section
variable [KGl]
def sL : Code → Code
  | .seq a _ => a
  | c => c
def sR : Code → Code
  | .seq _ b => b
  | c => c
def blB : Code → Code
  | .block _ b => b
  | c => c
def lpB : Code → Code
  | .loop b => b
  | c => c
section
variable {E : KEnv} {B N mask : Nat}
/-- Two pieces in one run. -/
theorem KW.piece2 (hE : KOk E) {n : Nat} {a b c : Code} {lt0 : List (Nat × KV)} {lz0 : List (Nat × KBlk)} {n0 : Nat} {lt : List (Nat × KV)} {lz : List (Nat × KBlk)} {n1 : Nat} {Q : Exit → KTm → KZ → Nat → Prop}
    (h : krun E n mask 0 a (mkTr lt0) (mkZm lz0) n0 0 fun e tr zm nx mx => chk (exB e .normal) 0 (krun E n mask 0 b tr zm nx mx fun e tr zm nx _ => tK (stT .normal lt lz n1 e tr zm nx))) (hO : cOk N a = true) (hO2 : cOk N b = true) (h1 : nd (ltL n0 lz0) (nd (keepL mask lt0) (keepL mask lt)) = true)
    (hq : KW E B N mask c (mkTr lt) (mkZm lz) n1 Q) : KW E B N mask (.seq a (.seq b c)) (mkTr lt0) (mkZm lz0) n0 Q := by
  simp only [nd_iff] at h1
  obtain ⟨e, tr1, zm1, nx1, mx1, q1, q2, q3, q4⟩ := krun_ok (B := B) hE n mask 0 a _ _ _ _ _ N h hO (MB.mk h1.1) (Nat.zero_le _) (INV.mk h1.2.1)
  obtain ⟨q5, q6⟩ := chk_inv q1
  obtain rfl := exB_s q5
  refine KW.seq ⟨.normal, tr1, zm1, nx1, mx1, .inl ⟨rfl, ?_⟩, q2.mb, q2.nx, q3, q4⟩
  refine KW.seq ?_
  obtain ⟨e2, tr2, zm2, nx2, mx2, r1, r2, r3, r4⟩ := krun_ok (B := B) hE n mask 0 b _ _ _ _ _ N q6 hO2 q2.mb (Nat.zero_le _) q3
  have hs := tK_s r1
  unfold stT at hs
  simp only [nd_iff] at hs
  refine KW.weak (e0 := .normal) (tr2 := mkTr lt) (zm2 := mkZm lz) (nx2 := n1) ⟨e2, tr2, zm2, nx2, mx2, ⟨exB_s hs.1, fun t x C hx => ?_, fun id b hb => ?_, Nat.le_of_ble_eq_true hs.2.2.2⟩, r2.mb, r2.nx, r3, r4⟩ (INV.mk h1.2.2) (.inl ⟨rfl, hq⟩)
  · show R C (tget (mkTr lt) t).v (.val x)
    rcases tget_mk (t := t) (l := lt) with q | ⟨v, q1, q2⟩
    · rw [q]; trivial
    · rw [q2, ← trT_s hs.2.1 t v q1]; exact hx
  · unfold am at hb
    rcases kb_mk (id := id) (l := lz) with q | ⟨b', q1, q2⟩
    · rw [q] at hb; cases hb
    · rw [q2] at hb
      cases hb
      exact ⟨_, am_some (zmT_s hs.2.2.1 id b' q1), BImp.refl _⟩
end
/-- A function without arguments. -/
theorem csoundW {E : KEnv} (hE : KOk E) {fid mask : Nat} {fn : Func} {c : Code} {v : V} (hfn : E.P.funcs[fid]? = some fn) (hb : fn.body = some c)
    (h : ∀ B N, fn.ntmps ≤ N → KW E B N mask c .e .e 0 fun e tr zm nx => (e = .normal ∨ e = .ret) ∧ RAll E.P (tv' (tget tr)) (am zm) fn.results.toList v) (hv : noRef v = true) :
    CSoundG E.P fid { pre := fun l => l.isEmpty, res := fun _ => v, fresh := true } := by
  obtain ⟨hname, hcode⟩ := hE.fns.get hfn
  refine ⟨⟨fn, hfn, hname, by rw [hb]; rfl⟩, fun C l vals hok hg hargs hpre => ?_⟩
  obtain rfl : l = [] := by simpa using hpre
  obtain ⟨e, tr', zm', nx', mx', ⟨q1, q2⟩, q3, q4, q5, q6⟩ := h C.w.heap.size (0 + (fn.ntmps - 0)) (by omega)
  have hz : GR C.w.heap.size (nx' + mx') C.pur (fun _ => none) (am .e) 0 :=
    ⟨⟨Nat.le_refl _, hok, (fun _ _ h => nomatch h), (fun _ _ h => nomatch h), (fun _ _ _ _ _ h => nomatch h), (fun _ _ _ h => nomatch h), hg⟩, (fun id b hb => by rw [am_e] at hb; cases hb), fun _ _ _ h => h⟩
  have hc : GCall E.P C.w.heap.size fid [] (am .e) 0 v (am zm') nx' mx' := GCall.body (l := []) hfn hb (fun t x D hx => by show R D (tget .e t).v (.val x); rw [tget_e]; trivial) q6 q1 q2
  refine (hc (nx' + mx') C.pur (fun _ => none) vals (by omega) (by omega) hz hargs).mono ?_
  rintro e w' ⟨val, he, C', M', hw, hR, _, hc'⟩
  subst hw
  exact ⟨hc'.kp.below, val, he, R.noref _ hv hR⟩
end
end Go.K
