/- The run is right: regions in order. No condition. -/
import Derived.Test.YtkjoldifiniliaaZ8
set_option linter.unusedVariables false
set_option linter.unusedSimpArgs false
set_option linter.constructorNameAsVariable false
namespace Go.Ab
open Go.RowKit
noncomputable section
section
variable {P : Program} {B : Nat} {FT : FTb} {T : Tr TI} {r : RUN}

/-- A call operation, whatever memory it is shown. -/
theorem call_odoes (hr : RunOK P B r) (hF : FTok P FT) (hT : TTok P T) {o : Oper} {f : Operand} {args : Array Operand} {ts : Array TypeId} {tm zm : Tr X} {nx : Pth} {K : X → Tr X → Pth → Prop} (ho : o.op = .call ⟨.value f, args, ts⟩)
    (hws : WFS P tm) (hwm : WFM P zm) (hkb : KB P zm nx) (hwl : ∀ y ∈ evL tm args.toList, WF P y) (h : callZ r FT T (evO tm f) (evL tm args.toList) zm nx K) :
    ∃ v zm' nx', K v zm' nx' ∧ WFT P v ∧ WFM P zm' ∧ KB P zm' nx' ∧ num nx ≤ num nx' ∧ ODoes P B o tm zm nx v zm' nx' := by
  have hwf : WF P (evO tm f) := by
    obtain ⟨fid, caps, hfe, _⟩ := asFn_inv h
    exact (evO_wf hws f).wf (by intro l e; rw [hfe] at e; cases e)
  obtain ⟨fid, caps, fn, hfe, hfn, hname, hbody, v, zm', nx', k1, k2, k3, k6, k4, hcall⟩ := callZ_inv hr hF hT h hwf hwl hwm hkb
  refine ⟨v, zm', nx', k1, k2, k3, k6, k4, fun H C M ρc hH hz hx => ?_⟩
  have h0 := hx f (by simp [ho, Op.operands, Call.operands])
  rw [← evO_toV, hfe] at h0
  obtain ⟨cs, h1, h2⟩ := h0
  have h1' : ρc f = .func (.func fid) #[] cs := h1
  have h3 : R C (X.toVL P (evL tm args.toList)) (.list (args.toList.map ρc)) := by
    rw [evL_toV]
    exact R.mkL (C := C) (ρ := rho P tm) (ρc := ρc) args.toList fun x hxx => hx x (by simp [ho, Op.operands, Call.operands]; exact .inr (by simpa using hxx))
  have hrun : (execOp ρc o).run P C.w = .ok (.enter fid (args.toList.map ρc ++ cs.toList).toArray) C.w := by
    simp only [execOp, ho, resolve, h1', Deferred.ofValue, Sem.run_bind, Sem.run_pure, Result.andThen_ok, invoke, callFunc, run_program, hfn, hname, hbody, Bool.false_eq_true, if_false]
    simp
  unfold Does
  rw [hrun]
  exact (hcall H C M _ _ hH hz h3 h2).mono fun e w' ⟨v, he, hp⟩ => ⟨v, he, hp⟩

/-- An operation of a region that is carried out in order. -/
theorem zop_odoes (hr : RunOK P B r) (hF : FTok P FT) (hT : TTok P T) {o : Oper} {tm zm : Tr X} {nx : Pth} {K : KT} (hws : WFS P tm) (hwm : WFM P zm) (hkb : KB P zm nx) (h : zop (seqCL r FT T) T tm o.op zm nx K) :
    ∃ v zm' nx' up rd, K v zm' nx' up rd ∧ WFT P v ∧ WFM P zm' ∧ KB P zm' nx' ∧ num nx ≤ num nx' ∧ ODoes P B o tm zm nx v zm' nx' := by
  rcases zop_inv (B := B) hT hwm hws h with ⟨v, zm', nx', up, rd, e, hs, hk⟩ | ⟨f, args, ts, ho, hwl, hc⟩
  · exact ⟨v, zm', nx', up, rd, hk, hs.wf, hs.wfm, hs.kb hkb, by rw [hs.nxt]; omega, hs.does⟩
  · obtain ⟨v, zm', nx', k1, k2, k3, k6, k4, k5⟩ := call_odoes hr hF hT ho hws hwm hkb hwl (show callZ r FT T (evO tm f) (evL tm args.toList) zm nx (fun v zm nx => K v zm nx [] []) from hc)
    exact ⟨v, zm', nx', [], [], k1, k2, k3, k6, k4, k5⟩

/-- What a region comes to, in order. -/
def RRuns (P : Program) (B : Nat) (ops : Array Oper) (i n : Nat) (tm zm : Tr X) (nx : Pth) (N : Nat) (tm' zm' : Tr X) (nx' : Pth) : Prop :=
  ∀ (H : Nat) (C : Ctx) (M : Mem) (a : Act) (Q : Exit → Act → World → Prop), num nx' ≤ H → ZR P B H C M zm nx → ZT P C tm a N → (∀ C' M' a', ZF P B H C M zm nx N tm' zm' nx' C' M' a' → Q .normal a' C'.w) → wpOps P ops Q (List.range' i n) a C.w

theorem rops_runs (hr : RunOK P B r) (hF : FTok P FT) (hT : TTok P T) {ops : Array Oper} {N : Nat} {K : Tr X → Tr X → Pth → Prop} :
    ∀ (l : List Oper) (i : Nat) (tm zm : Tr X) (nx : Pth), (∀ k, ops[i + k]? = l[k]?) → (∀ o ∈ l, dOk N o.dst = true) → rops (seqCL r FT T) T ops.toList l tm zm nx K → WFS P tm → WFM P zm → KB P zm nx →
      ∃ tm' zm' nx', K tm' zm' nx' ∧ WFS P tm' ∧ WFM P zm' ∧ KB P zm' nx' ∧ num nx ≤ num nx' ∧ RRuns P B ops i l.length tm zm nx N tm' zm' nx'
  | [], i, tm, zm, nx, _, _, h, hws, hwm, hkb => ⟨tm, zm, nx, h, hws, hwm, hkb, Nat.le_refl _, fun H C M a Q hH hz ht hQ => hQ C M a ⟨hz, ht, ZC.refl C M zm nx⟩⟩
  | o :: l, i, tm, zm, nx, hops, hD, h, hws, hwm, hkb => by
    have hop : ops[i]? = some o := by have := hops 0; simpa using this
    have hops' : ∀ k, ops[i + 1 + k]? = l[k]? := by
      intro k
      have := hops (k + 1)
      simp only [List.getElem?_cons_succ] at this
      rw [← this]; congr 1; omega
    have hd := hD o (by simp)
    have hD' : ∀ o ∈ l, dOk N o.dst = true := fun o ho => hD o (by simp [ho])
    have h0 : grdK ops.toList o.guard tm (fun tm => zop (seqCL r FT T) T tm o.op zm nx fun v zm nx _ _ => putD o.dst v tm fun tm => rops (seqCL r FT T) T ops.toList l tm zm nx K) (fun tm => putD o.dst (.tup []) tm fun tm => rops (seqCL r FT T) T ops.toList l tm zm nx K) := h
    have hwt : WFT P (.tup []) := .tup (by intro y hy; cases hy)
    have hput : ∀ {v : X} {tm : Tr X}, WFS P tm → WFT P v → WFS P (putT o.dst v tm) := by
      intro v tm hws hv
      unfold putT
      split
      · exact wfs_set hws hv
      · exact hws
    rcases grdK_pure (P := P) h0 with ⟨hw, _, tm1, hsm, h1⟩ | ⟨hw, _, tm1, hsm, h1⟩
    · obtain ⟨v, zm1, nx1, up, rd, k1, k2, k3, k6, k5, k4⟩ := zop_odoes hr hF hT (hsm.wf hws) hwm hkb h1
      rw [putD_eq] at k1
      obtain ⟨tm', zm', nx', q1, q2, q3, q6, q5, q4⟩ := rops_runs hr hF hT l (i + 1) _ zm1 nx1 hops' hD' k1 (hput (hsm.wf hws) k2) k3 k6
      refine ⟨tm', zm', nx', q1, q2, q3, q6, by omega, fun H C M a Q hH hz ht hQ => ?_⟩
      rw [List.length_cons, List.range'_succ, wpOps_cons]
      have ht1 := ht.same hsm
      refine wpOp_do hop (hw C a N ht) (Does.wp (k4 H C M a.eval (by omega) hz fun x _ => ht1.operand x) ?_)
      rintro val w' ⟨C', M', rfl, h2, h3, h4⟩
      exact q4 H C' M' _ Q hH h3 ((ht1.keep h4.kp.toKeep).put hd h2 k2) fun C'' M'' a'' hf => hQ C'' M'' a'' ⟨hf.zr, hf.zt, h4.trans hf.zc k5 q5⟩
    · rw [putD_eq] at h1
      obtain ⟨tm', zm', nx', q1, q2, q3, q6, q5, q4⟩ := rops_runs hr hF hT l (i + 1) _ zm nx hops' hD' h1 (hput (hsm.wf hws) hwt) hwm hkb
      refine ⟨tm', zm', nx', q1, q2, q3, q6, q5, fun H C M a Q hH hz ht hQ => ?_⟩
      rw [List.length_cons, List.range'_succ, wpOps_cons]
      refine wpOp_skip hop (hw C a N ht) ?_
      exact q4 H C M _ Q hH hz ((ht.same hsm).put hd ⟨#[], rfl, rfl⟩ hwt) fun C'' M'' a'' hf => hQ C'' M'' a'' ⟨hf.zr, hf.zt, hf.zc⟩
end
end
end Go.Ab
