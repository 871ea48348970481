/- Pieces of code, counting loops, contracts. No condition. -/
import Derived.Test.YtkjoldifiniliaaY9
set_option linter.unusedVariables false
set_option linter.unusedSimpArgs false
set_option linter.constructorNameAsVariable false
namespace Go.Y
open Go.Ab Go.RowKit
noncomputable section
variable [Gl]
section
variable {P : Program} {ct : CTab} {B N : Nat}

/-! ### Pieces of code -/
def cFst (c : Code) : Code := match c with
  | .seq a _ => a
  | c => c
def cSnd (c : Code) : Code := match c with
  | .seq _ b => b
  | c => c
def cBdy (c : Code) : Code := match c with
  | .block _ b => b
  | .loop b => b
  | .scope b => b
  | c => c
def cIsSeq (c : Code) : Bool := match c with
  | .seq _ _ => true
  | _ => false
def cIsLoop (c : Code) : Bool := match c with
  | .loop _ => true
  | _ => false
def cIsBlk (i : Nat) (c : Code) : Bool := match c with
  | .block j _ => Nat.beq j i
  | _ => false
omit [Gl] in
theorem cIsSeq_eq {c : Code} (h : cIsSeq c = true) : c = .seq (cFst c) (cSnd c) := by
  cases c <;> first | rfl | cases h
omit [Gl] in
theorem cIsLoop_eq {c : Code} (h : cIsLoop c = true) : c = .loop (cBdy c) := by
  cases c <;> first | rfl | cases h
omit [Gl] in
theorem cIsBlk_eq {i : Nat} {c : Code} (h : cIsBlk i c = true) : c = .block i (cBdy c) := by
  cases c <;> first
    | cases h
    | (have := Nat.eq_of_beq_eq_true h; subst this; rfl)
section
variable {tm tm1 : Tm} {zm zm1 : Zm} {nx : Nat} {K : K3} {c : Code}
theorem WR.seq' (hc : cIsSeq c = true) (h : WR P B N (cFst c) tm zm nx (thenK (fun tm zm nx => WR P B N (cSnd c) tm zm nx K) K)) : WR P B N c tm zm nx K := by
  rw [cIsSeq_eq hc]; exact WR.seq h
theorem WR.block' {i : Nat} (hc : cIsBlk i c = true) (h : WR P B N (cBdy c) tm zm nx (blockK i K)) : WR P B N c tm zm nx K := by
  rw [cIsBlk_eq hc]; exact WR.block h
/-- Less is known. -/
theorem WR.weak (hE : Env P ct) (hwt : WkT nx tm tm1) (hwz : WkZ nx zm zm1) (hkb : KB zm nx) (h : WR P B N c tm1 zm1 nx K) : WR P B N c tm zm nx K := by
  obtain ⟨e, tm', zm', nx', k1, k2, k3, k4⟩ := h
  refine ⟨e, tm', zm', nx', k1, k2, k3, fun H C M a hH hz ht => ?_⟩
  obtain ⟨C3, M3, q1, q2, q3, q4⟩ := cut_state hE.gn (by omega) hz hkb hz ht (YC.refl C M zm nx) hwt hwz
  have h5 := k4 H C3 M3 a hH q2 q3
  rw [q1] at h5
  refine wp_mono h5 ?_
  rintro e' a' w' ⟨rfl, C', M', rfl, hf⟩
  exact ⟨rfl, C', M', rfl, hf.yr, hf.yt, q4.trans hf.yc (Nat.le_refl _) k3⟩
/-- A loop that counts. -/
theorem WR.count (hE : Env P ct) (nb n : Nat) (S : Nat → Tm) (Z : Nat → Zm) (hkb : KB zm nx) (hc : cIsLoop c = true) (hwt : WkT nx tm (S 0)) (hwz : WkZ nx zm (Z 0))
    (step : ∀ t, t < n → WR P B N (cBdy c) (S t) (Z t) nx (fun e tm' zm' nx' => nx' ≤ nb ∧ e = .normal ∧ WkT nx tm' (S (t + 1)) ∧ WkZ nx zm' (Z (t + 1))))
    (out : WR P B N (cBdy c) (S n) (Z n) nx (fun e tm' zm' nx' => nx' ≤ nb ∧ e ≠ .normal ∧ K e tm' zm' nb)) : WR P B N c tm zm nx K := by
  rw [cIsLoop_eq hc]
  refine WR.weak hE hwt hwz hkb ?_
  refine WR.loop hE nb (fun m tm zm => ∃ t, t + m = n ∧ tm = S t ∧ zm = Z t) ?_ n (S 0) (Z 0) ⟨0, by omega, rfl, rfl⟩ hwz.kb
  rintro m tm2 zm2 ⟨t, ht, rfl, rfl⟩ hk
  cases m with
  | zero =>
    obtain rfl : t = n := by omega
    refine out.mono fun e tm' zm' nx' _ h => ⟨h.1, fun he => absurd he h.2.1, fun _ => h.2.2⟩
  | succ m =>
    refine (step t (by omega)).mono fun e tm' zm' nx' _ h => ⟨h.1, fun _ => ⟨m, S (t + 1), Z (t + 1), by omega, h.2.2.1, h.2.2.2, t + 1, by omega, rfl, rfl⟩, fun he => absurd h.2.1 he⟩
/-- By a run, and what is to be shown behind it. -/
theorem WR.go (hE : Env P ct) {u : Bool} {n nt : Nat} (hN : nt ≤ N) (hO : cOk nt c = true) (hkb : KB zm nx) {Q : K3} (h : Go.Y.run P Gl.G ct u n c tm zm nx Q) (hQ : ∀ e tm zm nx, KB zm nx → Q e tm zm nx → K e tm zm nx) : WR P B N c tm zm nx K :=
  (WR.run hE h (cOk_mono hN hO) hkb).mono hQ
end

/-! ### Contracts -/
def valK (Q : V → Prop) (v : V) (zm : Zm) (_ : Nat) : Prop := Q (frz (gm zm) 12 v)
def retV (c : CSpec) (l : List V) (v : V) : Prop := v.le (c.res l) ∧ (c.fresh = true → v.own)
/-- Without loops: the run says it all. -/
theorem csound_run (hE : Env P ct) {f : FuncId} {fn : Func} {c : Code} {s : CSpec} (u : Bool) (n : Nat) (hf : P.funcs[f]? = some fn) (hb : fn.body = some c)
    (h : ∀ args, s.pre args = true → Go.Y.run P Gl.G ct u n c (bindT (args.map borrow) 0 .e) .e 0 (retK P fn.results.toList (valK (retV s args)))) : CSoundG P f s :=
  csound_of hE hf hb fun B N args hp hN => WR.run hE (h args hp) (cOk_mono hN ((hE.fns.get hf).2 c hb)) (fun id _ => gm_e id)
end
end
end Go.Y
