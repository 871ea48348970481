/- The run is right: code; what a run shows of a function. No condition. -/
import Derived.Test.YtkjoldifiniliaaZ11
set_option linter.unusedVariables false
set_option linter.unusedSimpArgs false
set_option linter.constructorNameAsVariable false
namespace Go.Ab
open Go.RowKit
noncomputable section
section
variable {P : Program} {B : Nat} {FT : FTb} {T : Tr TI} {r : RUN}

theorem drw_runs (hr : RunOK P B r) (hF : FTok P FT) (hT : TTok P T) (hm : P.follows .mixedOrders = true) {id : Nat} {ops : Array Oper} {tm zm : Tr X} {nx : Pth} {K : K3} {N : Nat} (h : drwK r FT T ops tm zm nx K)
    (hD : ∀ o ∈ ops.toList, dOk N o.dst = true) (hws : WFS P tm) (hwm : WFM P zm) (hkb : KB P zm nx) :
    ∃ tm' zm' nx', K .normal tm' zm' nx' ∧ WFS P tm' ∧ WFM P zm' ∧ KB P zm' nx' ∧ num nx ≤ num nx' ∧ Runs P B (.region id ops true) tm zm nx N .normal tm' zm' nx' := by
  have hz0 : ZTr P B ops N tm zm nx tm zm nx [] [] := ⟨trivial, fun _ => rfl, rfl, Nat.le_refl _, hws, hwm, hkb, fun M hM => ⟨trivial, hM, fun _ _ h => ⟨rfl, h⟩⟩⟩
  obtain ⟨tm', zm', nx', tr, zs, k1, hz, hlen⟩ := rdraw_tr hr hF hT ops.toList tm zm nx [] [] (by simp) hD hz0 h
  obtain ⟨hdr, hk⟩ := ifP_inv k1
  have hlen' : tr.length = ops.size := by simpa using hlen
  refine ⟨tm', zm', nx', hk, hz.wfs, hz.wfm, hz.kb, hz.le, fun H C M a hH hzr ht => ?_⟩
  obtain ⟨hv, hsub, hfr⟩ := hz.mem M hzr.sub
  obtain ⟨hTa, hMa, hback⟩ := drawOk_sound (drawZ_ok hz.corr hdr)
  refine wp_region_any hm ?_
  obtain ⟨hsd, hkd⟩ := hzr.sr.drew
  have hl0 : (fun i => (Array.replicate ops.size false).getD i false) = fun _ => false := by
    funext i
    simp only [Array.getD_eq_getD_getElem?, Array.getElem?_replicate]
    split <;> rfl
  have hno : ∀ {K X : Type} (wr : TE → K → Option X) (base : K → X), look wr base (fun _ => false) tr = base := fun wr base => funext fun k => look_none k tr (fun i _ => rfl)
  have hps : PS B { C with w := C.w.drew } N (tmV P tm) M tr (fun _ => false) a { C with w := C.w.drew } := by
    refine ⟨Kp.refl B _, by rw [hno]; exact hsd, fun t => by rw [hno]; exact R.keep hkd.toKeep _ _ (ht.tv t), fun id h => .inl h, ht.size⟩
  have hnx := hz.nxe
  have hQ : ∀ (a' : Act) (C' : Ctx), a'.defers = a.defers → PS B { C with w := C.w.drew } N (tmV P tm) M tr (fun _ => true) a' C' → ZFin P B H C M zm nx N .normal tm' zm' nx' .normal a' C'.w := by
    intro a' C' hd hps'
    have hal : ∀ id, C'.al id → C.al id ∨ (num nx ≤ id ∧ id < num nx') := fun id hid => by
      rcases hps'.al id hid with h1 | ⟨l, te, r, e, _, h2, h3⟩
      · exact .inl h1
      · have := (nextId_le hv).2 te (by rw [e]; simp)
        exact .inr ⟨by omega, by omega⟩
    refine ⟨rfl, C', _, rfl, ⟨hps'.sr, hsub, fun id h1 h2 h3 => ?_, hz.wfm⟩, ⟨fun t => ?_, hps'.size, by rw [hd]; exact ht.defers, hz.wfs⟩, ⟨hkd.trans hps'.kp, hal, fun id hid hn => hfr id (by omega) hn⟩⟩
    · rcases hal id h3 with h4 | h4
      · exact hzr.al id (by have := hz.le; omega) h2 h4
      · omega
    · have := hps'.tm t
      rw [← hz.tv t] at this; exact this
  refine any_region (C0 := { C with w := C.w.drew }) (G := fun _ => .unk) hv hlen' hTa hMa hback (fun id h1 h2 => hzr.al id h1 (by omega)) (fun g C' hk' => trivial) a.defers hQ ops.size (Array.replicate ops.size false) a _ (by simp) ?_ ?_ rfl (by rw [hl0]; exact hps)
  · have := List.countP_le_length (p := fun i => !(Array.replicate ops.size false).getD i false) (l := List.range ops.size)
    simpa using this
  · intro l te r e hs'
    rw [hl0] at hs'; cases hs'

/-- A loop, round by round. -/
inductive LoopOut (P : Program) (B : Nat) (c : Code) (N : Nat) (e : Exit) (tm' zm' : Tr X) (nx' : Pth) : Nat → Tr X → Tr X → Pth → Prop where
  | out {k : Nat} {tm zm : Tr X} {nx : Pth} (h : Runs P B c tm zm nx N e tm' zm' nx') (he : e ≠ .normal) (hle : num nx ≤ num nx') : LoopOut P B c N e tm' zm' nx' (k + 1) tm zm nx
  | round {k : Nat} {tm zm tm1 zm1 : Tr X} {nx nx1 : Pth} (h : Runs P B c tm zm nx N .normal tm1 zm1 nx1) (hle : num nx ≤ num nx1) (h2 : LoopOut P B c N e tm' zm' nx' k tm1 zm1 nx1) : LoopOut P B c N e tm' zm' nx' (k + 1) tm zm nx
theorem LoopOut.le {c : Code} {N k : Nat} {e : Exit} {tm zm tm' zm' : Tr X} {nx nx' : Pth} (h : LoopOut P B c N e tm' zm' nx' k tm zm nx) : num nx ≤ num nx' := by
  induction h with
  | out h he hle => exact hle
  | round h hle h2 ih => omega
theorem LoopOut.runs {c : Code} {N k : Nat} {e : Exit} {tm zm tm' zm' : Tr X} {nx nx' : Pth} (h : LoopOut P B c N e tm' zm' nx' k tm zm nx) : Runs P B (.loop c) tm zm nx N e tm' zm' nx' := by
  intro H C M a hH hz ht
  refine wp_loop_ghost (fun n a w => ∃ C' M' tm1 zm1 nx1, C'.w = w ∧ ZR P B H C' M' zm1 nx1 ∧ ZT P C' tm1 a N ∧ ZC P B H C M zm nx C' M' zm1 nx1 ∧ num nx ≤ num nx1 ∧ LoopOut P B c N e tm' zm' nx' n tm1 zm1 nx1) k ⟨C, M, tm, zm, nx, rfl, hz, ht, ZC.refl C M zm nx, Nat.le_refl _, h⟩ ?_
  rintro n a w ⟨C1, M1, tm1, zm1, nx1, rfl, h1, h2, h3, h4, h5⟩
  cases h5 with
  | out hr he hle =>
    refine wp_mono (hr H C1 M1 a hH h1 h2) ?_
    rintro e' a' w' ⟨rfl, C2, M2, rfl, hf⟩
    have hq : ZFin P B H C M zm nx N e' tm' zm' nx' e' a' C2.w := ⟨rfl, C2, M2, rfl, hf.zr, hf.zt, h3.trans hf.zc h4 hle⟩
    cases e' with
    | normal => exact absurd rfl he
    | _ => exact hq
  | @round k _ _ tm2 zm2 _ nx2 hr hle h6 =>
    refine wp_mono (hr H C1 M1 a (by have := h6.le; omega) h1 h2) ?_
    rintro e' a' w' ⟨rfl, C2, M2, rfl, hf⟩
    exact ⟨k, by omega, C2, M2, tm2, zm2, nx2, rfl, hf.zr, hf.zt, h3.trans hf.zc h4 hle, by omega, h6⟩
theorem loop_out {c : Code} {N : Nat} {K : K3} : ∀ (n : Nat), (∀ m, m < n → RunOK P B (run FT T m)) → codeOk N c = true → ∀ (tm zm : Tr X) (nx : Pth), run FT T n (.loop c) tm zm nx K → WFS P tm → WFM P zm → KB P zm nx →
    ∃ e tm' zm' nx' k, K e tm' zm' nx' ∧ WFS P tm' ∧ WFM P zm' ∧ KB P zm' nx' ∧ LoopOut P B c N e tm' zm' nx' k tm zm nx
  | 0, _, _, tm, zm, nx, h, _, _, _ => False.elim h
  | n + 1, IH, hO, tm, zm, nx, h, hws, hwm, hkb => by
    obtain ⟨e, tm1, zm1, nx1, k1, k2, k3, k4, k5, k6⟩ := IH n (by omega) c tm zm nx (seqK (run FT T n) (.loop c) K) N h hO hws hwm hkb
    cases e with
    | normal =>
      obtain ⟨e2, tm2, zm2, nx2, k, q1, q2, q3, q4, q5⟩ := loop_out n (fun m hm => IH m (by omega)) hO tm1 zm1 nx1 k1 k2 k3 k4
      exact ⟨e2, tm2, zm2, nx2, k + 1, q1, q2, q3, q4, .round k6 k5 q5⟩
    | exit i => exact ⟨_, tm1, zm1, nx1, 1, k1, k2, k3, k4, .out k6 (by intro h; cases h) k5⟩
    | goto i => exact ⟨_, tm1, zm1, nx1, 1, k1, k2, k3, k4, .out k6 (by intro h; cases h) k5⟩
    | ret => exact ⟨_, tm1, zm1, nx1, 1, k1, k2, k3, k4, .out k6 (by intro h; cases h) k5⟩
    | panic c => exact ⟨_, tm1, zm1, nx1, 1, k1, k2, k3, k4, .out k6 (by intro h; cases h) k5⟩
    | outgrown => exact ⟨_, tm1, zm1, nx1, 1, k1, k2, k3, k4, .out k6 (by intro h; cases h) k5⟩

theorem run_ok (hF : FTok P FT) (hT : TTok P T) (hm : P.follows .mixedOrders = true) (n : Nat) : RunOK P B (run FT T n) := by
  induction n using Nat.strongRecOn with
  | _ n IH =>
  cases n with
  | zero => intro c tm zm nx K N h; exact False.elim h
  | succ n =>
    have ih := IH n (by omega)
    intro c
    cases c with
    | skip => intro tm zm nx K N h _ hws hwm hkb; exact ⟨.normal, tm, zm, nx, h, hws, hwm, hkb, Nat.le_refl _, fun H C M a _ hz ht => wp_skip ⟨rfl, C, M, rfl, hz, ht, ZC.refl C M zm nx⟩⟩
    | label l => intro tm zm nx K N h _ hws hwm hkb; exact ⟨.normal, tm, zm, nx, h, hws, hwm, hkb, Nat.le_refl _, fun H C M a _ hz ht => wp_label ⟨rfl, C, M, rfl, hz, ht, ZC.refl C M zm nx⟩⟩
    | exit i => intro tm zm nx K N h _ hws hwm hkb; exact ⟨.exit i, tm, zm, nx, h, hws, hwm, hkb, Nat.le_refl _, fun H C M a _ hz ht => wp_exit ⟨rfl, C, M, rfl, hz, ht, ZC.refl C M zm nx⟩⟩
    | ret => intro tm zm nx K N h _ hws hwm hkb; exact ⟨.ret, tm, zm, nx, h, hws, hwm, hkb, Nat.le_refl _, fun H C M a _ hz ht => wp_ret ⟨rfl, C, M, rfl, hz, ht, ZC.refl C M zm nx⟩⟩
    | region id ops draw =>
      intro tm zm nx K N h hO hws hwm hkb
      have hD : ∀ o ∈ ops.toList, dOk N o.dst = true := List.all_eq_true.1 hO
      cases draw with
      | true =>
        obtain ⟨tm', zm', nx', k1, k2, k3, k4, k5, k6⟩ := drw_runs ih hF hT hm (show drwK (run FT T n) FT T ops tm zm nx K from h) hD hws hwm hkb
        exact ⟨.normal, tm', zm', nx', k1, k2, k3, k4, k5, k6⟩
      | false =>
        obtain ⟨tm', zm', nx', k1, k2, k3, k4, k5, k6⟩ := rops_runs ih hF hT (ops := ops) (N := N) ops.toList 0 tm zm nx (by simp) hD (show rops (seqCL (run FT T n) FT T) T ops.toList ops.toList tm zm nx (K .normal) from h) hws hwm hkb
        refine ⟨.normal, tm', zm', nx', k1, k2, k3, k4, k5, fun H C M a hH hz ht => wp_region ?_⟩
        rw [List.range_eq_range', ← Array.length_toList]
        exact k6 H C M a _ hH hz ht fun C' M' a' hf => ⟨rfl, C', M', rfl, hf⟩
    | seq x y =>
      intro tm zm nx K N h hO hws hwm hkb
      simp only [codeOk, Bool.and_eq_true] at hO
      obtain ⟨e, tm1, zm1, nx1, k1, k2, k3, k4, k5, k6⟩ := ih x tm zm nx (seqK (run FT T n) y K) N h hO.1 hws hwm hkb
      cases e with
      | normal =>
        obtain ⟨e2, tm2, zm2, nx2, q1, q2, q3, q4, q5, q6⟩ := ih y tm1 zm1 nx1 K N k1 hO.2 k2 k3 k4
        refine ⟨e2, tm2, zm2, nx2, q1, q2, q3, q4, by omega, fun H C M a hH hz ht => wp_seq (wp_mono (k6 H C M a (by omega) hz ht) ?_)⟩
        rintro e' a' w' ⟨rfl, C', M', rfl, hf⟩
        refine wp_mono (q6 H C' M' a' hH hf.zr hf.zt) ?_
        rintro e' a'' w' ⟨rfl, C'', M'', rfl, hf'⟩
        exact ⟨rfl, C'', M'', rfl, hf'.zr, hf'.zt, hf.zc.trans hf'.zc k5 q5⟩
      | exit i => exact ⟨_, tm1, zm1, nx1, k1, k2, k3, k4, k5, fun H C M a hH hz ht => wp_seq (wp_mono (k6 H C M a hH hz ht) (by rintro e' a' w' ⟨rfl, hf⟩; exact ⟨rfl, hf⟩))⟩
      | goto i => exact ⟨_, tm1, zm1, nx1, k1, k2, k3, k4, k5, fun H C M a hH hz ht => wp_seq (wp_mono (k6 H C M a hH hz ht) (by rintro e' a' w' ⟨rfl, hf⟩; exact ⟨rfl, hf⟩))⟩
      | ret => exact ⟨_, tm1, zm1, nx1, k1, k2, k3, k4, k5, fun H C M a hH hz ht => wp_seq (wp_mono (k6 H C M a hH hz ht) (by rintro e' a' w' ⟨rfl, hf⟩; exact ⟨rfl, hf⟩))⟩
      | panic c => exact ⟨_, tm1, zm1, nx1, k1, k2, k3, k4, k5, fun H C M a hH hz ht => wp_seq (wp_mono (k6 H C M a hH hz ht) (by rintro e' a' w' ⟨rfl, hf⟩; exact ⟨rfl, hf⟩))⟩
      | outgrown => exact ⟨_, tm1, zm1, nx1, k1, k2, k3, k4, k5, fun H C M a hH hz ht => wp_seq (wp_mono (k6 H C M a hH hz ht) (by rintro e' a' w' ⟨rfl, hf⟩; exact ⟨rfl, hf⟩))⟩
    | cond c x y =>
      intro tm zm nx K N h hO hws hwm hkb
      simp only [codeOk, Bool.and_eq_true] at hO
      obtain ⟨b, tm1, hb, hsm, h1⟩ := condK_inv (P := P) (show condK tm c (fun b tm => bRec b (run FT T n x tm zm nx K) (run FT T n y tm zm nx K)) from h)
      have hev : ∀ C a, ZT P C tm a N → a.eval c = .bool b := fun C a ht => by
        have := ht.operand c
        rw [hb] at this
        exact this
      cases b with
      | true =>
        obtain ⟨e, tm2, zm1, nx1, k1, k2, k3, k4, k5, k6⟩ := ih x tm1 zm nx K N h1 hO.1 (hsm.wf hws) hwm hkb
        exact ⟨e, tm2, zm1, nx1, k1, k2, k3, k4, k5, fun H C M a hH hz ht => wp_cond_true (hev C a ht) (k6 H C M a hH hz (ht.same hsm))⟩
      | false =>
        obtain ⟨e, tm2, zm1, nx1, k1, k2, k3, k4, k5, k6⟩ := ih y tm1 zm nx K N h1 hO.2 (hsm.wf hws) hwm hkb
        exact ⟨e, tm2, zm1, nx1, k1, k2, k3, k4, k5, fun H C M a hH hz ht => wp_cond_false (hev C a ht) (k6 H C M a hH hz (ht.same hsm))⟩
    | block id x =>
      intro tm zm nx K N h hO hws hwm hkb
      obtain ⟨e, tm1, zm1, nx1, k1, k2, k3, k4, k5, k6⟩ := ih x tm zm nx (blockK id K) N h hO hws hwm hkb
      cases e with
      | exit i =>
        have k1' : bRec (Nat.beq i id) (K .normal) (K (.exit i)) tm1 zm1 nx1 := k1
        cases hb : Nat.beq i id with
        | true =>
          rw [hb] at k1'
          have hi := nbeq hb
          refine ⟨.normal, tm1, zm1, nx1, k1', k2, k3, k4, k5, fun H C M a hH hz ht => wp_block (wp_mono (k6 H C M a hH hz ht) ?_)⟩
          rintro e' a' w' ⟨rfl, hf⟩
          simp only [Exit.inBlock, hi, if_true]
          exact ⟨rfl, hf⟩
        | false =>
          rw [hb] at k1'
          have hi : ¬ i = id := fun e => by subst e; rw [Nat.beq_refl] at hb; cases hb
          refine ⟨.exit i, tm1, zm1, nx1, k1', k2, k3, k4, k5, fun H C M a hH hz ht => wp_block (wp_mono (k6 H C M a hH hz ht) ?_)⟩
          rintro e' a' w' ⟨rfl, hf⟩
          simp only [Exit.inBlock, hi, if_false]
          exact ⟨rfl, hf⟩
      | normal => exact ⟨_, tm1, zm1, nx1, k1, k2, k3, k4, k5, fun H C M a hH hz ht => wp_block (wp_mono (k6 H C M a hH hz ht) (by rintro e' a' w' ⟨rfl, hf⟩; exact ⟨rfl, hf⟩))⟩
      | goto i => exact ⟨_, tm1, zm1, nx1, k1, k2, k3, k4, k5, fun H C M a hH hz ht => wp_block (wp_mono (k6 H C M a hH hz ht) (by rintro e' a' w' ⟨rfl, hf⟩; exact ⟨rfl, hf⟩))⟩
      | ret => exact ⟨_, tm1, zm1, nx1, k1, k2, k3, k4, k5, fun H C M a hH hz ht => wp_block (wp_mono (k6 H C M a hH hz ht) (by rintro e' a' w' ⟨rfl, hf⟩; exact ⟨rfl, hf⟩))⟩
      | panic c => exact ⟨_, tm1, zm1, nx1, k1, k2, k3, k4, k5, fun H C M a hH hz ht => wp_block (wp_mono (k6 H C M a hH hz ht) (by rintro e' a' w' ⟨rfl, hf⟩; exact ⟨rfl, hf⟩))⟩
      | outgrown => exact ⟨_, tm1, zm1, nx1, k1, k2, k3, k4, k5, fun H C M a hH hz ht => wp_block (wp_mono (k6 H C M a hH hz ht) (by rintro e' a' w' ⟨rfl, hf⟩; exact ⟨rfl, hf⟩))⟩
    | scope x =>
      intro tm zm nx K N h hO hws hwm hkb
      obtain ⟨e, tm1, zm1, nx1, k1, k2, k3, k4, k5, k6⟩ := ih x tm zm nx (scopeK K) N h hO hws hwm hkb
      cases e with
      | goto i => exact False.elim k1
      | normal => exact ⟨_, tm1, zm1, nx1, k1, k2, k3, k4, k5, fun H C M a hH hz ht => wp_scope_straight (wp_mono (k6 H C M a hH hz ht) (by rintro e' a' w' ⟨rfl, hf⟩; exact ⟨rfl, hf⟩))⟩
      | exit i => exact ⟨_, tm1, zm1, nx1, k1, k2, k3, k4, k5, fun H C M a hH hz ht => wp_scope_straight (wp_mono (k6 H C M a hH hz ht) (by rintro e' a' w' ⟨rfl, hf⟩; exact ⟨rfl, hf⟩))⟩
      | ret => exact ⟨_, tm1, zm1, nx1, k1, k2, k3, k4, k5, fun H C M a hH hz ht => wp_scope_straight (wp_mono (k6 H C M a hH hz ht) (by rintro e' a' w' ⟨rfl, hf⟩; exact ⟨rfl, hf⟩))⟩
      | panic c => exact ⟨_, tm1, zm1, nx1, k1, k2, k3, k4, k5, fun H C M a hH hz ht => wp_scope_straight (wp_mono (k6 H C M a hH hz ht) (by rintro e' a' w' ⟨rfl, hf⟩; exact ⟨rfl, hf⟩))⟩
      | outgrown => exact ⟨_, tm1, zm1, nx1, k1, k2, k3, k4, k5, fun H C M a hH hz ht => wp_scope_straight (wp_mono (k6 H C M a hH hz ht) (by rintro e' a' w' ⟨rfl, hf⟩; exact ⟨rfl, hf⟩))⟩
    | loop x =>
      intro tm zm nx K N h hO hws hwm hkb
      obtain ⟨e, tm', zm', nx', k, k1, k2, k3, k4, k5⟩ := loop_out (c := x) (n + 1) IH (show codeOk N x = true from hO) tm zm nx h hws hwm hkb
      exact ⟨e, tm', zm', nx', k1, k2, k3, k4, k5.le, k5.runs⟩
    | _ => intro tm zm nx K N h; exact False.elim h
end
end
end Go.Ab
