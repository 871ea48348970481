/- The run is right: code. No condition. -/
import Derived.Test.YtkjoldifiniliaaY7
set_option linter.unusedVariables false
set_option linter.unusedSimpArgs false
set_option linter.constructorNameAsVariable false
namespace Go.Y
open Go.Ab Go.RowKit
noncomputable section
variable [Gl]
section
variable {P : Program} {ct : CTab} {B : Nat} {r : RUN}

theorem drw_runs (hr : RunOK P B r) (hE : Env P ct) {id : Nat} {ops : Array Oper} {tm : Tm} {zm : Zm} {nx : Nat} {K : K3} {N : Nat} (h : drwK r P Gl.G ct ops tm zm nx K)
    (hD : ∀ o ∈ ops.toList, dOk N o.dst = true) (hkb : KB zm nx) :
    ∃ tm' zm' nx', K .normal tm' zm' nx' ∧ KB zm' nx' ∧ nx ≤ nx' ∧ Runs P B (.region id ops true) tm zm nx N .normal tm' zm' nx' := by
  have hz0 : YTr P B ops N tm zm nx tm zm nx [] [] := ⟨trivial, fun _ => rfl, rfl, Nat.le_refl _, hkb, fun M hM => ⟨trivial, hM, fun _ _ h => ⟨rfl, h⟩⟩⟩
  obtain ⟨tm', zm', nx', tr, zs, k1, hz, hlen⟩ := rdraw_tr hr hE ops.toList tm zm nx [] [] (by simp) hD hz0 h
  obtain ⟨hdr, hk⟩ := cnd_iff.1 k1
  have hlen' : tr.length = ops.size := by simpa using hlen
  refine ⟨tm', zm', nx', hk, hz.kb, hz.le, fun H C M a hH hzr ht => ?_⟩
  obtain ⟨hv, hsub, hfr⟩ := hz.mem M hzr.sub
  obtain ⟨hTa, hMa, hback⟩ := drawOk_sound (drawZ_ok hz.corr hdr)
  refine wp_region_any hE.mixed ?_
  obtain ⟨hsd, hkd⟩ := hzr.sr.drew
  have hl0 : (fun i => (Array.replicate ops.size false).getD i false) = fun _ => false := by
    funext i
    simp only [Array.getD_eq_getD_getElem?, Array.getElem?_replicate]
    split <;> rfl
  have hno : ∀ {K X : Type} (wr : TE → K → Option X) (base : K → X), Ab.look wr base (fun _ => false) tr = base := fun wr base => funext fun k => look_none k tr (fun i _ => rfl)
  have hps : PS B { C with w := C.w.drew } N (tv tm) M tr (fun _ => false) a { C with w := C.w.drew } := by
    refine ⟨Kp.refl B _, by rw [hno]; exact hsd, fun t => by rw [hno]; exact R.keep hkd.toKeep _ _ (ht.tv t), fun id h => .inl h, ht.size⟩
  have hnx := hz.nxe
  have hQ : ∀ (a' : Act) (C' : Ctx), a'.defers = a.defers → PS B { C with w := C.w.drew } N (tv tm) M tr (fun _ => true) a' C' → YFin B H C M zm nx N .normal tm' zm' nx' .normal a' C'.w := by
    intro a' C' hd hps'
    have hal : ∀ id, C'.al id → C.al id ∨ (nx ≤ id ∧ id < nx') := fun id hid => by
      rcases hps'.al id hid with h1 | ⟨l, te, r, e, _, h2, h3⟩
      · exact .inl h1
      · have := (nextId_le hv).2 te (by rw [e]; simp)
        exact .inr ⟨by omega, by omega⟩
    refine ⟨rfl, C', _, rfl, ⟨hps'.sr, hsub, fun id h1 h2 h3 => ?_⟩, ⟨fun t => ?_, hps'.size, by rw [hd]; exact ht.defers⟩, ⟨hkd.trans hps'.kp, hal, fun id hid hn => hfr id (by omega) hn⟩⟩
    · rcases hal id h3 with h4 | h4
      · exact hzr.al id (by have := hz.le; omega) h2 h4
      · omega
    · have := hps'.tm t
      rw [← hz.tv t] at this; exact this
  refine any_region (C0 := { C with w := C.w.drew }) (G := Gl.G) hv hlen' hTa hMa hback (fun id h1 h2 => hzr.al id h1 (by omega)) (fun g C' hk' => R.keep hk' _ _ (hsd.gl g)) a.defers hQ ops.size (Array.replicate ops.size false) a _ (by simp) ?_ ?_ rfl (by rw [hl0]; exact hps)
  · have := List.countP_le_length (p := fun i => !(Array.replicate ops.size false).getD i false) (l := List.range ops.size)
    simpa using this
  · intro l te r e hs'
    rw [hl0] at hs'; cases hs'

/-- A loop, round by round. -/
inductive LoopOut (P : Program) (B : Nat) (c : Code) (N : Nat) (e : Exit) (tm' : Tm) (zm' : Zm) (nx' : Nat) : Nat → Tm → Zm → Nat → Prop where
  | out {k : Nat} {tm : Tm} {zm : Zm} {nx : Nat} (h : Runs P B c tm zm nx N e tm' zm' nx') (he : e ≠ .normal) (hle : nx ≤ nx') : LoopOut P B c N e tm' zm' nx' (k + 1) tm zm nx
  | round {k : Nat} {tm tm1 : Tm} {zm zm1 : Zm} {nx nx1 : Nat} (h : Runs P B c tm zm nx N .normal tm1 zm1 nx1) (hle : nx ≤ nx1) (h2 : LoopOut P B c N e tm' zm' nx' k tm1 zm1 nx1) : LoopOut P B c N e tm' zm' nx' (k + 1) tm zm nx
theorem LoopOut.le {c : Code} {N k : Nat} {e : Exit} {tm tm' : Tm} {zm zm' : Zm} {nx nx' : Nat} (h : LoopOut P B c N e tm' zm' nx' k tm zm nx) : nx ≤ nx' := by
  induction h with
  | out h he hle => exact hle
  | round h hle h2 ih => omega
theorem LoopOut.runs {c : Code} {N k : Nat} {e : Exit} {tm tm' : Tm} {zm zm' : Zm} {nx nx' : Nat} (h : LoopOut P B c N e tm' zm' nx' k tm zm nx) : Runs P B (.loop c) tm zm nx N e tm' zm' nx' := by
  intro H C M a hH hz ht
  refine wp_loop_ghost (fun n a w => ∃ C' M' tm1 zm1 nx1, C'.w = w ∧ YR B H C' M' zm1 nx1 ∧ YT C' tm1 a N ∧ YC B H C M zm nx C' M' zm1 nx1 ∧ nx ≤ nx1 ∧ LoopOut P B c N e tm' zm' nx' n tm1 zm1 nx1) k ⟨C, M, tm, zm, nx, rfl, hz, ht, YC.refl C M zm nx, Nat.le_refl _, h⟩ ?_
  rintro n a w ⟨C1, M1, tm1, zm1, nx1, rfl, h1, h2, h3, h4, h5⟩
  cases h5 with
  | out hr he hle =>
    refine wp_mono (hr H C1 M1 a hH h1 h2) ?_
    rintro e' a' w' ⟨rfl, C2, M2, rfl, hf⟩
    have hq : YFin B H C M zm nx N e' tm' zm' nx' e' a' C2.w := ⟨rfl, C2, M2, rfl, hf.yr, hf.yt, h3.trans hf.yc h4 hle⟩
    cases e' with
    | normal => exact absurd rfl he
    | _ => exact hq
  | @round k _ tm2 _ zm2 _ nx2 hr hle h6 =>
    refine wp_mono (hr H C1 M1 a (by have := h6.le; omega) h1 h2) ?_
    rintro e' a' w' ⟨rfl, C2, M2, rfl, hf⟩
    exact ⟨k, by omega, C2, M2, tm2, zm2, nx2, rfl, hf.yr, hf.yt, h3.trans hf.yc h4 hle, by omega, h6⟩
theorem loop_out {c : Code} {N : Nat} {K : K3} {u : Bool} : ∀ (n : Nat), (∀ m, m < n → RunOK P B (run P Gl.G ct u m)) → cOk N c = true → ∀ (tm : Tm) (zm : Zm) (nx : Nat), run P Gl.G ct u n (.loop c) tm zm nx K → KB zm nx →
    ∃ e tm' zm' nx' k, K e tm' zm' nx' ∧ KB zm' nx' ∧ LoopOut P B c N e tm' zm' nx' k tm zm nx
  | 0, _, _, tm, zm, nx, h, _ => BadN.elim (n := 14) h
  | n + 1, IH, hO, tm, zm, nx, h, hkb => by
    cases u with
    | false => exact BadN.elim (n := 12) h
    | true =>
    obtain ⟨e, tm1, zm1, nx1, k1, k4, k5, k6⟩ := IH n (by omega) c tm zm nx (seqK (run P Gl.G ct true n) (.loop c) K) N h hO hkb
    cases e with
    | normal =>
      obtain ⟨e2, tm2, zm2, nx2, k, q1, q4, q5⟩ := loop_out n (fun m hm => IH m (by omega)) hO tm1 zm1 nx1 k1 k4
      exact ⟨e2, tm2, zm2, nx2, k + 1, q1, q4, .round k6 k5 q5⟩
    | exit i => exact ⟨_, tm1, zm1, nx1, 1, k1, k4, .out k6 (by intro h; cases h) k5⟩
    | goto i => exact ⟨_, tm1, zm1, nx1, 1, k1, k4, .out k6 (by intro h; cases h) k5⟩
    | ret => exact ⟨_, tm1, zm1, nx1, 1, k1, k4, .out k6 (by intro h; cases h) k5⟩
    | panic c => exact ⟨_, tm1, zm1, nx1, 1, k1, k4, .out k6 (by intro h; cases h) k5⟩
    | outgrown => exact ⟨_, tm1, zm1, nx1, 1, k1, k4, .out k6 (by intro h; cases h) k5⟩

/-- From a start, code ends as 'K' says. -/
def WR (P : Program) (B N : Nat) (c : Code) (tm : Tm) (zm : Zm) (nx : Nat) (K : K3) : Prop :=
  ∃ e tm' zm' nx', K e tm' zm' nx' ∧ KB zm' nx' ∧ nx ≤ nx' ∧ Runs P B c tm zm nx N e tm' zm' nx'
section
variable {N : Nat} {tm : Tm} {zm : Zm} {nx : Nat} {K : K3}
theorem WR.mono {c : Code} {K' : K3} (h : WR P B N c tm zm nx K) (hk : ∀ e tm zm nx, KB zm nx → K e tm zm nx → K' e tm zm nx) : WR P B N c tm zm nx K' := by
  obtain ⟨e, tm', zm', nx', k1, k2, k3, k4⟩ := h
  exact ⟨e, tm', zm', nx', hk _ _ _ _ k2 k1, k2, k3, k4⟩
theorem WR.skip (hkb : KB zm nx) (h : K .normal tm zm nx) : WR P B N .skip tm zm nx K := ⟨.normal, tm, zm, nx, h, hkb, Nat.le_refl _, fun H C M a _ hz ht => wp_skip ⟨rfl, C, M, rfl, hz, ht, YC.refl C M zm nx⟩⟩
theorem WR.label {l : Nat} (hkb : KB zm nx) (h : K .normal tm zm nx) : WR P B N (.label l) tm zm nx K := ⟨.normal, tm, zm, nx, h, hkb, Nat.le_refl _, fun H C M a _ hz ht => wp_label ⟨rfl, C, M, rfl, hz, ht, YC.refl C M zm nx⟩⟩
theorem WR.exit {i : Nat} (hkb : KB zm nx) (h : K (.exit i) tm zm nx) : WR P B N (.exit i) tm zm nx K := ⟨.exit i, tm, zm, nx, h, hkb, Nat.le_refl _, fun H C M a _ hz ht => wp_exit ⟨rfl, C, M, rfl, hz, ht, YC.refl C M zm nx⟩⟩
theorem WR.ret (hkb : KB zm nx) (h : K .ret tm zm nx) : WR P B N .ret tm zm nx K := ⟨.ret, tm, zm, nx, h, hkb, Nat.le_refl _, fun H C M a _ hz ht => wp_ret ⟨rfl, C, M, rfl, hz, ht, YC.refl C M zm nx⟩⟩
def thenK (Q : Tm → Zm → Nat → Prop) (K : K3) (e : Exit) : Tm → Zm → Nat → Prop := match e with
  | .normal => Q
  | e => K e
theorem WR.seq {x y : Code} (h : WR P B N x tm zm nx (thenK (fun tm zm nx => WR P B N y tm zm nx K) K)) : WR P B N (.seq x y) tm zm nx K := by
  obtain ⟨e, tm1, zm1, nx1, k1, k4, k5, k6⟩ := h
  cases e with
  | normal =>
    obtain ⟨e2, tm2, zm2, nx2, q1, q4, q5, q6⟩ := (show WR P B N y tm1 zm1 nx1 K from k1)
    refine ⟨e2, tm2, zm2, nx2, q1, q4, by omega, fun H C M a hH hz ht => wp_seq (wp_mono (k6 H C M a (by omega) hz ht) ?_)⟩
    rintro e' a' w' ⟨rfl, C', M', rfl, hf⟩
    refine wp_mono (q6 H C' M' a' hH hf.yr hf.yt) ?_
    rintro e' a'' w' ⟨rfl, C'', M'', rfl, hf'⟩
    exact ⟨rfl, C'', M'', rfl, hf'.yr, hf'.yt, hf.yc.trans hf'.yc k5 q5⟩
  | exit i => exact ⟨_, tm1, zm1, nx1, k1, k4, k5, fun H C M a hH hz ht => wp_seq (wp_mono (k6 H C M a hH hz ht) (by rintro e' a' w' ⟨rfl, hf⟩; exact ⟨rfl, hf⟩))⟩
  | goto i => exact ⟨_, tm1, zm1, nx1, k1, k4, k5, fun H C M a hH hz ht => wp_seq (wp_mono (k6 H C M a hH hz ht) (by rintro e' a' w' ⟨rfl, hf⟩; exact ⟨rfl, hf⟩))⟩
  | ret => exact ⟨_, tm1, zm1, nx1, k1, k4, k5, fun H C M a hH hz ht => wp_seq (wp_mono (k6 H C M a hH hz ht) (by rintro e' a' w' ⟨rfl, hf⟩; exact ⟨rfl, hf⟩))⟩
  | panic c => exact ⟨_, tm1, zm1, nx1, k1, k4, k5, fun H C M a hH hz ht => wp_seq (wp_mono (k6 H C M a hH hz ht) (by rintro e' a' w' ⟨rfl, hf⟩; exact ⟨rfl, hf⟩))⟩
  | outgrown => exact ⟨_, tm1, zm1, nx1, k1, k4, k5, fun H C M a hH hz ht => wp_seq (wp_mono (k6 H C M a hH hz ht) (by rintro e' a' w' ⟨rfl, hf⟩; exact ⟨rfl, hf⟩))⟩
theorem WR.block {id : Nat} {x : Code} (h : WR P B N x tm zm nx (blockK id K)) : WR P B N (.block id x) tm zm nx K := by
  obtain ⟨e, tm1, zm1, nx1, k1, k4, k5, k6⟩ := h
  cases e with
  | exit i =>
    have k1' : @Bool.rec (fun _ => Tm → Zm → Nat → Prop) (K (.exit i)) (K .normal) (Nat.beq i id) tm1 zm1 nx1 := k1
    cases hb : Nat.beq i id with
    | true =>
      rw [hb] at k1'
      have hi := Nat.eq_of_beq_eq_true hb
      refine ⟨.normal, tm1, zm1, nx1, k1', k4, k5, fun H C M a hH hz ht => wp_block (wp_mono (k6 H C M a hH hz ht) ?_)⟩
      rintro e' a' w' ⟨rfl, hf⟩
      simp only [Exit.inBlock, hi, if_true]
      exact ⟨rfl, hf⟩
    | false =>
      rw [hb] at k1'
      have hi : ¬ i = id := fun e => by subst e; rw [Nat.beq_refl] at hb; cases hb
      refine ⟨.exit i, tm1, zm1, nx1, k1', k4, k5, fun H C M a hH hz ht => wp_block (wp_mono (k6 H C M a hH hz ht) ?_)⟩
      rintro e' a' w' ⟨rfl, hf⟩
      simp only [Exit.inBlock, hi, if_false]
      exact ⟨rfl, hf⟩
  | normal => exact ⟨_, tm1, zm1, nx1, k1, k4, k5, fun H C M a hH hz ht => wp_block (wp_mono (k6 H C M a hH hz ht) (by rintro e' a' w' ⟨rfl, hf⟩; exact ⟨rfl, hf⟩))⟩
  | goto i => exact ⟨_, tm1, zm1, nx1, k1, k4, k5, fun H C M a hH hz ht => wp_block (wp_mono (k6 H C M a hH hz ht) (by rintro e' a' w' ⟨rfl, hf⟩; exact ⟨rfl, hf⟩))⟩
  | ret => exact ⟨_, tm1, zm1, nx1, k1, k4, k5, fun H C M a hH hz ht => wp_block (wp_mono (k6 H C M a hH hz ht) (by rintro e' a' w' ⟨rfl, hf⟩; exact ⟨rfl, hf⟩))⟩
  | panic c => exact ⟨_, tm1, zm1, nx1, k1, k4, k5, fun H C M a hH hz ht => wp_block (wp_mono (k6 H C M a hH hz ht) (by rintro e' a' w' ⟨rfl, hf⟩; exact ⟨rfl, hf⟩))⟩
  | outgrown => exact ⟨_, tm1, zm1, nx1, k1, k4, k5, fun H C M a hH hz ht => wp_block (wp_mono (k6 H C M a hH hz ht) (by rintro e' a' w' ⟨rfl, hf⟩; exact ⟨rfl, hf⟩))⟩
theorem WR.scope {x : Code} (h : WR P B N x tm zm nx (scopeK K)) : WR P B N (.scope x) tm zm nx K := by
  obtain ⟨e, tm1, zm1, nx1, k1, k4, k5, k6⟩ := h
  cases e with
  | goto i => exact BadN.elim (n := 11) k1
  | normal => exact ⟨_, tm1, zm1, nx1, k1, k4, k5, fun H C M a hH hz ht => wp_scope_straight (wp_mono (k6 H C M a hH hz ht) (by rintro e' a' w' ⟨rfl, hf⟩; exact ⟨rfl, hf⟩))⟩
  | exit i => exact ⟨_, tm1, zm1, nx1, k1, k4, k5, fun H C M a hH hz ht => wp_scope_straight (wp_mono (k6 H C M a hH hz ht) (by rintro e' a' w' ⟨rfl, hf⟩; exact ⟨rfl, hf⟩))⟩
  | ret => exact ⟨_, tm1, zm1, nx1, k1, k4, k5, fun H C M a hH hz ht => wp_scope_straight (wp_mono (k6 H C M a hH hz ht) (by rintro e' a' w' ⟨rfl, hf⟩; exact ⟨rfl, hf⟩))⟩
  | panic c => exact ⟨_, tm1, zm1, nx1, k1, k4, k5, fun H C M a hH hz ht => wp_scope_straight (wp_mono (k6 H C M a hH hz ht) (by rintro e' a' w' ⟨rfl, hf⟩; exact ⟨rfl, hf⟩))⟩
  | outgrown => exact ⟨_, tm1, zm1, nx1, k1, k4, k5, fun H C M a hH hz ht => wp_scope_straight (wp_mono (k6 H C M a hH hz ht) (by rintro e' a' w' ⟨rfl, hf⟩; exact ⟨rfl, hf⟩))⟩
theorem WR.cond {c : Operand} {x y : Code} (h : condK Gl.G tm c fun b tm => @Bool.rec (fun _ => Prop) (WR P B N y tm zm nx K) (WR P B N x tm zm nx K) b) : WR P B N (.cond c x y) tm zm nx K := by
  obtain ⟨b, tm1, hb, hsm, h1⟩ := condK_inv h
  have hev : ∀ (C : Ctx) (M : Mem) (H : Nat) (a : Act), YR B H C M zm nx → YT C tm a N → a.eval c = .bool b := fun C M H a hz ht => by
    have := ht.operand hz.sr.gl c
    rw [hb] at this
    exact this
  cases b with
  | true =>
    obtain ⟨e, tm2, zm1, nx1, k1, k4, k5, k6⟩ := (show WR P B N x tm1 zm nx K from h1)
    exact ⟨e, tm2, zm1, nx1, k1, k4, k5, fun H C M a hH hz ht => wp_cond_true (hev C M H a hz ht) (k6 H C M a hH hz (ht.same hsm))⟩
  | false =>
    obtain ⟨e, tm2, zm1, nx1, k1, k4, k5, k6⟩ := (show WR P B N y tm1 zm nx K from h1)
    exact ⟨e, tm2, zm1, nx1, k1, k4, k5, fun H C M a hH hz ht => wp_cond_false (hev C M H a hz ht) (k6 H C M a hH hz (ht.same hsm))⟩
end

theorem run_ok (hE : Env P ct) (u : Bool) (n : Nat) : RunOK P B (run P Gl.G ct u n) := by
  induction n using Nat.strongRecOn with
  | _ n IH =>
  cases n with
  | zero => intro c tm zm nx K N h; exact BadN.elim (n := 14) h
  | succ n =>
    have ih := IH n (by omega)
    have wr : ∀ {c : Code} {tm : Tm} {zm : Zm} {nx : Nat} {K : K3} {N : Nat}, run P Gl.G ct u n c tm zm nx K → cOk N c = true → KB zm nx → WR P B N c tm zm nx K := fun h hO hkb => ih _ _ _ _ _ _ h hO hkb
    intro c
    cases c with
    | skip => intro tm zm nx K N h _ hkb; exact WR.skip hkb h
    | label l => intro tm zm nx K N h _ hkb; exact WR.label hkb h
    | exit i => intro tm zm nx K N h _ hkb; exact WR.exit hkb h
    | ret => intro tm zm nx K N h _ hkb; exact WR.ret hkb h
    | region id ops draw =>
      intro tm zm nx K N h hO hkb
      have hD : ∀ o ∈ ops.toList, dOk N o.dst = true := List.all_eq_true.1 hO
      cases draw with
      | true =>
        obtain ⟨tm', zm', nx', k1, k4, k5, k6⟩ := drw_runs ih hE (show drwK (run P Gl.G ct u n) P Gl.G ct ops tm zm nx K from h) hD hkb
        exact ⟨.normal, tm', zm', nx', k1, k4, k5, k6⟩
      | false =>
        obtain ⟨tm', zm', nx', k1, k4, k5, k6⟩ := rops_runs ih hE (ops := ops) (N := N) ops.toList 0 tm zm nx (by simp) hD (show rops (seqCL (run P Gl.G ct u n) P ct) P Gl.G ops.toList ops.toList tm zm nx (K .normal) from h) hkb
        refine ⟨.normal, tm', zm', nx', k1, k4, k5, fun H C M a hH hz ht => wp_region ?_⟩
        rw [List.range_eq_range', ← Array.length_toList]
        exact k6 H C M a _ hH hz ht fun C' M' a' hf => ⟨rfl, C', M', rfl, hf⟩
    | seq x y =>
      intro tm zm nx K N h hO hkb
      simp only [cOk, Bool.and_eq_true] at hO
      refine WR.seq ((wr (K := seqK (run P Gl.G ct u n) y K) h hO.1 hkb).mono fun e tm' zm' nx' hkb' hk => ?_)
      cases e with
      | normal => exact wr hk hO.2 hkb'
      | _ => exact hk
    | cond c x y =>
      intro tm zm nx K N h hO hkb
      simp only [cOk, Bool.and_eq_true] at hO
      have h0 : condK Gl.G tm c (fun b tm => @Bool.rec (fun _ => Prop) (run P Gl.G ct u n y tm zm nx K) (run P Gl.G ct u n x tm zm nx K) b) := h
      obtain ⟨b, tm1, hb, hsm, h1⟩ := condK_inv h0
      have hev : ∀ (C : Ctx) (M : Mem) (H : Nat) (a : Act), YR B H C M zm nx → YT C tm a N → a.eval c = .bool b := fun C M H a hz ht => by
        have := ht.operand hz.sr.gl c
        rw [hb] at this
        exact this
      cases b with
      | true =>
        obtain ⟨e, tm2, zm1, nx1, k1, k4, k5, k6⟩ := ih x tm1 zm nx K N h1 hO.1 hkb
        exact ⟨e, tm2, zm1, nx1, k1, k4, k5, fun H C M a hH hz ht => wp_cond_true (hev C M H a hz ht) (k6 H C M a hH hz (ht.same hsm))⟩
      | false =>
        obtain ⟨e, tm2, zm1, nx1, k1, k4, k5, k6⟩ := ih y tm1 zm nx K N h1 hO.2 hkb
        exact ⟨e, tm2, zm1, nx1, k1, k4, k5, fun H C M a hH hz ht => wp_cond_false (hev C M H a hz ht) (k6 H C M a hH hz (ht.same hsm))⟩
    | block id x => intro tm zm nx K N h hO hkb; exact WR.block (wr (K := blockK id K) h hO hkb)
    | scope x => intro tm zm nx K N h hO hkb; exact WR.scope (wr (K := scopeK K) h hO hkb)
    | loop x =>
      intro tm zm nx K N h hO hkb
      obtain ⟨e, tm', zm', nx', k, k1, k4, k5⟩ := loop_out (c := x) (n + 1) IH (show cOk N x = true from hO) tm zm nx h hkb
      exact ⟨e, tm', zm', nx', k1, k4, k5.le, k5.runs⟩
    | _ => intro tm zm nx K N h; exact BadN.elim (n := 13) h
theorem WR.run (hE : Env P ct) {u : Bool} {n N : Nat} {c : Code} {tm : Tm} {zm : Zm} {nx : Nat} {K : K3} (h : run P Gl.G ct u n c tm zm nx K) (hO : cOk N c = true) (hkb : KB zm nx) : WR P B N c tm zm nx K := run_ok hE u n _ _ _ _ _ _ h hO hkb
end
end
end Go.Y
