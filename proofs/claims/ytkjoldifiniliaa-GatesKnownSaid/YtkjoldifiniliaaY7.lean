/- The run is right: regions in order, regions in whatever order. No condition. -/
import Derived.Test.YtkjoldifiniliaaY6
set_option linter.unusedVariables false
set_option linter.unusedSimpArgs false
set_option linter.constructorNameAsVariable false
namespace Go.Y
open Go.Ab Go.RowKit
noncomputable section
variable [Gl]
section
variable {P : Program} {ct : CTab} {B : Nat} {r : RUN}

omit [Gl] in
theorem mkL_unL {C : Ctx} {caps : V} {cs : List Value} (h : R C caps (.list cs)) : R C (mkL (unL caps)) (.list cs) := R.unL caps h
/-- A call that is carried out in place. -/
theorem body_odoes (hr : RunOK P B r) (hE : Env P ct) {o : Oper} {f : Operand} {args : Array Operand} {ts : Array TypeId} {tm : Tm} {zm : Zm} {nx : Nat} {K : V → Zm → Nat → Prop} {fid : FuncId} {caps : V} (ho : o.op = .call ⟨.value f, args, ts⟩) (hf : ev Gl.G tm f = .fn fid caps)
    (hkb : KB zm nx) (h : callB r P fid (args.toList.map (ev Gl.G tm) ++ unL caps) zm nx K) : ∃ v zm' nx', K v zm' nx' ∧ KB zm' nx' ∧ nx ≤ nx' ∧ ODoes P B o tm zm nx v zm' nx' := by
  obtain ⟨fn, hfn, hname, hbody, v, zm', nx', k1, k2, k3, k4⟩ := callB_inv hr hE h hkb
  refine ⟨v, zm', nx', k1, k2, k3, fun H C M ρc hH hz hx => ?_⟩
  obtain ⟨h0, h3⟩ := call_args ho hx
  rw [hf] at h0
  obtain ⟨cs, h1, h2⟩ := h0
  have h1' : ρc f = .func (.func fid) #[] cs := h1
  unfold Does
  rw [enter_run ho h1' hfn hname hbody]
  exact (k4 H C M _ hH hz (mkL_app h3 (mkL_unL h2))).mono fun e w' ⟨v, he, hp⟩ => ⟨v, he, hp⟩

/-- An operation of a region that is carried out in order. -/
theorem yop_odoes (hr : RunOK P B r) (hE : Env P ct) {o : Oper} {tm : Tm} {zm : Zm} {nx : Nat} {K : KT} (hkb : KB zm nx) (h : yop (seqCL r P ct) P Gl.G tm o.op zm nx K) :
    ∃ v zm' nx' up rd, K v zm' nx' up rd ∧ KB zm' nx' ∧ nx ≤ nx' ∧ ODoes P B o tm zm nx v zm' nx' := by
  unfold yop at h
  split at h
  · rename_i f args ts ho
    unfold seqCL callY at h
    split at h
    · rename_i fid caps hf
      split at h
      · rename_i c hc
        obtain ⟨v, k1, k2⟩ := seqC_odoes (B := B) hE ho hf (hE.ct fid c hc) h
        exact ⟨v, zm, nx, [], [], k1, hkb, Nat.le_refl _, k2⟩
      · obtain ⟨v, zm', nx', k1, k2, k3, k4⟩ := body_odoes hr hE ho hf hkb h
        exact ⟨v, zm', nx', [], [], k1, k2, k3, k4⟩
    · exact h.elim
  · obtain ⟨e, he, hk⟩ := rsK_inv h
    obtain ⟨h1, h2⟩ := yop1_s (B := B) he
    have hs := YSt.of h1 h2
    exact ⟨_, _, _, _, _, hk, hs.kb hkb, by omega, hs.does hkb⟩

/-- What a region comes to, in order. -/
def RRuns (P : Program) (B : Nat) (ops : Array Oper) (i n : Nat) (tm : Tm) (zm : Zm) (nx : Nat) (N : Nat) (tm' : Tm) (zm' : Zm) (nx' : Nat) : Prop :=
  ∀ (H : Nat) (C : Ctx) (M : Mem) (a : Act) (Q : Exit → Act → World → Prop), nx' ≤ H → YR B H C M zm nx → YT C tm a N → (∀ C' M' a', YF B H C M zm nx N tm' zm' nx' C' M' a' → Q .normal a' C'.w) → wpOps P ops Q (List.range' i n) a C.w

theorem rops_runs (hr : RunOK P B r) (hE : Env P ct) {ops : Array Oper} {N : Nat} {K : Tm → Zm → Nat → Prop} :
    ∀ (l : List Oper) (i : Nat) (tm : Tm) (zm : Zm) (nx : Nat), (∀ k, ops[i + k]? = l[k]?) → (∀ o ∈ l, dOk N o.dst = true) → rops (seqCL r P ct) P Gl.G ops.toList l tm zm nx K → KB zm nx →
      ∃ tm' zm' nx', K tm' zm' nx' ∧ KB zm' nx' ∧ nx ≤ nx' ∧ RRuns P B ops i l.length tm zm nx N tm' zm' nx'
  | [], i, tm, zm, nx, _, _, h, hkb => ⟨tm, zm, nx, h, hkb, Nat.le_refl _, fun H C M a Q hH hz ht hQ => hQ C M a ⟨hz, ht, YC.refl C M zm nx⟩⟩
  | o :: l, i, tm, zm, nx, hops, hD, h, hkb => by
    have hop : ops[i]? = some o := by have := hops 0; simpa using this
    have hops' : ∀ k, ops[i + 1 + k]? = l[k]? := by
      intro k
      have := hops (k + 1)
      simp only [List.getElem?_cons_succ] at this
      rw [← this]; congr 1; omega
    have hd := hD o (by simp)
    have hD' : ∀ o ∈ l, dOk N o.dst = true := fun o ho => hD o (by simp [ho])
    have h0 : grdK ops.toList o.guard tm (fun tm => yop (seqCL r P ct) P Gl.G tm o.op zm nx fun v zm nx _ _ => putD o.dst v tm fun tm => rops (seqCL r P ct) P Gl.G ops.toList l tm zm nx K) (fun tm => putD o.dst (.tup .nl) tm fun tm => rops (seqCL r P ct) P Gl.G ops.toList l tm zm nx K) := h
    rcases grdK_pure h0 with ⟨hw, _, tm1, hsm, h1⟩ | ⟨hw, _, tm1, hsm, h1⟩
    · obtain ⟨v, zm1, nx1, up, rd, k1, k6, k5, k4⟩ := yop_odoes hr hE hkb h1
      rw [putD_eq] at k1
      obtain ⟨tm', zm', nx', q1, q6, q5, q4⟩ := rops_runs hr hE l (i + 1) _ zm1 nx1 hops' hD' k1 k6
      refine ⟨tm', zm', nx', q1, q6, by omega, fun H C M a Q hH hz ht hQ => ?_⟩
      rw [List.length_cons, List.range'_succ, wpOps_cons]
      have ht1 := ht.same hsm
      refine wpOp_do hop (hw C a N ht) (Does.wp (k4 H C M a.eval (by omega) hz fun x _ => ht1.operand hz.sr.gl x) ?_)
      rintro val w' ⟨C', M', rfl, h2, h3, h4⟩
      exact q4 H C' M' _ Q hH h3 ((ht1.keep h4.kp.toKeep).put hd h2) fun C'' M'' a'' hf => hQ C'' M'' a'' ⟨hf.yr, hf.yt, h4.trans hf.yc k5 q5⟩
    · rw [putD_eq] at h1
      obtain ⟨tm', zm', nx', q1, q6, q5, q4⟩ := rops_runs hr hE l (i + 1) _ zm nx hops' hD' h1 hkb
      refine ⟨tm', zm', nx', q1, q6, q5, fun H C M a Q hH hz ht hQ => ?_⟩
      rw [List.length_cons, List.range'_succ, wpOps_cons]
      refine wpOp_skip hop (hw C a N ht) ?_
      exact q4 H C M _ Q hH hz ((ht.same hsm).put hd ⟨#[], rfl, rfl⟩) fun C'' M'' a'' hf => hQ C'' M'' a'' ⟨hf.yr, hf.yt, hf.yc⟩

/-! ### What a list of operations writes and reads -/
/-- A trace, and what has been written down of it. -/
def Corr : List TE → List ZTE → Prop
  | [], [] => True
  | te :: r, z :: s => Corr r s ∧ te.o = z.o ∧ te.n = z.lo ∧ te.n + te.e.nw.length = z.hi ∧ te.e.up.map (·.1) = z.up ∧ te.e.rd = z.rd
  | _, _ => False
omit [Gl] in
theorem Corr.length : ∀ {tr : List TE} {s : List ZTE}, Corr tr s → tr.length = s.length
  | [], [], _ => rfl
  | te :: r, z :: s, h => by simp [Corr.length h.1]
  | [], _ :: _, h => h.elim
  | _ :: _, [], h => h.elim
omit [Gl] in
theorem zup_any {l : List Nat} {id : Nat} : (l.any fun j => Nat.beq j id) = l.contains id := by
  induction l with
  | nil => rfl
  | cons x l ih =>
    simp only [List.any_cons, ih, List.contains_cons]
    congr 1
    rw [Bool.eq_iff_iff, Nat.beq_eq, beq_iff_eq]
    exact ⟨fun h => h.symm, fun h => h.symm⟩
omit [Gl] in
theorem inNew_iff {z : ZTE} {id : Nat} : inNew z id = true ↔ z.lo ≤ id ∧ id < z.hi := by
  unfold inNew
  rw [Bool.and_eq_true, Nat.ble_eq, Nat.ble_eq]
  exact Iff.rfl
omit [Gl] in
theorem wids_in {te : TE} {z : ZTE} (h1 : te.n = z.lo) (h2 : te.n + te.e.nw.length = z.hi) (h3 : te.e.up.map (·.1) = z.up) {id : Nat} (h : id ∈ wids te) : zin z id = true := by
  unfold zin
  rw [Bool.or_eq_true]
  unfold wids at h
  rcases List.mem_append.1 h with h | h
  · exact .inl (by rw [zup_any, List.contains_iff_mem, ← h3]; exact h)
  · obtain ⟨h4, h5⟩ := List.mem_range'_1.1 h
    exact .inr (inNew_iff.2 ⟨by omega, by omega⟩)
omit [Gl] in
theorem clashM_z {te te' : TE} {z z' : ZTE} (h1 : te.n = z.lo) (h2 : te.n + te.e.nw.length = z.hi) (h3 : te.e.up.map (·.1) = z.up) (h4 : te.e.rd = z.rd)
    (k1 : te'.n = z'.lo) (k2 : te'.n + te'.e.nw.length = z'.hi) (k3 : te'.e.up.map (·.1) = z'.up) (k4 : te'.e.rd = z'.rd) (h : clashM te te' = true) : zclashM z z' = true := by
  unfold clashM at h
  unfold zclashM
  simp only [Bool.or_eq_true, List.any_eq_true] at h ⊢
  rcases h with ⟨id, hid, hc⟩ | ⟨id, hid, hc⟩
  · have hrd : te.e.rd.contains id = true → zrd z id = true := fun h5 => by unfold zrd; rw [zup_any, ← h4]; exact h5
    unfold wids at hid
    rcases List.mem_append.1 hid with hu | hn
    · refine .inl (.inl (.inl (.inl ⟨id, by rw [← k3]; exact hu, ?_⟩)))
      rcases hc with hc | hc
      · exact .inl (wids_in h1 h2 h3 (List.contains_iff_mem.1 hc))
      · exact .inr (hrd hc)
    · obtain ⟨a1, a2⟩ := List.mem_range'_1.1 hn
      have hin : inNew z' id = true := inNew_iff.2 ⟨by omega, by omega⟩
      rcases hc with hc | hc
      · have hm := List.contains_iff_mem.1 hc
        unfold wids at hm
        rcases List.mem_append.1 hm with hm | hm
        · exact .inl (.inl (.inr ⟨id, by rw [← h3]; exact hm, hin⟩))
        · obtain ⟨b1, b2⟩ := List.mem_range'_1.1 hm
          refine .inr ?_
          rw [Bool.and_eq_true, Nat.ble_eq, Nat.ble_eq]
          exact ⟨by show z.lo < z'.hi; omega, by show z'.lo < z.hi; omega⟩
      · exact .inl (.inr ⟨id, by rw [← h4]; exact List.contains_iff_mem.1 hc, hin⟩)
  · exact .inl (.inl (.inl (.inr ⟨id, by rw [← k4]; exact hid, wids_in h1 h2 h3 (List.contains_iff_mem.1 hc)⟩)))
omit [Gl] in
theorem clash_o {te te' : TE} {ops : Array Oper} : clash te te' ops = clashO te.o te'.o ops := rfl
omit [Gl] in
theorem edge_o {te : TE} {k : Nat} : edge te k = edgeO te.o k := rfl
omit [Gl] in
theorem against_z {ops : Array Oper} {te : TE} {z : ZTE} (h0 : te.o = z.o) (h1 : te.n = z.lo) (h2 : te.n + te.e.nw.length = z.hi) (h3 : te.e.up.map (·.1) = z.up) (h4 : te.e.rd = z.rd) :
    ∀ {r : List TE} {s : List ZTE}, Corr r s → drawZ.against ops z s = true → drawOk.against ops te r = true
  | [], [], _, _ => rfl
  | te' :: r, z' :: s, hc, h => by
    obtain ⟨c0, c1, c2, c3, c4, c5⟩ := hc
    simp only [drawZ.against, Bool.and_eq_true, Bool.or_eq_true, Bool.not_eq_true', Bool.or_eq_false_iff] at h
    simp only [drawOk.against, Bool.and_eq_true, Bool.or_eq_true, Bool.not_eq_true', Bool.or_eq_false_iff]
    refine ⟨?_, against_z h0 h1 h2 h3 h4 c0 h.2⟩
    rcases h.1 with h5 | ⟨h5, h6⟩
    · exact .inl (by rw [edge_o, h0, c0.length]; exact h5)
    · refine .inr ⟨by rw [clash_o, h0, c1]; exact h5, ?_⟩
      cases hm : clashM te te' with
      | false => rfl
      | true => rw [clashM_z h1 h2 h3 h4 c2 c3 c4 c5 hm] at h6; cases h6
  | [], _ :: _, hc, _ => hc.elim
  | _ :: _, [], hc, _ => hc.elim
omit [Gl] in
theorem drawZ_ok {ops : Array Oper} : ∀ {tr : List TE} {s : List ZTE}, Corr tr s → drawZ ops s = true → drawOk ops tr = true
  | [], [], _, _ => rfl
  | te :: r, z :: s, hc, h => by
    obtain ⟨c0, c1, c2, c3, c4, c5⟩ := hc
    simp only [drawZ, Bool.and_eq_true] at h
    simp only [drawOk, Bool.and_eq_true]
    refine ⟨⟨drawZ_ok c0 h.1.1, by rw [c1, c0.length]; exact h.1.2⟩, against_z c1 c2 c3 c4 c5 c0 h.2⟩
  | [], _ :: _, hc, _ => hc.elim
  | _ :: _, [], hc, _ => hc.elim

/-! ### Operations, wherever they come up -/
def deadB : Blk := ⟨.dead, .nl, .unk⟩
theorem body_iso (hr : RunOK P B r) (hE : Env P ct) {o : Oper} {f : Operand} {args : Array Operand} {ts : Array TypeId} {tm : Tm} {zm : Zm} {nx : Nat} {K : V → Nat → Prop} {fid : FuncId} {caps : V} (ho : o.op = .call ⟨.value f, args, ts⟩) (hf : ev Gl.G tm f = .fn fid caps)
    (h : callB r P fid (args.toList.map (ev Gl.G tm) ++ unL caps) .e nx fun v _ nx => K v nx) : ∃ v nx' e, K v nx' ∧ YSt P B o tm zm zm nx nx' v [] [] e := by
  obtain ⟨v, zm1, nx', k1, _, k4, k5⟩ := body_odoes hr hE ho hf (fun id _ => gm_e id) h
  refine ⟨v, nx', ⟨v, [], List.replicate (nx' - nx) deadB, []⟩, k1, ⟨rfl, by simp; omega, rfl, rfl, (by intro x hx; cases hx), (fun _ _ h => h), ?_, ?_⟩⟩
  · intro M _ C M1 ρc hs _ _ hfresh hx
    have hfr : ∀ id, nx ≤ id → id < nx' → ¬ C.al id := by
      intro id h1 h2
      have := hfresh (id - nx) (by simp; omega)
      rwa [show nx + (id - nx) = id by omega] at this
    refine (k5 nx' C M1 ρc (Nat.le_refl _) ⟨hs, (fun id b hb => by rw [gm_e] at hb; cases hb), hfr⟩ hx).mono ?_
    rintro val w' ⟨C', M', hw, hR, hz, hc⟩
    let C2 : Ctx := { C' with al := fun id => C'.al id ∨ (nx ≤ id ∧ id < nx') }
    have hk2 : Keep C' C2 := ⟨fun _ h => .inl h, fun _ _ => rfl, fun _ _ => rfl, fun _ _ h => h, fun _ _ _ => rfl⟩
    have htouch : ∀ id, touch (⟨v, [], List.replicate (nx' - nx) deadB, []⟩ : Eff) nx id = if nx ≤ id ∧ id < nx' then some deadB else none := by
      intro id
      unfold touch
      simp only [List.length_replicate, List.lookup_nil]
      by_cases h1 : nx ≤ id ∧ id < nx'
      · rw [if_pos (by omega), if_pos h1, List.getElem?_replicate, if_pos (by omega)]
      · rw [if_neg (by omega), if_neg h1]
    have hput : ∀ id blk, put M1 nx (⟨v, [], List.replicate (nx' - nx) deadB, []⟩ : Eff) id = some blk → (blk = deadB ∧ nx ≤ id ∧ id < nx') ∨ (M' id = some blk) := by
      intro id blk hb
      unfold put at hb
      rw [htouch] at hb
      by_cases h1 : nx ≤ id ∧ id < nx'
      · rw [if_pos h1] at hb
        exact .inl ⟨(Option.some.inj hb).symm, h1.1, h1.2⟩
      · rw [if_neg h1] at hb
        have := (hc.fr id (by omega) (gm_e id)).1
        exact .inr (by rw [this]; exact hb)
    refine ⟨C2, hw, R.keep hk2 _ _ hR, ⟨⟨fun id h => .inl (hc.kp.al id h), hc.kp.sv, hc.kp.shp, hc.kp.ok, hc.kp.heap⟩, hc.kp.below, hc.kp.okn⟩, ⟨hz.sr.base, hz.sr.okLt, ?_, ?_, ?_, ?_, fun g => R.keep hk2 _ _ (hz.sr.gl g)⟩, ?_⟩
    · intro id blk hb
      rcases hput id blk hb with ⟨_, h1, h2⟩ | h1
      · exact .inr ⟨h1, h2⟩
      · exact .inl (hz.sr.al id blk h1)
    · intro id blk hb
      rcases hput id blk hb with ⟨rfl, _, _⟩ | h1
      · trivial
      · exact (hz.sr.mem id blk h1).keep (hz.sr.al id blk h1) hk2 fun _ _ => rfl
    · intro id id' blk blk' b h1 h2 h3 h4 h5 h6
      rcases hput id blk h1 with ⟨rfl, _, _⟩ | h1
      · cases h2
      · rcases hput id' blk' h3 with ⟨rfl, _, _⟩ | h3
        · cases h4
        · exact hz.sr.sep id id' blk blk' b h1 h2 h3 h4 h5 h6
    · intro id blk b h1 h2 h3
      rcases hput id blk h1 with ⟨rfl, _, _⟩ | h1
      · cases h2
      · exact hz.sr.own id blk b h1 h2 h3
    · intro id hid
      simp only [List.length_replicate]
      rcases hid with hid | hid
      · rcases hc.al id hid with h1 | h1
        · exact .inl h1
        · exact .inr ⟨h1.1, by omega⟩
      · exact .inr ⟨hid.1, by omega⟩
  · intro hkb M hM id b hb
    have h1 : id < nx := by
      rcases Nat.lt_or_ge id nx with h1 | h1
      · exact h1
      · rw [hkb id h1] at hb; cases hb
    have : touch (⟨v, [], List.replicate (nx' - nx) deadB, []⟩ : Eff) nx id = none := by
      unfold touch
      rw [if_neg (by omega)]; rfl
    simp only [put, this]
    exact hM id b hb

theorem yop_iso (hr : RunOK P B r) (hE : Env P ct) {o : Oper} {tm : Tm} {zm : Zm} {nx : Nat} {K : KT} (h : yop (isoCL r P ct) P Gl.G tm o.op zm nx K) :
    ∃ v zm' nx' up rd e, K v zm' nx' up rd ∧ YSt P B o tm zm zm' nx nx' v up rd e := by
  unfold yop at h
  split at h
  · rename_i f args ts ho
    unfold isoCL callY at h
    split at h
    · rename_i fid caps hf
      split at h
      · rename_i c hc
        obtain ⟨v, rd, e, k1, k2⟩ := isoC_yst (B := B) hE ho hf (hE.ct fid c hc) h
        exact ⟨v, zm, nx, [], rd, e, k1, k2⟩
      · obtain ⟨v, nx', e, k1, k2⟩ := body_iso (K := fun v nx => K v zm nx [] []) hr hE ho hf h
        exact ⟨v, zm, nx', [], [], e, k1, k2⟩
    · exact h.elim
  · obtain ⟨e, he, hk⟩ := rsK_inv h
    obtain ⟨h1, h2⟩ := yop1_s (B := B) he
    exact ⟨_, _, _, _, _, e, hk, YSt.of h1 h2⟩

/-- The trace so far. -/
structure YTr (P : Program) (B : Nat) (ops : Array Oper) (N : Nat) (tm0 : Tm) (zm0 : Zm) (nx0 : Nat) (tm : Tm) (zm : Zm) (nx : Nat) (tr : List TE) (zs : List ZTE) : Prop where
  corr : Corr tr zs
  tv : ∀ t, tv tm t = Ab.look wrT (tv tm0) (fun _ => true) tr t
  nxe : nx = nextId nx0 tr
  le : nx0 ≤ nx
  kb : KB zm nx
  mem : ∀ M, Sub (gm zm0) M → Valid P B Gl.G ops N (Y.tv tm0) M nx0 tr ∧ Sub (gm zm) (Ab.look wrM M (fun _ => true) tr) ∧
    ∀ id, (id < nx0 ∨ nx ≤ id) → gm zm0 id = none → Ab.look wrM M (fun _ => true) tr id = M id ∧ gm zm id = none

theorem rdraw_tr (hr : RunOK P B r) (hE : Env P ct) {ops : Array Oper} {N : Nat} {tm0 : Tm} {zm0 : Zm} {nx0 : Nat} {K : Tm → Zm → Nat → List ZTE → Prop} :
    ∀ (l : List Oper) (tm : Tm) (zm : Zm) (nx : Nat) (tr : List TE) (zs : List ZTE), (∀ k, ops[tr.length + k]? = l[k]?) → (∀ o ∈ l, dOk N o.dst = true) → YTr P B ops N tm0 zm0 nx0 tm zm nx tr zs → rdraw (isoCL r P ct) P Gl.G ops.toList l tm zm nx zs K →
      ∃ tm' zm' nx' tr' zs', K tm' zm' nx' zs' ∧ YTr P B ops N tm0 zm0 nx0 tm' zm' nx' tr' zs' ∧ tr'.length = tr.length + l.length
  | [], tm, zm, nx, tr, zs, _, _, hz, h => ⟨tm, zm, nx, tr, zs, h, hz, rfl⟩
  | o :: l, tm, zm, nx, tr, zs, hops, hD, hz, h => by
    have hop : ops[tr.length]? = some o := by have := hops 0; simpa using this
    have hops' : ∀ k, ops[tr.length + 1 + k]? = l[k]? := by
      intro k
      have := hops (k + 1)
      simp only [List.getElem?_cons_succ] at this
      rw [← this]; congr 1; omega
    have hd := hD o (by simp)
    have hD' : ∀ o ∈ l, dOk N o.dst = true := fun o ho => hD o (by simp [ho])
    have hdst : ∀ d, o.dst = some d → d < N := by intro d h1; rw [h1] at hd; simpa [dOk] using hd
    have hlook : ∀ (v : V) (te : TE), te.o = o → te.e.v = v → ∀ tm1, Same tm tm1 → ∀ t, tv (putT o.dst v tm1) t = Ab.look wrT (tv tm0) (fun _ => true) (te :: tr) t := by
      intro v te h1 h2 tm1 hsm t
      simp only [Ab.look, if_true, wrT, h1, h2]
      rw [← hz.tv t]
      cases ho : o.dst with
      | none => exact hsm t
      | some d =>
        by_cases hdt : t = d
        · subst hdt; simp [putT, tv_set]
        · have hdt' : ¬ d = t := fun e => hdt e.symm
          simp [putT, tv_set, hdt, hdt']
          exact hsm t
    have h0 : grdK ops.toList o.guard tm
        (fun tm => yop (isoCL r P ct) P Gl.G tm o.op zm nx fun v zm nx' up rd => putD o.dst v tm fun tm => rdraw (isoCL r P ct) P Gl.G ops.toList l tm zm nx' (.mk o nx nx' up rd :: zs) K)
        (fun tm => putD o.dst (.tup .nl) tm fun tm => rdraw (isoCL r P ct) P Gl.G ops.toList l tm zm nx (.mk o nx nx [] [] :: zs) K) := h
    rcases grdK_pure h0 with ⟨_, hw, tm1, hsm, h1⟩ | ⟨_, hw, tm1, hsm, h1⟩
    · obtain ⟨v, zm1, nx1, up, rd, e, k1, k2⟩ := yop_iso hr hE h1
      rw [putD_eq] at k1
      have hne := k2.nxt
      refine (?_ : ∃ tm' zm' nx' tr' zs', K tm' zm' nx' zs' ∧ YTr P B ops N tm0 zm0 nx0 tm' zm' nx' tr' zs' ∧ tr'.length = tr.length + 1 + l.length) |> fun ⟨a, b, c, d, e, f, g, hh⟩ => ⟨a, b, c, d, e, f, g, by rw [hh]; simp; omega⟩
      have hcorr : Corr (⟨o, e, nx, false⟩ :: tr) (.mk o nx nx1 up rd :: zs) := ⟨hz.corr, rfl, rfl, by show nx + e.nw.length = nx1; omega, k2.ups, k2.rds⟩
      refine rdraw_tr hr hE l _ zm1 nx1 (⟨o, e, nx, false⟩ :: tr) _ (by simpa using hops') hD' ⟨hcorr, hlook v ⟨o, e, nx, false⟩ rfl k2.val tm1 hsm, ?_, ?_, k2.kb hz.kb, ?_⟩ k1
      · show nx1 = nx + e.nw.length; exact hne
      · have := hz.le; omega
      · intro M hM
        obtain ⟨m1, m2, m3⟩ := hz.mem M hM
        have hS : (fun id => Ab.look wrM M (fun _ => true) (⟨o, e, nx, false⟩ :: tr) id) = put (Ab.look wrM M (fun _ => true) tr) nx e := by
          funext id
          simp only [Ab.look, if_true, look_wrM M]
          rfl
        refine ⟨⟨m1, hop, hz.nxe, hdst, ?_, ?_⟩, ?_, ?_⟩
        · exact hw _ fun t => (hz.tv t).symm
        · simp only [Bool.false_eq_true, if_false]
          have h5 := k2.sem _ m2
          have : ev Gl.G tm1 = opv Gl.G (Ab.look wrT (tv tm0) (fun _ => true) tr) := by
            unfold ev
            congr 1
            funext t
            exact (hsm t).trans (hz.tv t)
          rw [← this]; exact h5
        · have := k2.sub hz.kb _ m2
          intro id b hb
          have h6 := this id b hb
          rw [← hS] at h6
          exact h6
        · intro id hid hn
          obtain ⟨q1, q2⟩ := m3 id (by have := hz.le; omega) hn
          refine ⟨?_, k2.kn id (by have := hz.le; omega) q2⟩
          have h7 := congrFun hS id
          rw [show Ab.look wrM M (fun _ => true) (⟨o, e, nx, false⟩ :: tr) id = put (Ab.look wrM M (fun _ => true) tr) nx e id from h7]
          have ht : touch e nx id = none := by
            unfold touch
            rw [if_neg (by have := hz.le; omega)]
            cases hl : e.up.lookup id with
            | none => rfl
            | some b =>
              exfalso
              obtain ⟨x, hx, e1⟩ := lookup_mem hl
              obtain ⟨b', hb'⟩ := k2.upk x hx
              rw [e1, q2] at hb'; cases hb'
          simp only [put, ht]
          exact q1
    · rw [putD_eq] at h1
      refine (?_ : ∃ tm' zm' nx' tr' zs', K tm' zm' nx' zs' ∧ YTr P B ops N tm0 zm0 nx0 tm' zm' nx' tr' zs' ∧ tr'.length = tr.length + 1 + l.length) |> fun ⟨a, b, c, d, e, f, g, hh⟩ => ⟨a, b, c, d, e, f, g, by rw [hh]; simp; omega⟩
      have hcorr : Corr (⟨o, skipE, nx, true⟩ :: tr) (.mk o nx nx [] [] :: zs) := ⟨hz.corr, rfl, rfl, rfl, rfl, rfl⟩
      refine rdraw_tr hr hE l _ zm nx (⟨o, skipE, nx, true⟩ :: tr) _ (by simpa using hops') hD' ⟨hcorr, hlook (.tup .nl) ⟨o, skipE, nx, true⟩ rfl rfl tm1 hsm, ?_, hz.le, hz.kb, ?_⟩ h1
      · show nx = nx + 0; rfl
      · intro M hM
        obtain ⟨m1, m2, m3⟩ := hz.mem M hM
        have hS : ∀ id, Ab.look wrM M (fun _ => true) (⟨o, skipE, nx, true⟩ :: tr) id = Ab.look wrM M (fun _ => true) tr id := by
          intro id
          simp only [Ab.look, if_true, look_wrM M]
          have h1 : ¬ (nx ≤ id ∧ id < nx + 0) := by omega
          simp only [skipE, touch, List.length_nil, h1, if_false, List.lookup_nil]
        refine ⟨⟨m1, hop, hz.nxe, hdst, hw _ fun t => (hz.tv t).symm, by simp [skipE]⟩, fun id b hb => by rw [hS]; exact m2 id b hb, fun id hid hn => by rw [hS]; exact m3 id hid hn⟩
end
end
end Go.Y
