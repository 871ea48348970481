/- The run is right: regions in whatever order; code. No condition. -/
import Derived.Test.YtkjoldifiniliaaZ10
set_option linter.unusedVariables false
set_option linter.unusedSimpArgs false
set_option linter.constructorNameAsVariable false
namespace Go.Ab
open Go.RowKit
noncomputable section
section
variable {P : Program} {B : Nat} {FT : FTb} {T : Tr TI} {r : RUN}

def tmV (P : Program) (tm : Tr X) : Nat → V := fun t => (get .unk (enc t) tm).toV P

/-- The trace so far. -/
structure ZTr (P : Program) (B : Nat) (ops : Array Oper) (N : Nat) (tm0 zm0 : Tr X) (nx0 : Pth) (tm zm : Tr X) (nx : Pth) (tr : List TE) (zs : List ZTE) : Prop where
  corr : Corr tr zs
  tv : ∀ t, tmV P tm t = look wrT (tmV P tm0) (fun _ => true) tr t
  nxe : num nx = nextId (num nx0) tr
  le : num nx0 ≤ num nx
  wfs : WFS P tm
  wfm : WFM P zm
  kb : ∀ id, num nx ≤ id → zmem P zm id = none
  mem : ∀ M, Sub (zmem P zm0) M → Valid P B (fun _ => .unk) ops N (tmV P tm0) M (num nx0) tr ∧ Sub (zmem P zm) (look wrM M (fun _ => true) tr) ∧
    ∀ id, (id < num nx0 ∨ num nx ≤ id) → zmem P zm0 id = none → look wrM M (fun _ => true) tr id = M id ∧ zmem P zm id = none

theorem rdraw_tr (hr : RunOK P B r) (hF : FTok P FT) (hT : TTok P T) {ops : Array Oper} {N : Nat} {tm0 zm0 : Tr X} {nx0 : Pth} {K : Tr X → Tr X → Pth → List ZTE → Prop} :
    ∀ (l : List Oper) (tm zm : Tr X) (nx : Pth) (tr : List TE) (zs : List ZTE), (∀ k, ops[tr.length + k]? = l[k]?) → (∀ o ∈ l, dOk N o.dst = true) → ZTr P B ops N tm0 zm0 nx0 tm zm nx tr zs → rdraw (isoCL r FT T) T ops.toList l tm zm nx zs K →
      ∃ tm' zm' nx' tr' zs', K tm' zm' nx' zs' ∧ ZTr P B ops N tm0 zm0 nx0 tm' zm' nx' tr' zs' ∧ tr'.length = tr.length + l.length
  | [], tm, zm, nx, tr, zs, _, _, hz, h => ⟨tm, zm, nx, tr, zs, h, hz, rfl⟩
  | o :: l, tm, zm, nx, tr, zs, hops, hD, hz, h => by
    have hop : ops[tr.length]? = some o := by have := hops 0; simpa using this
    have hops' : ∀ k, ops[tr.length + 1 + k]? = l[k]? := by
      intro k
      have := hops (k + 1)
      simp only [List.getElem?_cons_succ] at this
      rw [← this]; congr 1; omega
    have hd := hD o (by simp)
    have hD' : ∀ o ∈ l, dOk N o.dst = true := fun o ho => hD o (by simp [ho])
    have hdst : ∀ d, o.dst = some d → d < N := by intro d h1; rw [h1] at hd; simpa [dOk] using hd
    have hlook : ∀ (v : X) (te : TE), te.o = o → te.e.v = v.toV P → ∀ tm1, Same P tm tm1 → ∀ t, tmV P (putT o.dst v tm1) t = look wrT (tmV P tm0) (fun _ => true) (te :: tr) t := by
      intro v te h1 h2 tm1 hsm t
      simp only [look, if_true, wrT, h1, h2]
      rw [← hz.tv t]
      cases ho : o.dst with
      | none => exact hsm.tv t
      | some d =>
        by_cases hdt : d = t
        · subst hdt; simp [putT, tmV, get_set_same]
        · have hne : enc t ≠ enc d := fun e => hdt (enc_inj e).symm
          simp [putT, tmV, get_set_ne _ _ _ _ _ hne, hdt]
          exact hsm.tv t
    have hput : ∀ {v : X} {tm1 : Tr X}, Same P tm tm1 → WFT P v → WFS P (putT o.dst v tm1) := by
      intro v tm1 hsm hv
      unfold putT
      split
      · exact wfs_set (hsm.wf hz.wfs) hv
      · exact hsm.wf hz.wfs
    have hwt : WFT P (.tup []) := .tup (by intro y hy; cases hy)
    have h0 : grdK ops.toList o.guard tm
        (fun tm => zop (isoCL r FT T) T tm o.op zm nx fun v zm nx' up rd => putD o.dst v tm fun tm => forceN (num nx) fun lo => forceN (num nx') fun hi => numsK up fun up => numsK rd fun rd => rdraw (isoCL r FT T) T ops.toList l tm zm nx' (.mk o lo hi up rd :: zs) K)
        (fun tm => putD o.dst (.tup []) tm fun tm => forceN (num nx) fun lo => rdraw (isoCL r FT T) T ops.toList l tm zm nx (.mk o lo lo [] [] :: zs) K) := h
    have hnums : ∀ (l : List Pth) (f : List Nat → Prop), numsK l f → f (l.map num) := by
      intro l
      induction l with
      | nil => intro f h; exact h
      | cons p l ih =>
        intro f h
        have h1 : forceN (num p) (fun n => numsK l fun l => f (n :: l)) := h
        rw [forceN_eq] at h1
        exact ih _ h1
    rcases grdK_pure (P := P) h0 with ⟨_, hw, tm1, hsm, h1⟩ | ⟨_, hw, tm1, hsm, h1⟩
    · obtain ⟨v, zm1, nx1, up, rd, e, k1, k2⟩ := zop_iso hr hF hT (hsm.wf hz.wfs) hz.wfm h1
      rw [putD_eq, forceN_eq, forceN_eq] at k1
      have k3 := hnums _ _ (hnums _ _ k1)
      have hne := k2.nxt
      refine (?_ : ∃ tm' zm' nx' tr' zs', K tm' zm' nx' zs' ∧ ZTr P B ops N tm0 zm0 nx0 tm' zm' nx' tr' zs' ∧ tr'.length = tr.length + 1 + l.length) |> fun ⟨a, b, c, d, e, f, g, hh⟩ => ⟨a, b, c, d, e, f, g, by rw [hh]; simp; omega⟩
      have hcorr : Corr (⟨o, e, num nx, false⟩ :: tr) (.mk o (num nx) (num nx1) (up.map num) (rd.map num) :: zs) := ⟨hz.corr, rfl, rfl, by show num nx + e.nw.length = num nx1; omega, k2.ups, k2.rds⟩
      refine rdraw_tr hr hF hT l _ zm1 nx1 (⟨o, e, num nx, false⟩ :: tr) _ (by simpa using hops') hD' ⟨hcorr, hlook v _ rfl k2.val tm1 hsm, ?_, ?_, hput hsm k2.wf, k2.wfm, ?_, ?_⟩ k3
      · show num nx1 = num nx + e.nw.length; exact hne
      · have := hz.le; omega
      · intro id hid
        have := hz.kb id (by omega)
        exact k2.kn id (.inr hid) this
      · intro M hM
        obtain ⟨m1, m2, m3⟩ := hz.mem M hM
        have hS : (fun id => look wrM M (fun _ => true) (⟨o, e, num nx, false⟩ :: tr) id) = put (look wrM M (fun _ => true) tr) (num nx) e := by
          funext id
          simp only [look, if_true, look_wrM M]
          rfl
        refine ⟨⟨m1, hop, hz.nxe, hdst, ?_, ?_⟩, ?_, ?_⟩
        · exact hw _ fun t => (hz.tv t).symm
        · simp only [Bool.false_eq_true, if_false]
          have h5 := k2.sem _ m2
          have : rho P tm1 = opv (fun _ => .unk) (look wrT (tmV P tm0) (fun _ => true) tr) := by
            unfold rho
            congr 1
            funext t
            exact (hsm.tv t).trans (hz.tv t)
          rw [← this]; exact h5
        · have := k2.sub hz.kb _ m2
          intro id b hb
          have h6 := this id b hb
          rw [← hS] at h6
          exact h6
        · intro id hid hn
          obtain ⟨q1, q2⟩ := m3 id (by have := hz.le; omega) hn
          refine ⟨?_, k2.kn id (by have := hz.le; omega) q2⟩
          have h7 := congrFun hS id
          rw [show look wrM M (fun _ => true) (⟨o, e, num nx, false⟩ :: tr) id = put (look wrM M (fun _ => true) tr) (num nx) e id from h7]
          have ht : touch e (num nx) id = none := by
            unfold touch
            rw [if_neg (by have := hz.le; omega)]
            cases hl : e.up.lookup id with
            | none => rfl
            | some b =>
              exfalso
              have : ∀ (l : List (Nat × Blk)), l.lookup id = some b → ∃ x ∈ l, x.1 = id := by
                intro l
                induction l with
                | nil => intro h; cases h
                | cons x l ih =>
                  intro h
                  simp only [List.lookup] at h
                  cases hx : id == x.1 with
                  | true => exact ⟨x, by simp, (by simpa using hx : id = x.1).symm⟩
                  | false =>
                    rw [hx] at h
                    obtain ⟨y, hy, e⟩ := ih h
                    exact ⟨y, by simp [hy], e⟩
              obtain ⟨x, hx, e1⟩ := this _ hl
              obtain ⟨b', hb'⟩ := k2.upk x hx
              rw [e1, q2] at hb'; cases hb'
          simp only [put, ht]
          exact q1
    · rw [putD_eq, forceN_eq] at h1
      refine (?_ : ∃ tm' zm' nx' tr' zs', K tm' zm' nx' zs' ∧ ZTr P B ops N tm0 zm0 nx0 tm' zm' nx' tr' zs' ∧ tr'.length = tr.length + 1 + l.length) |> fun ⟨a, b, c, d, e, f, g, hh⟩ => ⟨a, b, c, d, e, f, g, by rw [hh]; simp; omega⟩
      have hcorr : Corr (⟨o, skipE, num nx, true⟩ :: tr) (.mk o (num nx) (num nx) [] [] :: zs) := ⟨hz.corr, rfl, rfl, rfl, rfl, rfl⟩
      refine rdraw_tr hr hF hT l _ zm nx (⟨o, skipE, num nx, true⟩ :: tr) _ (by simpa using hops') hD' ⟨hcorr, hlook (.tup []) _ rfl rfl tm1 hsm, ?_, hz.le, hput hsm hwt, hz.wfm, hz.kb, ?_⟩ h1
      · show num nx = num nx + 0; rfl
      · intro M hM
        obtain ⟨m1, m2, m3⟩ := hz.mem M hM
        have hS : ∀ id, look wrM M (fun _ => true) (⟨o, skipE, num nx, true⟩ :: tr) id = look wrM M (fun _ => true) tr id := by
          intro id
          simp only [look, if_true, look_wrM M]
          have h1 : ¬ (num nx ≤ id ∧ id < num nx + 0) := by omega
          simp only [skipE, touch, List.length_nil, h1, if_false, List.lookup_nil]
        refine ⟨⟨m1, hop, hz.nxe, hdst, hw _ fun t => (hz.tv t).symm, by simp [skipE]⟩, fun id b hb => by rw [hS]; exact m2 id b hb, fun id hid hn => by rw [hS]; exact m3 id hid hn⟩
end
end
end Go.Ab
