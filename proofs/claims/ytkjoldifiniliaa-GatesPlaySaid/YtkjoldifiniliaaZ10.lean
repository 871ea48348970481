/- The run is right: regions in whatever order. No condition. -/
import Derived.Test.YtkjoldifiniliaaZ9
set_option linter.unusedVariables false
set_option linter.unusedSimpArgs false
set_option linter.constructorNameAsVariable false
namespace Go.Ab
open Go.RowKit
noncomputable section

/-! ### What a list of operations writes and reads -/
/-- A trace, and what has been written down of it. -/
def Corr : List TE → List ZTE → Prop
  | [], [] => True
  | te :: r, z :: s => Corr r s ∧ te.o = z.o ∧ te.n = z.lo ∧ te.n + te.e.nw.length = z.hi ∧ te.e.up.map (·.1) = z.up ∧ te.e.rd = z.rd
  | _, _ => False
theorem Corr.length : ∀ {tr : List TE} {s : List ZTE}, Corr tr s → tr.length = s.length
  | [], [], _ => rfl
  | te :: r, z :: s, h => by simp [Corr.length h.1]
  | [], _ :: _, h => h.elim
  | _ :: _, [], h => h.elim

theorem zup_any {l : List Nat} {id : Nat} : (l.any fun j => Nat.beq j id) = l.contains id := by
  induction l with
  | nil => rfl
  | cons x l ih =>
    simp only [List.any_cons, ih, List.contains_cons]
    congr 1
    rw [Bool.eq_iff_iff, Nat.beq_eq, beq_iff_eq]
    exact ⟨fun h => h.symm, fun h => h.symm⟩
theorem inNew_iff {z : ZTE} {id : Nat} : inNew z id = true ↔ z.lo ≤ id ∧ id < z.hi := by
  unfold inNew
  rw [Bool.and_eq_true, Nat.ble_eq, Nat.ble_eq]
  exact Iff.rfl
theorem wids_in {te : TE} {z : ZTE} (h1 : te.n = z.lo) (h2 : te.n + te.e.nw.length = z.hi) (h3 : te.e.up.map (·.1) = z.up) {id : Nat} (h : id ∈ wids te) : zin z id = true := by
  unfold zin
  rw [Bool.or_eq_true]
  unfold wids at h
  rcases List.mem_append.1 h with h | h
  · exact .inl (by rw [zup_any, List.contains_iff_mem, ← h3]; exact h)
  · obtain ⟨h4, h5⟩ := List.mem_range'_1.1 h
    exact .inr (inNew_iff.2 ⟨by omega, by omega⟩)
theorem clashM_z {te te' : TE} {z z' : ZTE} (h1 : te.n = z.lo) (h2 : te.n + te.e.nw.length = z.hi) (h3 : te.e.up.map (·.1) = z.up) (h4 : te.e.rd = z.rd)
    (k1 : te'.n = z'.lo) (k2 : te'.n + te'.e.nw.length = z'.hi) (k3 : te'.e.up.map (·.1) = z'.up) (k4 : te'.e.rd = z'.rd) (h : clashM te te' = true) : zclashM z z' = true := by
  unfold clashM at h
  unfold zclashM
  simp only [Bool.or_eq_true, List.any_eq_true] at h ⊢
  rcases h with ⟨id, hid, hc⟩ | ⟨id, hid, hc⟩
  · have hrd : te.e.rd.contains id = true → zrd z id = true := fun h5 => by unfold zrd; rw [zup_any, ← h4]; exact h5
    unfold wids at hid
    rcases List.mem_append.1 hid with hu | hn
    · refine .inl (.inl (.inl (.inl ⟨id, by rw [← k3]; exact hu, ?_⟩)))
      rcases hc with hc | hc
      · exact .inl (wids_in h1 h2 h3 (List.contains_iff_mem.1 hc))
      · exact .inr (hrd hc)
    · obtain ⟨a1, a2⟩ := List.mem_range'_1.1 hn
      have hin : inNew z' id = true := inNew_iff.2 ⟨by omega, by omega⟩
      rcases hc with hc | hc
      · have hm := List.contains_iff_mem.1 hc
        unfold wids at hm
        rcases List.mem_append.1 hm with hm | hm
        · exact .inl (.inl (.inr ⟨id, by rw [← h3]; exact hm, hin⟩))
        · obtain ⟨b1, b2⟩ := List.mem_range'_1.1 hm
          refine .inr ?_
          rw [Bool.and_eq_true, Nat.ble_eq, Nat.ble_eq]
          exact ⟨by show z.lo < z'.hi; omega, by show z'.lo < z.hi; omega⟩
      · exact .inl (.inr ⟨id, by rw [← h4]; exact List.contains_iff_mem.1 hc, hin⟩)
  · exact .inl (.inl (.inl (.inr ⟨id, by rw [← k4]; exact hid, wids_in h1 h2 h3 (List.contains_iff_mem.1 hc)⟩)))
theorem clash_o {te te' : TE} {ops : Array Oper} : clash te te' ops = clashO te.o te'.o ops := rfl
theorem edge_o {te : TE} {k : Nat} : edge te k = edgeO te.o k := rfl
theorem against_z {ops : Array Oper} {te : TE} {z : ZTE} (h0 : te.o = z.o) (h1 : te.n = z.lo) (h2 : te.n + te.e.nw.length = z.hi) (h3 : te.e.up.map (·.1) = z.up) (h4 : te.e.rd = z.rd) :
    ∀ {r : List TE} {s : List ZTE}, Corr r s → drawZ.against ops z s = true → drawOk.against ops te r = true
  | [], [], _, _ => rfl
  | te' :: r, z' :: s, hc, h => by
    obtain ⟨c0, c1, c2, c3, c4, c5⟩ := hc
    simp only [drawZ.against, Bool.and_eq_true, Bool.or_eq_true, Bool.not_eq_true', Bool.or_eq_false_iff] at h
    simp only [drawOk.against, Bool.and_eq_true, Bool.or_eq_true, Bool.not_eq_true', Bool.or_eq_false_iff]
    refine ⟨?_, against_z h0 h1 h2 h3 h4 c0 h.2⟩
    rcases h.1 with h5 | ⟨h5, h6⟩
    · exact .inl (by rw [edge_o, h0, c0.length]; exact h5)
    · refine .inr ⟨by rw [clash_o, h0, c1]; exact h5, ?_⟩
      cases hm : clashM te te' with
      | false => rfl
      | true => rw [clashM_z h1 h2 h3 h4 c2 c3 c4 c5 hm] at h6; cases h6
  | [], _ :: _, hc, _ => hc.elim
  | _ :: _, [], hc, _ => hc.elim
theorem drawZ_ok {ops : Array Oper} : ∀ {tr : List TE} {s : List ZTE}, Corr tr s → drawZ ops s = true → drawOk ops tr = true
  | [], [], _, _ => rfl
  | te :: r, z :: s, hc, h => by
    obtain ⟨c0, c1, c2, c3, c4, c5⟩ := hc
    simp only [drawZ, Bool.and_eq_true] at h
    simp only [drawOk, Bool.and_eq_true]
    refine ⟨⟨drawZ_ok c0 h.1.1, by rw [c1, c0.length]; exact h.1.2⟩, against_z c1 c2 c3 c4 c5 c0 h.2⟩
  | [], _ :: _, hc, _ => hc.elim
  | _ :: _, [], hc, _ => hc.elim

/-! ### Operations -/
section
variable {P : Program} {B : Nat} {FT : FTb} {T : Tr TI} {r : RUN}

/-- What an operation has done, a call as well. -/
structure ZSt (P : Program) (B : Nat) (o : Oper) (tm zm zm' : Tr X) (nx nx' : Pth) (v : X) (up rd : List Pth) (e : Eff) : Prop where
  val : e.v = v.toV P
  wf : WFT P v
  wfm : WFM P zm'
  nxt : num nx' = num nx + e.nw.length
  ups : e.up.map (·.1) = up.map num
  rds : e.rd = rd.map num
  upk : ∀ x ∈ e.up, ∃ b, zmem P zm x.1 = some b
  kn : ∀ id, (id < num nx ∨ num nx' ≤ id) → zmem P zm id = none → zmem P zm' id = none
  sem : ∀ M, Sub (zmem P zm) M → OpSem P B o (rho P tm) M (num nx) e
  sub : (∀ id, num nx ≤ id → zmem P zm id = none) → ∀ M, Sub (zmem P zm) M → Sub (zmem P zm') (put M (num nx) e)

theorem ZStep.st {o : Oper} {tm zm zm' : Tr X} {nx nx' : Pth} {v : X} {up rd : List Pth} {e : Eff} (h : ZStep P B o tm zm zm' nx nx' v up rd e) : ZSt P B o tm zm zm' nx nx' v up rd e :=
  ⟨h.val, h.wf, h.wfm, h.nxt, h.ups, h.rds, h.upk, h.kn, h.sem, fun _ => h.sub⟩

def deadB : Blk := ⟨.dead, .nl, .unk⟩
theorem wfm_e : WFM P .e := fun p => by rw [get_e]; trivial
theorem zmem_e (id : Nat) : zmem P .e id = none := by unfold zmem; rw [get_e]; rfl

theorem call_iso (hr : RunOK P B r) (hF : FTok P FT) (hT : TTok P T) {o : Oper} {f : Operand} {args : Array Operand} {ts : Array TypeId} {tm zm : Tr X} {nx : Pth} {K : KT} (ho : o.op = .call ⟨.value f, args, ts⟩)
    (hws : WFS P tm) (hwm : WFM P zm) (hwl : ∀ y ∈ evL tm args.toList, WF P y) (h : callZ r FT T (evO tm f) (evL tm args.toList) .e nx fun v _ nx => K v zm nx [] []) :
    ∃ v nx' e, K v zm nx' [] [] ∧ ZSt P B o tm zm zm nx nx' v [] [] e := by
  obtain ⟨v, zm1, nx', k1, k2, k3, _, k4, k5⟩ := call_odoes hr hF hT ho hws wfm_e (fun id _ => zmem_e id) hwl h
  refine ⟨v, nx', ⟨v.toV P, [], List.replicate (num nx' - num nx) deadB, []⟩, k1, ⟨rfl, k2, hwm, by simp; omega, rfl, rfl, (by intro x hx; cases hx), (fun _ _ h => h), ?_, ?_⟩⟩
  · intro M _ C M1 ρc hs _ _ hfresh hx
    have hfr : ∀ id, num nx ≤ id → id < num nx' → ¬ C.al id := by
      intro id h1 h2
      have := hfresh (id - num nx) (by simp; omega)
      rwa [show num nx + (id - num nx) = id by omega] at this
    refine (k5 (num nx') C M1 ρc (Nat.le_refl _) ⟨hs, (fun id b hb => by rw [zmem_e] at hb; cases hb), hfr, wfm_e⟩ hx).mono ?_
    rintro val w' ⟨C', M', hw, hR, hz, hc⟩
    let C2 : Ctx := { C' with al := fun id => C'.al id ∨ (num nx ≤ id ∧ id < num nx') }
    have hk2 : Keep C' C2 := ⟨fun _ h => .inl h, fun _ _ => rfl, fun _ _ => rfl, fun _ _ h => h, fun _ _ _ => rfl⟩
    have htouch : ∀ id, touch (⟨v.toV P, [], List.replicate (num nx' - num nx) deadB, []⟩ : Eff) (num nx) id = if num nx ≤ id ∧ id < num nx' then some deadB else none := by
      intro id
      unfold touch
      simp only [List.length_replicate, List.lookup_nil]
      by_cases h1 : num nx ≤ id ∧ id < num nx'
      · rw [if_pos (by omega), if_pos h1, List.getElem?_replicate, if_pos (by omega)]
      · rw [if_neg (by omega), if_neg h1]
    have hput : ∀ id blk, put M1 (num nx) (⟨v.toV P, [], List.replicate (num nx' - num nx) deadB, []⟩ : Eff) id = some blk → (blk = deadB ∧ num nx ≤ id ∧ id < num nx') ∨ (M' id = some blk) := by
      intro id blk hb
      unfold put at hb
      rw [htouch] at hb
      by_cases h1 : num nx ≤ id ∧ id < num nx'
      · rw [if_pos h1] at hb
        exact .inl ⟨(Option.some.inj hb).symm, h1.1, h1.2⟩
      · rw [if_neg h1] at hb
        have := (hc.fr id (by omega) (zmem_e id)).1
        exact .inr (by rw [this]; exact hb)
    refine ⟨C2, hw, R.keep hk2 _ _ hR, ⟨⟨fun id h => .inl (hc.kp.al id h), hc.kp.sv, hc.kp.shp, hc.kp.ok, hc.kp.heap⟩, hc.kp.below, hc.kp.okn⟩, ⟨hz.sr.base, hz.sr.okLt, ?_, ?_, ?_, ?_⟩, ?_⟩
    · intro id blk hb
      rcases hput id blk hb with ⟨_, h1, h2⟩ | h1
      · exact .inr ⟨h1, h2⟩
      · exact .inl (hz.sr.al id blk h1)
    · intro id blk hb
      rcases hput id blk hb with ⟨rfl, _, _⟩ | h1
      · trivial
      · exact (hz.sr.mem id blk h1).keep (hz.sr.al id blk h1) hk2 fun _ _ => rfl
    · intro id id' blk blk' b h1 h2 h3 h4 h5 h6
      rcases hput id blk h1 with ⟨rfl, _, _⟩ | h1
      · cases h2
      · rcases hput id' blk' h3 with ⟨rfl, _, _⟩ | h3
        · cases h4
        · exact hz.sr.sep id id' blk blk' b h1 h2 h3 h4 h5 h6
    · intro id blk b h1 h2 h3
      rcases hput id blk h1 with ⟨rfl, _, _⟩ | h1
      · cases h2
      · exact hz.sr.own id blk b h1 h2 h3
    · intro id hid
      simp only [List.length_replicate]
      rcases hid with hid | hid
      · rcases hc.al id hid with h1 | h1
        · exact .inl h1
        · exact .inr ⟨h1.1, by omega⟩
      · exact .inr ⟨hid.1, by omega⟩
  · intro hkb M hM id b hb
    have h1 : id < num nx := by
      rcases Nat.lt_or_ge id (num nx) with h1 | h1
      · exact h1
      · rw [hkb id h1] at hb; cases hb
    have : touch (⟨v.toV P, [], List.replicate (num nx' - num nx) deadB, []⟩ : Eff) (num nx) id = none := by
      unfold touch
      rw [if_neg (by omega)]; rfl
    simp only [put, this]
    exact hM id b hb

theorem zop_iso (hr : RunOK P B r) (hF : FTok P FT) (hT : TTok P T) {o : Oper} {tm zm : Tr X} {nx : Pth} {K : KT} (hws : WFS P tm) (hwm : WFM P zm) (h : zop (isoCL r FT T) T tm o.op zm nx K) :
    ∃ v zm' nx' up rd e, K v zm' nx' up rd ∧ ZSt P B o tm zm zm' nx nx' v up rd e := by
  rcases zop_inv (B := B) hT hwm hws h with ⟨v, zm', nx', up, rd, e, hs, hk⟩ | ⟨f, args, ts, ho, hwl, hc⟩
  · exact ⟨v, zm', nx', up, rd, e, hk, hs.st⟩
  · obtain ⟨v, nx', e, k1, k2⟩ := call_iso hr hF hT ho hws hwm hwl hc
    exact ⟨v, zm, nx', [], [], e, k1, k2⟩
end
end
end Go.Ab
