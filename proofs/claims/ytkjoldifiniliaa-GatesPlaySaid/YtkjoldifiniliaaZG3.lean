/- Contracts of the gates, for the run. No condition. -/
import Derived.Test.YtkjoldifiniliaaZG2
import Derived.Test.YtkjoldifiniliaaG1C
set_option linter.unusedVariables false
set_option linter.unusedSimpArgs false
namespace Go.Ab
open Go.Proofs
noncomputable section
attribute [local irreducible] run callZ
def gateK (x : X) (f : Int → Int → Prop) : Prop := asAgg x fun l => consK l fun x l => consK l fun y l => xNil l (numV .i64 x fun c => numV .i64 y fun i => f c i)
theorem gateK_inv {P : Program} {x : X} {f : Int → Int → Prop} (h : gateK x f) : ∃ c i, x.toV P = .cons (.int .i64 c) (.cons (.int .i64 i) .nl) ∧ f c i := by
  obtain ⟨_, l, rfl, h1⟩ := asAgg_inv h
  obtain ⟨x, r, rfl, h2⟩ := consK_inv h1
  obtain ⟨y, r, rfl, h3⟩ := consK_inv h2
  obtain ⟨rfl, h4⟩ := xNil_inv h3
  obtain ⟨c, hc, h5⟩ := numV_inv (P := P) h4
  obtain ⟨i, hi, h6⟩ := numV_inv (P := P) h5
  exact ⟨c, i, by simp only [X.toV, X.toVL, hc, hi], h6⟩
theorem sh13 : shOf Try.prog (nat_lit 13) = .cons .sc (.cons .sc .nl) := by kernel_rfl
theorem wfG (a b : Int) : WF Try.prog (.agg (nat_lit 13) [.sint .i64 a, .sint .i64 b]) := .agg (by rw [sh13]; rfl) (by
  intro x hx
  simp only [List.mem_cons, List.not_mem_nil, or_false] at hx
  rcases hx with rfl | rfl <;> exact .lf rfl)
theorem wfGE (a b e : Int) : WFT Try.prog (.tup [.agg (nat_lit 13) [.sint .i64 a, .sint .i64 b], .sint .i64 e]) := .tup (by
  intro x hx
  simp only [List.mem_cons, List.not_mem_nil, or_false] at hx
  rcases hx with rfl | rfl
  · exact wfG a b
  · exact .lf rfl)
def g7 (l : List X) (K : X → Prop) : Prop := consK l fun x0 l => xNil l (gateK x0 fun c i => K (.tup [(.agg (nat_lit 13) [.sint .i64 (if enE c i = 0 then c else 0), .sint .i64 (if enE c i = 0 then i + 1 else 0)]), .sint .i64 (enE c i)]))
theorem ct7 : CtOK Try.prog 7 g7 := ct_of c7 fun l K h hl => by
  obtain ⟨x0, r0, rfl, a0⟩ := consK_inv h
  obtain ⟨rfl, b0⟩ := xNil_inv a0
  obtain ⟨c, i, q0, b1⟩ := gateK_inv (P := Try.prog) b0
  exact ⟨_, [(.cons (.int .i64 c) (.cons (.int .i64 i) .nl))], b1, wfGE _ _ _, by simp only [X.toVL, mkL, q0], rfl, s7_pre c i, by rw [s7_res]; simp only [X.toV, X.toVL], by simp only [X.toV, X.toVL]; rfl⟩
def g11 (l : List X) (K : X → Prop) : Prop := consK l fun x0 l => xNil l (gateK x0 fun c i => K (.tup [(.agg (nat_lit 13) [.sint .i64 (if leE c i = 0 then c else 0), .sint .i64 (if leE c i = 0 then i - 1 else 0)]), .sint .i64 (leE c i)]))
theorem ct11 : CtOK Try.prog 11 g11 := ct_of c11 fun l K h hl => by
  obtain ⟨x0, r0, rfl, a0⟩ := consK_inv h
  obtain ⟨rfl, b0⟩ := xNil_inv a0
  obtain ⟨c, i, q0, b1⟩ := gateK_inv (P := Try.prog) b0
  exact ⟨_, [(.cons (.int .i64 c) (.cons (.int .i64 i) .nl))], b1, wfGE _ _ _, by simp only [X.toVL, mkL, q0], rfl, s11_pre c i, by rw [s11_res]; simp only [X.toV, X.toVL], by simp only [X.toV, X.toVL]; rfl⟩
def g9 (l : List X) (K : X → Prop) : Prop := consK l fun x0 l => consK l fun x1 l => xNil l (gateK x0 fun c i => numV .i64 x1 fun t => K (.tup [(.agg (nat_lit 13) [.sint .i64 (if clE c i t = 0 then t else 0), .sint .i64 (if clE c i t = 0 then i else 0)]), .sint .i64 (clE c i t)]))
theorem ct9 : CtOK Try.prog 9 g9 := ct_of c9 fun l K h hl => by
  obtain ⟨x0, r0, rfl, a0⟩ := consK_inv h
  obtain ⟨x1, r1, rfl, a1⟩ := consK_inv a0
  obtain ⟨rfl, b0⟩ := xNil_inv a1
  obtain ⟨c, i, q0, b1⟩ := gateK_inv (P := Try.prog) b0
  obtain ⟨t, q1, b2⟩ := numV_inv (P := Try.prog) b1
  exact ⟨_, [(.cons (.int .i64 c) (.cons (.int .i64 i) .nl)), (.int .i64 t)], b2, wfGE _ _ _, by simp only [X.toVL, mkL, q0, q1], rfl, s9_pre c i t, by rw [s9_res]; simp only [X.toV, X.toVL], by simp only [X.toV, X.toVL]; rfl⟩
def g26 (l : List X) (K : X → Prop) : Prop := consK l fun x0 l => consK l fun x1 l => xNil l (gateK x0 fun c i => numV .i64 x1 fun t => K (.tup [(.agg (nat_lit 13) [.sint .i64 (if opE c i t = 0 then -1 else 0), .sint .i64 (if opE c i t = 0 then i else 0)]), .sint .i64 (opE c i t)]))
theorem ct26 : CtOK Try.prog 26 g26 := ct_of c26 fun l K h hl => by
  obtain ⟨x0, r0, rfl, a0⟩ := consK_inv h
  obtain ⟨x1, r1, rfl, a1⟩ := consK_inv a0
  obtain ⟨rfl, b0⟩ := xNil_inv a1
  obtain ⟨c, i, q0, b1⟩ := gateK_inv (P := Try.prog) b0
  obtain ⟨t, q1, b2⟩ := numV_inv (P := Try.prog) b1
  exact ⟨_, [(.cons (.int .i64 c) (.cons (.int .i64 i) .nl)), (.int .i64 t)], b2, wfGE _ _ _, by simp only [X.toVL, mkL, q0, q1], rfl, s26_pre c i t, by rw [s26_res]; simp only [X.toV, X.toVL], by simp only [X.toV, X.toVL]; rfl⟩
def g19 (l : List X) (K : X → Prop) : Prop := consK l fun x0 l => consK l fun x1 l => consK l fun x2 l => xNil l (gateK x0 fun c i => gateK x1 fun c1 i1 => numV .i64 x2 fun e1 => K (.sint .i64 (if (if enE c i = 0 then c else 0) = c1 ∧ (if enE c i = 0 then i + 1 else 0) = i1 ∧ (enE c i) = e1 then 1 else 0)))
theorem ct19 : CtOK Try.prog 19 g19 := ct_of c19 fun l K h hl => by
  obtain ⟨x0, r0, rfl, a0⟩ := consK_inv h
  obtain ⟨x1, r1, rfl, a1⟩ := consK_inv a0
  obtain ⟨x2, r2, rfl, a2⟩ := consK_inv a1
  obtain ⟨rfl, b0⟩ := xNil_inv a2
  obtain ⟨c, i, q0, b1⟩ := gateK_inv (P := Try.prog) b0
  obtain ⟨c1, i1, q1, b2⟩ := gateK_inv (P := Try.prog) b1
  obtain ⟨e1, q2, b3⟩ := numV_inv (P := Try.prog) b2
  exact ⟨_, [(.cons (.int .i64 c) (.cons (.int .i64 i) .nl)), (.cons (.int .i64 c1) (.cons (.int .i64 i1) .nl)), (.int .i64 e1)], b3, .one (.lf rfl), by simp only [X.toVL, mkL, q0, q1, q2], rfl, s19_pre c i c1 i1 e1, by rw [s19_res]; simp only [X.toV, X.toVL], by simp only [X.toV, X.toVL]; rfl⟩
def g8 (l : List X) (K : X → Prop) : Prop := consK l fun x0 l => consK l fun x1 l => consK l fun x2 l => xNil l (gateK x0 fun c i => gateK x1 fun c1 i1 => numV .i64 x2 fun e1 => K (.sint .i64 (if (if leE c i = 0 then c else 0) = c1 ∧ (if leE c i = 0 then i - 1 else 0) = i1 ∧ (leE c i) = e1 then 1 else 0)))
theorem ct8 : CtOK Try.prog 8 g8 := ct_of c8 fun l K h hl => by
  obtain ⟨x0, r0, rfl, a0⟩ := consK_inv h
  obtain ⟨x1, r1, rfl, a1⟩ := consK_inv a0
  obtain ⟨x2, r2, rfl, a2⟩ := consK_inv a1
  obtain ⟨rfl, b0⟩ := xNil_inv a2
  obtain ⟨c, i, q0, b1⟩ := gateK_inv (P := Try.prog) b0
  obtain ⟨c1, i1, q1, b2⟩ := gateK_inv (P := Try.prog) b1
  obtain ⟨e1, q2, b3⟩ := numV_inv (P := Try.prog) b2
  exact ⟨_, [(.cons (.int .i64 c) (.cons (.int .i64 i) .nl)), (.cons (.int .i64 c1) (.cons (.int .i64 i1) .nl)), (.int .i64 e1)], b3, .one (.lf rfl), by simp only [X.toVL, mkL, q0, q1, q2], rfl, s8_pre c i c1 i1 e1, by rw [s8_res]; simp only [X.toV, X.toVL], by simp only [X.toV, X.toVL]; rfl⟩
def g20 (l : List X) (K : X → Prop) : Prop := consK l fun x0 l => consK l fun x1 l => consK l fun x2 l => consK l fun x3 l => xNil l (gateK x0 fun c i => numV .i64 x1 fun t => gateK x2 fun c1 i1 => numV .i64 x3 fun e1 => K (.sint .i64 (if (if clE c i t = 0 then t else 0) = c1 ∧ (if clE c i t = 0 then i else 0) = i1 ∧ (clE c i t) = e1 then 1 else 0)))
theorem ct20 : CtOK Try.prog 20 g20 := ct_of c20 fun l K h hl => by
  obtain ⟨x0, r0, rfl, a0⟩ := consK_inv h
  obtain ⟨x1, r1, rfl, a1⟩ := consK_inv a0
  obtain ⟨x2, r2, rfl, a2⟩ := consK_inv a1
  obtain ⟨x3, r3, rfl, a3⟩ := consK_inv a2
  obtain ⟨rfl, b0⟩ := xNil_inv a3
  obtain ⟨c, i, q0, b1⟩ := gateK_inv (P := Try.prog) b0
  obtain ⟨t, q1, b2⟩ := numV_inv (P := Try.prog) b1
  obtain ⟨c1, i1, q2, b3⟩ := gateK_inv (P := Try.prog) b2
  obtain ⟨e1, q3, b4⟩ := numV_inv (P := Try.prog) b3
  exact ⟨_, [(.cons (.int .i64 c) (.cons (.int .i64 i) .nl)), (.int .i64 t), (.cons (.int .i64 c1) (.cons (.int .i64 i1) .nl)), (.int .i64 e1)], b4, .one (.lf rfl), by simp only [X.toVL, mkL, q0, q1, q2, q3], rfl, s20_pre c i t c1 i1 e1, by rw [s20_res]; simp only [X.toV, X.toVL], by simp only [X.toV, X.toVL]; rfl⟩
def g10 (l : List X) (K : X → Prop) : Prop := consK l fun x0 l => consK l fun x1 l => consK l fun x2 l => consK l fun x3 l => xNil l (gateK x0 fun c i => numV .i64 x1 fun t => gateK x2 fun c1 i1 => numV .i64 x3 fun e1 => K (.sint .i64 (if (if opE c i t = 0 then -1 else 0) = c1 ∧ (if opE c i t = 0 then i else 0) = i1 ∧ (opE c i t) = e1 then 1 else 0)))
theorem ct10 : CtOK Try.prog 10 g10 := ct_of c10 fun l K h hl => by
  obtain ⟨x0, r0, rfl, a0⟩ := consK_inv h
  obtain ⟨x1, r1, rfl, a1⟩ := consK_inv a0
  obtain ⟨x2, r2, rfl, a2⟩ := consK_inv a1
  obtain ⟨x3, r3, rfl, a3⟩ := consK_inv a2
  obtain ⟨rfl, b0⟩ := xNil_inv a3
  obtain ⟨c, i, q0, b1⟩ := gateK_inv (P := Try.prog) b0
  obtain ⟨t, q1, b2⟩ := numV_inv (P := Try.prog) b1
  obtain ⟨c1, i1, q2, b3⟩ := gateK_inv (P := Try.prog) b2
  obtain ⟨e1, q3, b4⟩ := numV_inv (P := Try.prog) b3
  exact ⟨_, [(.cons (.int .i64 c) (.cons (.int .i64 i) .nl)), (.int .i64 t), (.cons (.int .i64 c1) (.cons (.int .i64 i1) .nl)), (.int .i64 e1)], b4, .one (.lf rfl), by simp only [X.toVL, mkL, q0, q1, q2, q3], rfl, s10_pre c i t c1 i1 e1, by rw [s10_res]; simp only [X.toV, X.toVL], by simp only [X.toV, X.toVL]; rfl⟩
def g15 (l : List X) (K : X → Prop) : Prop := consK l fun x0 l => xNil l (gateK x0 fun c i => K (.sint .i64 (chk c i)))
theorem ct15 : CtOK Try.prog 15 g15 := ct_of c15 fun l K h hl => by
  obtain ⟨x0, r0, rfl, a0⟩ := consK_inv h
  obtain ⟨rfl, b0⟩ := xNil_inv a0
  obtain ⟨c, i, q0, b1⟩ := gateK_inv (P := Try.prog) b0
  exact ⟨_, [(.cons (.int .i64 c) (.cons (.int .i64 i) .nl))], b1, .one (.lf rfl), by simp only [X.toVL, mkL, q0], rfl, s15_pre c i, by rw [s15_res]; simp only [X.toV, X.toVL], by simp only [X.toV, X.toVL]; rfl⟩
def g16 (l : List X) (K : X → Prop) : Prop := consK l fun x0 l => xNil l (gateK x0 fun c i => K (.sint .i64 (chk c i)))
theorem ct16 : CtOK Try.prog 16 g16 := ct_of c16 fun l K h hl => by
  obtain ⟨x0, r0, rfl, a0⟩ := consK_inv h
  obtain ⟨rfl, b0⟩ := xNil_inv a0
  obtain ⟨c, i, q0, b1⟩ := gateK_inv (P := Try.prog) b0
  exact ⟨_, [(.cons (.int .i64 c) (.cons (.int .i64 i) .nl))], b1, .one (.lf rfl), by simp only [X.toVL, mkL, q0], rfl, s16_pre c i, by rw [s16_res]; simp only [X.toV, X.toVL], by simp only [X.toV, X.toVL]; rfl⟩
def g17 (l : List X) (K : X → Prop) : Prop := consK l fun x0 l => xNil l (gateK x0 fun c i => K (.sbool (i == 0)))
theorem ct17 : CtOK Try.prog 17 g17 := ct_of c17 fun l K h hl => by
  obtain ⟨x0, r0, rfl, a0⟩ := consK_inv h
  obtain ⟨rfl, b0⟩ := xNil_inv a0
  obtain ⟨c, i, q0, b1⟩ := gateK_inv (P := Try.prog) b0
  exact ⟨_, [(.cons (.int .i64 c) (.cons (.int .i64 i) .nl))], b1, .one (.lf rfl), by simp only [X.toVL, mkL, q0], rfl, s17_pre c i, by rw [s17_res]; simp only [X.toV, X.toVL], by simp only [X.toV, X.toVL]; rfl⟩
def g18 (l : List X) (K : X → Prop) : Prop := consK l fun x0 l => consK l fun x1 l => consK l fun x2 l => xNil l (gateK x0 fun c i => numV .u8 x1 fun k => numV .i64 x2 fun t => K (.tup [(.agg (nat_lit 13) [.sint .i64 (doC c i k t), .sint .i64 (doI c i k t)]), .sint .i64 (doE c i k t)]))
theorem ct18 : CtOK Try.prog 18 g18 := ct_of c18 fun l K h hl => by
  obtain ⟨x0, r0, rfl, a0⟩ := consK_inv h
  obtain ⟨x1, r1, rfl, a1⟩ := consK_inv a0
  obtain ⟨x2, r2, rfl, a2⟩ := consK_inv a1
  obtain ⟨rfl, b0⟩ := xNil_inv a2
  obtain ⟨c, i, q0, b1⟩ := gateK_inv (P := Try.prog) b0
  obtain ⟨k, q1, b2⟩ := numV_inv (P := Try.prog) b1
  obtain ⟨t, q2, b3⟩ := numV_inv (P := Try.prog) b2
  exact ⟨_, [(.cons (.int .i64 c) (.cons (.int .i64 i) .nl)), (.int .u8 k), (.int .i64 t)], b3, wfGE _ _ _, by simp only [X.toVL, mkL, q0, q1, q2], rfl, s18_pre c i k t, by rw [s18_res]; simp only [X.toV, X.toVL], by simp only [X.toV, X.toVL]; rfl⟩
def FL2 : FTb := .mk (FTof Try.prog.funcs.toList) (set (.ct g18) (enc (nat_lit 18)) (set (.ct g17) (enc (nat_lit 17)) (set (.ct g16) (enc (nat_lit 16)) (set (.ct g15) (enc (nat_lit 15)) (set (.ct g10) (enc (nat_lit 10)) (set (.ct g20) (enc (nat_lit 20)) (set (.ct g8) (enc (nat_lit 8)) (set (.ct g19) (enc (nat_lit 19)) (set (.ct g26) (enc (nat_lit 26)) (set (.ct g9) (enc (nat_lit 9)) (set (.ct g11) (enc (nat_lit 11)) (set (.ct g7) (enc (nat_lit 7)) (set (.ct g12) (enc (nat_lit 12)) .e)))))))))))))
theorem hFL2 : FTok Try.prog FL2 := FTof_ok hFN (addCt (addCt (addCt (addCt (addCt (addCt (addCt (addCt (addCt (addCt (addCt (addCt (addCt (noCt _) ct12) ct7) ct11) ct9) ct26) ct19) ct8) ct20) ct10) ct15) ct16) ct17) ct18)
def lcall2 (fuel : Nat) (f : Nat) (args : List X) (K : X → Prop) : Prop := callZ (run FL2 TT fuel) FL2 TT (.fn f []) args .e [] fun v _ _ => K v
end
end Go.Ab
