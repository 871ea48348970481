/- GatesKnown: rounds. No condition. -/
import Derived.Test.YtkjoldifiniliaaGK1
set_option linter.unusedVariables false
namespace Go.K
open Go.Ab Go.RowKit Go.Y Go.Proofs
noncomputable section
/-- A round of the outer loop. -/
noncomputable def lb6 : Code := lpB (blB (sR (sL x9)))
noncomputable def tS (i : Nat) : List (Nat × KV) := [(0, .bool false), (6, .int .i64 (.ofNat i))]
noncomputable def nS (i : Nat) : Nat := 10100 + 5000 * i
attribute [local irreducible] krun
theorem q15 : krun E1 1000000 m6 0 (sL (sL x9)) (mkTr [(0, .bool false)]) (mkZm []) 10000 0 (fun e tr zm nx _ => tK (stT .normal (tS 0) [] (nS 0) e tr zm nx)) := of_eq_true (by kernel_rfl)
theorem q0 : krun E1 1000000 m6 0 lb6 (mkTr (tS 0)) (mkZm []) (nS 0) 0 (fun e tr zm nx _ => tK (stT .normal (tS 1) [] (nS 1) e tr zm nx)) := of_eq_true (by kernel_rfl)
theorem q1 : krun E1 1000000 m6 0 lb6 (mkTr (tS 1)) (mkZm []) (nS 1) 0 (fun e tr zm nx _ => tK (stT .normal (tS 2) [] (nS 2) e tr zm nx)) := of_eq_true (by kernel_rfl)
theorem q2 : krun E1 1000000 m6 0 lb6 (mkTr (tS 2)) (mkZm []) (nS 2) 0 (fun e tr zm nx _ => tK (stT .normal (tS 3) [] (nS 3) e tr zm nx)) := of_eq_true (by kernel_rfl)
theorem q3 : krun E1 1000000 m6 0 lb6 (mkTr (tS 3)) (mkZm []) (nS 3) 0 (fun e tr zm nx _ => tK (stT .normal (tS 4) [] (nS 4) e tr zm nx)) := of_eq_true (by kernel_rfl)
theorem q4 : krun E1 1000000 m6 0 lb6 (mkTr (tS 4)) (mkZm []) (nS 4) 0 (fun e tr zm nx _ => tK (stT .normal (tS 5) [] (nS 5) e tr zm nx)) := of_eq_true (by kernel_rfl)
theorem q5 : krun E1 1000000 m6 0 lb6 (mkTr (tS 5)) (mkZm []) (nS 5) 0 (fun e tr zm nx _ => tK (stT .normal (tS 6) [] (nS 6) e tr zm nx)) := of_eq_true (by kernel_rfl)
theorem q6 : krun E1 1000000 m6 0 lb6 (mkTr (tS 6)) (mkZm []) (nS 6) 0 (fun e tr zm nx _ => tK (stT (.exit 2) [(0, .bool false)] [] 50000 e tr zm nx)) := of_eq_true (by kernel_rfl)
theorem q28 : krun E1 1000000 m6 0 x10 (mkTr [(0, .bool false)]) (mkZm []) 50000 0 (fun e tr zm nx _ => tK (stT .ret [(0, .bool true)] [] 60000 e tr zm nx)) := of_eq_true (by kernel_rfl)
end
end Go.K
