/- GatesKnown: pieces. No condition. -/
import Derived.Test.YtkjoldifiniliaaGK1
set_option linter.unusedVariables false
namespace Go.K
open Go.Ab Go.RowKit Go.Y Go.Proofs
noncomputable section
noncomputable def t9 : List (Nat × KV) := [(0, .bool false), (2, .ptr 1 [] gsh), (3, .int .i64 (.ofNat 1024)), (4, .int .i64 (.ofNat 10))]
noncomputable def z9 : List (Nat × KBlk) := [(1, ⟨.box, gsh, gv (.ofNat 15) (.ofNat 0)⟩)]
noncomputable def t12 : List (Nat × KV) := [(0, .bool false), (3, .int .i64 (.ofNat 0)), (4, .int .i64 (.ofNat 1))]
noncomputable def t13 : List (Nat × KV) := [(0, .bool false)]
attribute [local irreducible] krun
theorem p5 : krun E1 1000000 m6 0 (sL x4) (mkTr t3) (mkZm z3) 100 0 (fun e tr zm nx mx => chk (exB e .normal) 0 (krun E1 1000000 m6 0 (sL x5) tr zm nx mx fun e tr zm nx _ => tK (stT .normal t9 z9 9000 e tr zm nx))) := of_eq_true (by kernel_rfl)
theorem p10 : krun E1 1000000 m6 0 (sL x6) (mkTr t9) (mkZm z9) 9000 0 (fun e tr zm nx _ => tK (stT .normal t9 z9 9100 e tr zm nx)) := of_eq_true (by kernel_rfl)
theorem p12 : krun E1 1000000 m6 0 (sL x7) (mkTr t9) (mkZm z9) 9100 0 (fun e tr zm nx _ => tK (stT .normal t12 [] 9200 e tr zm nx)) := of_eq_true (by kernel_rfl)
theorem p13 : krun E1 1000000 m6 0 (sL x8) (mkTr t12) (mkZm []) 9200 0 (fun e tr zm nx _ => tK (stT .normal t13 [] 10000 e tr zm nx)) := of_eq_true (by kernel_rfl)
end
end Go.K
