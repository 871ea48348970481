/- GatesKnown: pieces. No condition. -/
import Derived.Test.YtkjoldifiniliaaGK0
set_option linter.unusedVariables false
namespace Go.K
open Go.Ab Go.RowKit Go.Y Go.Proofs
noncomputable section
noncomputable def c6 : Code := match fnB Try.prog 6 with | some x => x.1 | none => .skip
noncomputable def m6 : Nat := maskL.getD 6 0
noncomputable def x1 : Code := sR c6
noncomputable def x2 : Code := sR x1
noncomputable def x3 : Code := sR x2
noncomputable def x4 : Code := sR x3
noncomputable def x5 : Code := sR x4
noncomputable def x6 : Code := sR x5
noncomputable def x7 : Code := sR x6
noncomputable def x8 : Code := sR x7
noncomputable def x9 : Code := sR x8
noncomputable def x10 : Code := sR x9
noncomputable def gsh : Shape := .cons .sc (.cons .sc .nl)
noncomputable def gv (c i : Int) : KV := .cons (.int .i64 c) (.cons (.int .i64 i) .nl)
noncomputable def lb : KBlk := ⟨.box, .arr 1025 gsh, .ar 1025 (.cons (.int .u8 (.ofNat 0)) (.cons (.int .i64 (.ofNat 0)) .nl)) .te⟩
noncomputable def t1 : List (Nat × KV) := [(0, .bool false)]
noncomputable def t2 : List (Nat × KV) := [(0, .bool false), (1, .sl 0 [] gsh 0 1025 (some 1025))]
noncomputable def t3 : List (Nat × KV) := [(0, .bool false), (1, .sl 0 [] gsh 0 1025 (some 1025)), (2, .ptr 1 [] gsh), (3, .int .i64 (.ofNat 1024)), (4, .int .i64 (.ofNat 3))]
noncomputable def z3 : List (Nat × KBlk) := [(0, lb), (1, ⟨.box, gsh, gv (.negSucc 0) (.ofNat 1024)⟩)]
attribute [local irreducible] krun
theorem p0 : krun E1 1000000 m6 0 (sL c6) (mkTr []) (mkZm []) 0 0 (fun e tr zm nx _ => tK (stT .normal t1 [] 0 e tr zm nx)) := of_eq_true (by kernel_rfl)
theorem p1 : krun E1 1000000 m6 0 (sL x1) (mkTr t1) (mkZm []) 0 0 (fun e tr zm nx _ => tK (stT .normal t2 [(0, lb)] 1 e tr zm nx)) := of_eq_true (by kernel_rfl)
theorem p2 : krun E1 1000000 m6 0 (sL x2) (mkTr t2) (mkZm [(0, lb)]) 1 0 (fun e tr zm nx _ => tK (stT .normal t3 z3 2 e tr zm nx)) := of_eq_true (by kernel_rfl)
theorem p3 : krun E1 1000000 m6 0 (sL x3) (mkTr t3) (mkZm z3) 2 0 (fun e tr zm nx _ => tK (stT .normal t3 z3 100 e tr zm nx)) := of_eq_true (by kernel_rfl)
end
end Go.K
