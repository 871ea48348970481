/- The program's checks of one node: what the runs come to. No condition. -/
import Derived.Test.YtkllahedaiddgaaGreatDoorRW
set_option linter.unusedSimpArgs false
set_option linter.unusedVariables false
set_option maxRecDepth 100000
namespace Go.K
open Go.Ab Go.RowKit Go.Y Go.Proofs
noncomputable section
attribute [local instance 10000] gO
theorem zGR (S:Nat→Nat→Nat→Prop) (c:Nat→Un) (a:Nat):YE S zy5 213 zeS c a true=YE S zy5 213 zeS c a false:=by kernel_rfl
theorem zH4 (S:Nat→Nat→Nat→Prop) (c:Nat→Un) (a:Nat):YE S EO0 214 zlN c a true=YE S EO0 214 zlN c a false:=by kernel_rfl
theorem zJb (S:Nat→Nat→Nat→Prop) (c:Nat→Un) (a:Nat):YE S zy6 215 zlO c a true=YE S zy6 215 zlO c a false:=by kernel_rfl
end
end Go.K
