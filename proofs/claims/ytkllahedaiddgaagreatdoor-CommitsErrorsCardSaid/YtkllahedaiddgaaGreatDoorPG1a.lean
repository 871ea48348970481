/- The program's checks of one node: what the runs come to. No condition. -/
import Derived.Test.YtkllahedaiddgaaGreatDoorRW
set_option maxRecDepth 100000
namespace Go.K
open Go.Ab Go.RowKit Go.Y Go.Proofs
noncomputable section
attribute [local instance 10000] gO
theorem zEf (S:Nat→Nat→Nat→Prop) (c:Nat→Un) (a:Nat):YY S zx4 213 ze0 c a true=YY S zx4 213 ze0 c a false:=by kernel_rfl
theorem zE9 (S:Nat→Nat→Nat→Prop) (c:Nat→Un) (a:Nat):YY S EO0 214 znU c a true=YY S EO0 214 znU c a false:=by kernel_rfl
theorem zFR (S:Nat→Nat→Nat→Prop) (c:Nat→Un) (a:Nat):YY S zx5 215 znV c a true=YY S zx5 215 znV c a false:=by kernel_rfl
end
end Go.K
