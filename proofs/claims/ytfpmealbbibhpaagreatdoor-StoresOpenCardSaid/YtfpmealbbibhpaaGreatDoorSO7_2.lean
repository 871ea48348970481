/- Working trees of fresh volumes: closed runs. No condition. Working trees of fresh volumes: closed runs. No condition. -/
import Derived.Test.YtfpmealbbibhpaaGreatDoorSWR0_0
set_option linter.unusedVariables false
set_option maxRecDepth 100000
namespace Go.K
open Go.Ab Go.RowKit Go.Y Go.Proofs
attribute [local irreducible] krun callR
theorem wk_2:AllR (q35 E35) 31 9=AllR (fun _=>True) 31 9:=by kernel_rfl
end Go.K
set_option maxRecDepth 100000
namespace Go.K
open Go.Ab Go.RowKit Go.Y Go.Proofs
attribute [local irreducible] krun callR
theorem wk_3:AllR (q35 E35) 40 8=AllR (fun _=>True) 40 8:=by kernel_rfl
end Go.K
