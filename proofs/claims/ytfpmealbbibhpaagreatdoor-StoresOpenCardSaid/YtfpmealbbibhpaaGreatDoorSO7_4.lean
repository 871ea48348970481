/- Working trees of fresh volumes: closed runs. No condition. Working trees of fresh volumes: closed runs. No condition. -/
import Derived.Test.YtfpmealbbibhpaaGreatDoorSWR0_0
set_option linter.unusedVariables false
set_option maxRecDepth 100000
namespace Go.K
open Go.Ab Go.RowKit Go.Y Go.Proofs
attribute [local irreducible] krun callR
theorem wk_4:AllR (q35 E35) 48 7=AllR (fun _=>True) 48 7:=by kernel_rfl
end Go.K
set_option maxRecDepth 100000
namespace Go.K
open Go.Ab Go.RowKit Go.Y Go.Proofs
attribute [local irreducible] krun callR
theorem wk_5:AllR (q35 E35) 55 6=AllR (fun _=>True) 55 6:=by kernel_rfl
end Go.K
