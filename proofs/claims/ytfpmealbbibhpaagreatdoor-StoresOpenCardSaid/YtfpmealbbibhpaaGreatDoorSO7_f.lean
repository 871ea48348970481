/- Fresh volumes: closed runs. No condition. Working trees of fresh volumes: closed runs. No condition. Working trees of fresh volumes: closed runs. No condition. -/
import Derived.Test.YtfpmealbbibhpaaGreatDoorSWR0_0
set_option linter.unusedVariables false
set_option maxRecDepth 100000
namespace Go.K
open Go.Ab Go.RowKit Go.Y Go.Proofs
attribute [local irreducible] krun callR
noncomputable def E20:KEnv:=E0s.tab [(273,sCompS),(163,sMem tab163)]
theorem ok20:KOk E20:=ok0s.tab ⟨kcs273,kcsT163,trivial⟩
noncomputable def qFr (n:Nat):Prop:=callR E20 (krun E20 1000000) 0 20 [.int .i64 (.ofNat n)] .e 0 0 fun r zm _ _=>tK (fzB zm 60 r (frF n))
theorem fr_0:AllR qFr 1 60=AllR (fun _=>True) 1 60:=by kernel_rfl
end Go.K
set_option maxRecDepth 100000
namespace Go.K
open Go.Ab Go.RowKit Go.Y Go.Proofs
attribute [local irreducible] krun callR
theorem wk_0:AllR (q35 E35) 1 19=AllR (fun _=>True) 1 19:=by kernel_rfl
end Go.K
set_option maxRecDepth 100000
namespace Go.K
open Go.Ab Go.RowKit Go.Y Go.Proofs
attribute [local irreducible] krun callR
theorem wk_1:AllR (q35 E35) 20 11=AllR (fun _=>True) 20 11:=by kernel_rfl
end Go.K
