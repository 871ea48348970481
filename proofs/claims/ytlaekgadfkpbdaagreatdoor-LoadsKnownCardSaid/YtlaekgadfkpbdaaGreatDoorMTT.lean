/- A closed run. No condition. lives() of the loads: a closed run. No condition. -/
import Derived.Test.YtlaekgadfkpbdaaGreatDoorLC1
set_option linter.unusedVariables false
namespace Go.K
open Go.Ab Go.RowKit Go.Y Go.Proofs
noncomputable section
attribute [local irreducible] krun callR
theorem ptab : Ptab := of_eq_true (by kernel_rfl)
end
end Go.K
set_option linter.unusedVariables false
namespace Go.K
open Go.Ab Go.RowKit Go.Y Go.Proofs
noncomputable section
attribute [local irreducible] krun callR
theorem livesR : callR E1 (krun E1 1000000) 0 12 [] .e 0 0 (fun r _ _ _ => tK (kvb r (.bool true))) := of_eq_true (by kernel_rfl)
theorem lives_s : KCS Tryz.prog 12 (kcon [] (.bool true)) := kcon_s ok1 livesR rfl rfl
end
end Go.K
