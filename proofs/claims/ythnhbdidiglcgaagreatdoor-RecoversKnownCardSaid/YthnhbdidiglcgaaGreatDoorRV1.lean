/- lives() of the recoveries: a closed run. No condition. -/
import Derived.Test.YthnhbdidiglcgaaGreatDoorLC1
set_option linter.unusedVariables false
namespace Go.K
open Go.Ab Go.RowKit Go.Y Go.Proofs
noncomputable section
attribute [local irreducible] krun callR
theorem rlivesR : callR E1 (krun E1 1000000) 0 28 [] .e 0 0 (fun r _ _ _ => tK (kvb r (.bool true))) := of_eq_true (by kernel_rfl)
theorem rlives_s : KCS Tryz.prog 28 (kcon [] (.bool true)) := kcon_s ok1 rlivesR rfl rfl
end
end Go.K
