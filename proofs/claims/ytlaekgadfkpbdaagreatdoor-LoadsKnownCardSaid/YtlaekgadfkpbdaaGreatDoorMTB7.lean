/- Tables of contracts. No condition. An environment. No condition. Closed runs. No condition. The run of the law. No condition. -/
import Derived.Test.YtlaekgadfkpbdaaGreatDoorMTB3
import Derived.Test.YtlaekgadfkpbdaaGreatDoorMR7_1
import Derived.Test.YtlaekgadfkpbdaaGreatDoorMR7_3
import Derived.Test.YtlaekgadfkpbdaaGreatDoorMR7_5
set_option linter.unusedVariables false
set_option maxRecDepth 10000
namespace Go.K
open Go.Ab Go.RowKit Go.Y Go.Proofs
noncomputable section
def tab6 : List (List KV × KV) := [(a6_0, r6_0), (a6_1, r6_1), (a6_2, r6_2), (a6_3, r6_3), (a6_4, r6_4), (a6_5, r6_5), (a6_6, r6_6), (a6_7, r6_7), (a6_8, r6_8), (a6_9, r6_9), (a6_10, r6_10), (a6_11, r6_11), (a6_12, r6_12), (a6_13, r6_13), (a6_14, r6_14), (a6_15, r6_15), (a6_16, r6_16), (a6_17, r6_17), (a6_18, r6_18), (a6_19, r6_19)]
theorem PM6 : ∃ fn, Tryz.prog.funcs[6]? = some fn ∧ (fn.name == "runtime.NumGoroutine") = false ∧ fn.body.isNone = false := ⟨Tryz.f6, Tryz.func6, (fnsL.get Tryz.func6).1, by kernel_rfl⟩
theorem kcsT6 : KCS Tryz.prog 6 (sMem tab6) := sMem_s PM6 ⟨c6_0, by kernel_rfl, ⟨c6_1, by kernel_rfl, ⟨c6_2, by kernel_rfl, ⟨c6_3, by kernel_rfl, ⟨c6_4, by kernel_rfl, ⟨c6_5, by kernel_rfl, ⟨c6_6, by kernel_rfl, ⟨c6_7, by kernel_rfl, ⟨c6_8, by kernel_rfl, ⟨c6_9, by kernel_rfl, ⟨c6_10, by kernel_rfl, ⟨c6_11, by kernel_rfl, ⟨c6_12, by kernel_rfl, ⟨c6_13, by kernel_rfl, ⟨c6_14, by kernel_rfl, ⟨c6_15, by kernel_rfl, ⟨c6_16, by kernel_rfl, ⟨c6_17, by kernel_rfl, ⟨c6_18, by kernel_rfl, ⟨c6_19, by kernel_rfl, trivial⟩⟩⟩⟩⟩⟩⟩⟩⟩⟩⟩⟩⟩⟩⟩⟩⟩⟩⟩⟩
end
end Go.K
set_option linter.unusedVariables false
set_option maxRecDepth 10000
namespace Go.K
open Go.Ab Go.RowKit Go.Y Go.Proofs
noncomputable section
def EM8a : KEnv := E0.tab [(139, sCompS), (84, sCompR), (159, sTab1 sbN), (154, kcon [] (.pk .u8 256 sbN)), (144, sEnc), (136, sEncR), (12, kcon [] (.bool true)), (137, sMem tab137), (143, sMem tab143), (44, sMem tab44), (64, sMem tab64), (79, sMem tab79), (110, sMem tab110), (113, sMem tab113), (17, sMem tab17), (104, sMem tab104), (13, sMem tab13), (60, sMem tab60), (4, sMem tab4), (5, sMem tab5), (6, sMem tab6)]
theorem okEM8a : KOk EM8a := ok0.tab ⟨kcs139, kcs84, kcsSub, kcsTab, kcsEnc.cls, kcsEncR.cls, lives_s, kcsT137, kcsT143, kcsT44, kcsT64, kcsT79, kcsT110, kcsT113, kcsT17, kcsT104, kcsT13, kcsT60, kcsT4, kcsT5, kcsT6, trivial⟩
def EM8 : KEnv := EM8a.olo fun f => Nat.beq f 6
theorem okEM8 : KOk EM8 := okEM8a.olo _
end
end Go.K
set_option linter.unusedVariables false
set_option maxRecDepth 10000
namespace Go.K
open Go.Ab Go.RowKit Go.Y Go.Proofs
noncomputable section
attribute [local irreducible] krun callR
def a3_0 : List KV := []
def r3_0 : KV := (.bool true)
theorem m3_0 : Rn EM8 3 a3_0 r3_0 := of_eq_true (by kernel_rfl)
theorem c3_0 : KCS Tryz.prog 3 (kcon a3_0 r3_0) := kconR okEM8 m3_0
end
end Go.K
namespace Go.K
open Go.Ab Go.RowKit Go.Y Go.Proofs
theorem kcs3 : KCS Tryz.prog 3 (kcon [] (.bool true)) := c3_0
end Go.K
