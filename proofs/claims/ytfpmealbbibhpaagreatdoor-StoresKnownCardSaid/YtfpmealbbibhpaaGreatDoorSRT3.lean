/- The run of the law. No condition. -/
import Derived.Test.YtfpmealbbibhpaaGreatDoorSRR3_0
import Derived.Test.YtfpmealbbibhpaaGreatDoorSRR3_2
set_option linter.unusedVariables false
set_option maxRecDepth 10000
namespace Go.K
open Go.Ab Go.RowKit Go.Y Go.Proofs
noncomputable section
def tab12 : List (List KV × KV) := [(a12_0, r12_0), (a12_1, r12_1), (a12_2, r12_2), (a12_3, r12_3), (a12_4, r12_4), (a12_5, r12_5)]
theorem PM12 : ∃ fn, Tryz.prog.funcs[12]? = some fn ∧ (fn.name == "runtime.NumGoroutine") = false ∧ fn.body.isNone = false := ⟨Tryz.f12, Tryz.func12, (fnsL.get Tryz.func12).1, by kernel_rfl⟩
theorem kcsT12 : KCSb Tryz.prog 12 (sMem tab12) := sMemb_s PM12 ⟨c12_0, by kernel_rfl, ⟨c12_1, by kernel_rfl, ⟨c12_2, by kernel_rfl, ⟨c12_3, by kernel_rfl, ⟨c12_4, by kernel_rfl, ⟨c12_5, by kernel_rfl, trivial⟩⟩⟩⟩⟩⟩
def tab84 : List (List KV × KV) := [(a84_0, r84_0), (a84_1, r84_1), (a84_2, r84_2), (a84_3, r84_3), (a84_4, r84_4), (a84_5, r84_5)]
theorem PM84 : ∃ fn, Tryz.prog.funcs[84]? = some fn ∧ (fn.name == "runtime.NumGoroutine") = false ∧ fn.body.isNone = false := ⟨Tryz.f84, Tryz.func84, (fnsL.get Tryz.func84).1, by kernel_rfl⟩
theorem kcsT84 : KCSb Tryz.prog 84 (sMem tab84) := sMemb_s PM84 ⟨c84_0, by kernel_rfl, ⟨c84_1, by kernel_rfl, ⟨c84_2, by kernel_rfl, ⟨c84_3, by kernel_rfl, ⟨c84_4, by kernel_rfl, ⟨c84_5, by kernel_rfl, trivial⟩⟩⟩⟩⟩⟩
def ESR4b : KEnv := E0s.tab [(273, sCompS), (314, sTab1 sbN), (302, sEnc), (210, sIs 2147483896 2147483648 9117368320), (301, sMem tab301), (233, sMem tab233), (116, sMem tab116), (220, sMem tab220), (175, sMem tab175), (72, sMem tab72)]
theorem okESR4b : KOk ESR4b := ok0s.tab ⟨kcs273, kcsSub, kcsEnc.cls, kcs210, kcsT301, kcsT233, kcsT116, kcsT220, kcsT175, kcsT72, trivial⟩
def ESR4a : KEnv := ESR4b.tabB [(73, sMem tab73), (15, sMem tab15), (81, sMem tab81), (30, sMem tab30), (32, sMem tab32), (130, sMem tab130), (141, sMem tab141), (16, sMem tab16), (20, sMem tab20), (35, sMem tab35), (38, sMem tab38), (12, sMem tab12), (84, sMem tab84)]
theorem okESR4a : KOk ESR4a := okESR4b.tabB ⟨kcsT73, kcsT15, kcsT81, kcsT30, kcsT32, kcsT130, kcsT141, kcsT16, kcsT20, kcsT35, kcsT38, kcsT12, kcsT84, trivial⟩
def ESR4 : KEnv := ESR4a.olo (fun f => false)
theorem okESR4 : KOk ESR4 := okESR4a.olo _
attribute [local irreducible] krun callR
def a7_0 : List KV := []
def r7_0 : KV := u2
theorem m7_0 : Rn ESR4 7 a7_0 r7_0 := of_eq_true (by kernel_rfl)
theorem c7_0 : KCS Tryz.prog 7 (kcon a7_0 r7_0) := kconR okESR4 m7_0
theorem kcs7 : KCS Tryz.prog 7 (kcon [] (.bool true)) := c7_0
end
end Go.K
