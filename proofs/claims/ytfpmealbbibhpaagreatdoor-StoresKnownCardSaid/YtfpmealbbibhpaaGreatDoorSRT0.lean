/- Tables of contracts. No condition. An environment. No condition. -/
import Derived.Test.YtfpmealbbibhpaaGreatDoorSRR0_0
import Derived.Test.YtfpmealbbibhpaaGreatDoorSRR0_4
import Derived.Test.YtfpmealbbibhpaaGreatDoorSRR0_7
set_option linter.unusedVariables false
set_option maxRecDepth 10000
namespace Go.K
open Go.Ab Go.RowKit Go.Y Go.Proofs
noncomputable section
def tab301 : List (List KV × KV) := [(a301_0, r301_0)]
theorem PM301 : ∃ fn, Tryz.prog.funcs[301]? = some fn ∧ (fn.name == "runtime.NumGoroutine") = false ∧ fn.body.isNone = false := ⟨Tryz.f301, Tryz.func301, (fnsL.get Tryz.func301).1, by kernel_rfl⟩
theorem kcsT301 : KCS Tryz.prog 301 (sMem tab301) := sMem_s PM301 ⟨c301_0, by kernel_rfl, trivial⟩
def tab233 : List (List KV × KV) := [(a233_0, r233_0), (a233_1, r233_1), (a233_2, r233_2)]
theorem PM233 : ∃ fn, Tryz.prog.funcs[233]? = some fn ∧ (fn.name == "runtime.NumGoroutine") = false ∧ fn.body.isNone = false := ⟨Tryz.f233, Tryz.func233, (fnsL.get Tryz.func233).1, by kernel_rfl⟩
theorem kcsT233 : KCS Tryz.prog 233 (sMem tab233) := sMem_s PM233 ⟨c233_0, by kernel_rfl, ⟨c233_1, by kernel_rfl, ⟨c233_2, by kernel_rfl, trivial⟩⟩⟩
def tab116 : List (List KV × KV) := [(a116_0, r116_0)]
theorem PM116 : ∃ fn, Tryz.prog.funcs[116]? = some fn ∧ (fn.name == "runtime.NumGoroutine") = false ∧ fn.body.isNone = false := ⟨Tryz.f116, Tryz.func116, (fnsL.get Tryz.func116).1, by kernel_rfl⟩
theorem kcsT116 : KCS Tryz.prog 116 (sMem tab116) := sMem_s PM116 ⟨c116_0, by kernel_rfl, trivial⟩
def tab73 : List (List KV × KV) := [(a73_0, r73_0), (a73_1, r73_1), (a73_2, r73_2), (a73_3, r73_3), (a73_4, r73_4), (a73_5, r73_5)]
theorem PM73 : ∃ fn, Tryz.prog.funcs[73]? = some fn ∧ (fn.name == "runtime.NumGoroutine") = false ∧ fn.body.isNone = false := ⟨Tryz.f73, Tryz.func73, (fnsL.get Tryz.func73).1, by kernel_rfl⟩
theorem kcsT73 : KCSb Tryz.prog 73 (sMem tab73) := sMemb_s PM73 ⟨c73_0, by kernel_rfl, ⟨c73_1, by kernel_rfl, ⟨c73_2, by kernel_rfl, ⟨c73_3, by kernel_rfl, ⟨c73_4, by kernel_rfl, ⟨c73_5, by kernel_rfl, trivial⟩⟩⟩⟩⟩⟩
def tab15 : List (List KV × KV) := [(a15_0, r15_0), (a15_1, r15_1)]
theorem PM15 : ∃ fn, Tryz.prog.funcs[15]? = some fn ∧ (fn.name == "runtime.NumGoroutine") = false ∧ fn.body.isNone = false := ⟨Tryz.f15, Tryz.func15, (fnsL.get Tryz.func15).1, by kernel_rfl⟩
theorem kcsT15 : KCSb Tryz.prog 15 (sMem tab15) := sMemb_s PM15 ⟨c15_0, by kernel_rfl, ⟨c15_1, by kernel_rfl, trivial⟩⟩
def tab81 : List (List KV × KV) := [(a81_0, r81_0), (a81_1, r81_1), (a81_2, r81_2), (a81_3, r81_3), (a81_4, r81_4), (a81_5, r81_5), (a81_6, r81_6), (a81_7, r81_7), (a81_8, r81_8), (a81_9, r81_9), (a81_10, r81_10), (a81_11, r81_11)]
theorem PM81 : ∃ fn, Tryz.prog.funcs[81]? = some fn ∧ (fn.name == "runtime.NumGoroutine") = false ∧ fn.body.isNone = false := ⟨Tryz.f81, Tryz.func81, (fnsL.get Tryz.func81).1, by kernel_rfl⟩
theorem kcsT81 : KCSb Tryz.prog 81 (sMem tab81) := sMemb_s PM81 ⟨c81_0, by kernel_rfl, ⟨c81_1, by kernel_rfl, ⟨c81_2, by kernel_rfl, ⟨c81_3, by kernel_rfl, ⟨c81_4, by kernel_rfl, ⟨c81_5, by kernel_rfl, ⟨c81_6, by kernel_rfl, ⟨c81_7, by kernel_rfl, ⟨c81_8, by kernel_rfl, ⟨c81_9, by kernel_rfl, ⟨c81_10, by kernel_rfl, ⟨c81_11, by kernel_rfl, trivial⟩⟩⟩⟩⟩⟩⟩⟩⟩⟩⟩⟩
def tab30 : List (List KV × KV) := [(a30_0, r30_0)]
theorem PM30 : ∃ fn, Tryz.prog.funcs[30]? = some fn ∧ (fn.name == "runtime.NumGoroutine") = false ∧ fn.body.isNone = false := ⟨Tryz.f30, Tryz.func30, (fnsL.get Tryz.func30).1, by kernel_rfl⟩
theorem kcsT30 : KCSb Tryz.prog 30 (sMem tab30) := sMemb_s PM30 ⟨c30_0, by kernel_rfl, trivial⟩
def tab32 : List (List KV × KV) := [(a32_0, r32_0), (a32_1, r32_1), (a32_2, r32_2), (a32_3, r32_3), (a32_4, r32_4), (a32_5, r32_5), (a32_6, r32_6)]
theorem PM32 : ∃ fn, Tryz.prog.funcs[32]? = some fn ∧ (fn.name == "runtime.NumGoroutine") = false ∧ fn.body.isNone = false := ⟨Tryz.f32, Tryz.func32, (fnsL.get Tryz.func32).1, by kernel_rfl⟩
theorem kcsT32 : KCSb Tryz.prog 32 (sMem tab32) := sMemb_s PM32 ⟨c32_0, by kernel_rfl, ⟨c32_1, by kernel_rfl, ⟨c32_2, by kernel_rfl, ⟨c32_3, by kernel_rfl, ⟨c32_4, by kernel_rfl, ⟨c32_5, by kernel_rfl, ⟨c32_6, by kernel_rfl, trivial⟩⟩⟩⟩⟩⟩⟩
def tab130 : List (List KV × KV) := [(a130_0, r130_0), (a130_1, r130_1)]
theorem PM130 : ∃ fn, Tryz.prog.funcs[130]? = some fn ∧ (fn.name == "runtime.NumGoroutine") = false ∧ fn.body.isNone = false := ⟨Tryz.f130, Tryz.func130, (fnsL.get Tryz.func130).1, by kernel_rfl⟩
theorem kcsT130 : KCSb Tryz.prog 130 (sMem tab130) := sMemb_s PM130 ⟨c130_0, by kernel_rfl, ⟨c130_1, by kernel_rfl, trivial⟩⟩
def tab141 : List (List KV × KV) := [(a141_0, r141_0)]
theorem PM141 : ∃ fn, Tryz.prog.funcs[141]? = some fn ∧ (fn.name == "runtime.NumGoroutine") = false ∧ fn.body.isNone = false := ⟨Tryz.f141, Tryz.func141, (fnsL.get Tryz.func141).1, by kernel_rfl⟩
theorem kcsT141 : KCSb Tryz.prog 141 (sMem tab141) := sMemb_s PM141 ⟨c141_0, by kernel_rfl, trivial⟩
end
end Go.K
set_option maxRecDepth 10000
namespace Go.K
open Go.Ab Go.RowKit Go.Y Go.Proofs
noncomputable section
def ESR1b : KEnv := E0s.tab [(273, sCompS), (314, sTab1 sbN), (302, sEnc), (210, sIs 2147483896 2147483648 9117368320), (301, sMem tab301), (233, sMem tab233), (116, sMem tab116)]
theorem okESR1b : KOk ESR1b := ok0s.tab ⟨kcs273, kcsSub, kcsEnc.cls, kcs210, kcsT301, kcsT233, kcsT116, trivial⟩
def ESR1a : KEnv := ESR1b.tabB [(73, sMem tab73), (15, sMem tab15), (81, sMem tab81), (30, sMem tab30), (32, sMem tab32), (130, sMem tab130), (141, sMem tab141)]
theorem okESR1a : KOk ESR1a := okESR1b.tabB ⟨kcsT73, kcsT15, kcsT81, kcsT30, kcsT32, kcsT130, kcsT141, trivial⟩
def ESR1 : KEnv := ESR1a.olo (fun f => false)
theorem okESR1 : KOk ESR1 := okESR1a.olo _
end
end Go.K
