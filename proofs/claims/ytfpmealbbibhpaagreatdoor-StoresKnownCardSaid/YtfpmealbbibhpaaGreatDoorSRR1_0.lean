/- Closed runs. No condition. Closed runs. No condition. Closed runs. No condition. Closed runs. No condition. Tables of contracts. No condition. An environment. No condition. Closed runs. No condition. Tables of contracts. No condition. An environment. No condition. -/
import Derived.Test.YtfpmealbbibhpaaGreatDoorSRT0
set_option linter.unusedVariables false
set_option maxRecDepth 10000
namespace Go.K
open Go.Ab Go.RowKit Go.Y Go.Proofs
noncomputable section
attribute [local irreducible] krun callR
def a220_0 : List KV := [u113, u21, u9, (.ro false true .sc 0 32 u118)]
def r220_0 : KV := (.tup (.cons (.ro true true .sc 0 32 u33) u10))
theorem m220_0 : Rn ESR1 220 a220_0 r220_0 := of_eq_true (by kernel_rfl)
theorem c220_0 : KCS Tryz.prog 220 (kcon a220_0 r220_0) := kconR okESR1 m220_0
def a220_1 : List KV := [u113, u119, u9, (.ro false true .sc 0 32 u120)]
def r220_1 : KV := (.tup (.cons u122 u10))
theorem m220_1 : Rn ESR1 220 a220_1 r220_1 := of_eq_true (by kernel_rfl)
theorem c220_1 : KCS Tryz.prog 220 (kcon a220_1 r220_1) := kconR okESR1 m220_1
def a220_2 : List KV := [u113, u21, u9, (.ro false true .sc 0 32 u33)]
def r220_2 : KV := (.tup (.cons (.ro true true .sc 0 32 u118) u10))
theorem m220_2 : Rn ESR1 220 a220_2 r220_2 := of_eq_true (by kernel_rfl)
theorem c220_2 : KCS Tryz.prog 220 (kcon a220_2 r220_2) := kconR okESR1 m220_2
def a220_3 : List KV := [u113, u21, u9, u124]
def r220_3 : KV := (.tup (.cons (.ro true true .sc 0 32 u64) u10))
theorem m220_3 : Rn ESR1 220 a220_3 r220_3 := of_eq_true (by kernel_rfl)
theorem c220_3 : KCS Tryz.prog 220 (kcon a220_3 r220_3) := kconR okESR1 m220_3
def a220_4 : List KV := [u113, u119, u9, u124]
def r220_4 : KV := (.tup (.cons (.ro true true .sc 0 32 u63) u10))
theorem m220_4 : Rn ESR1 220 a220_4 r220_4 := of_eq_true (by kernel_rfl)
theorem c220_4 : KCS Tryz.prog 220 (kcon a220_4 r220_4) := kconR okESR1 m220_4
def a220_5 : List KV := [u113, u82, u9, u124]
def r220_5 : KV := (.tup (.cons (.ro true true .sc 0 32 u62) u10))
theorem m220_5 : Rn ESR1 220 a220_5 r220_5 := of_eq_true (by kernel_rfl)
theorem c220_5 : KCS Tryz.prog 220 (kcon a220_5 r220_5) := kconR okESR1 m220_5
def a220_6 : List KV := [u113, u86, u9, u124]
def r220_6 : KV := (.tup (.cons (.ro true true .sc 0 32 u68) u10))
theorem m220_6 : Rn ESR1 220 a220_6 r220_6 := of_eq_true (by kernel_rfl)
theorem c220_6 : KCS Tryz.prog 220 (kcon a220_6 r220_6) := kconR okESR1 m220_6
def a220_7 : List KV := [u113, u86, u9, (.ro false true .sc 0 32 u68)]
def r220_7 : KV := (.tup (.cons (.ro true true .sc 0 32 u123) u10))
theorem m220_7 : Rn ESR1 220 a220_7 r220_7 := of_eq_true (by kernel_rfl)
theorem c220_7 : KCS Tryz.prog 220 (kcon a220_7 r220_7) := kconR okESR1 m220_7
def a220_8 : List KV := [u113, u82, u9, (.ro false true .sc 0 32 u62)]
def r220_8 : KV := (.tup (.cons (.ro true true .sc 0 32 u123) u10))
theorem m220_8 : Rn ESR1 220 a220_8 r220_8 := of_eq_true (by kernel_rfl)
theorem c220_8 : KCS Tryz.prog 220 (kcon a220_8 r220_8) := kconR okESR1 m220_8
def a16_0 : List KV := [u35, u153, u0]
def r16_0 : KV := (.tup (.cons u41 u10))
theorem m16_0 : Rb ESR1 16 a16_0 r16_0 := of_eq_true (by kernel_rfl)
theorem c16_0 : KCSb Tryz.prog 16 (kcon a16_0 r16_0) := kconRb okESR1 m16_0
def a16_1 : List KV := [u148, u154, (.int .i64 (.ofNat 5))]
def r16_1 : KV := (.tup (.cons u79 u10))
theorem m16_1 : Rb ESR1 16 a16_1 r16_1 := of_eq_true (by kernel_rfl)
theorem c16_1 : KCSb Tryz.prog 16 (kcon a16_1 r16_1) := kconRb okESR1 m16_1
def a20_0 : List KV := [u0]
def r20_0 : KV := (.tup (.cons u5 (.cons u8 u10)))
theorem m20_0 : Rb ESR1 20 a20_0 r20_0 := of_eq_true (by kernel_rfl)
theorem c20_0 : KCSb Tryz.prog 20 (kcon a20_0 r20_0) := kconRb okESR1 m20_0
def a20_1 : List KV := [u11]
def r20_1 : KV := (.tup (.cons u16 (.cons u18 u10)))
theorem m20_1 : Rb ESR1 20 a20_1 r20_1 := of_eq_true (by kernel_rfl)
theorem c20_1 : KCSb Tryz.prog 20 (kcon a20_1 r20_1) := kconRb okESR1 m20_1
def a35_0 : List KV := [u0, u5, u8]
def r35_0 : KV := (.tup (.cons u99 u30))
theorem m35_0 : Rb ESR1 35 a35_0 r35_0 := of_eq_true (by kernel_rfl)
theorem c35_0 : KCSb Tryz.prog 35 (kcon a35_0 r35_0) := kconRb okESR1 m35_0
end
end Go.K
set_option maxRecDepth 10000
namespace Go.K
open Go.Ab Go.RowKit Go.Y Go.Proofs
noncomputable section
attribute [local irreducible] krun callR
def a35_1 : List KV := [u0, u35, u37]
def r35_1 : KV := (.tup (.cons u99 u30))
theorem m35_1 : Rb ESR1 35 a35_1 r35_1 := of_eq_true (by kernel_rfl)
theorem c35_1 : KCSb Tryz.prog 35 (kcon a35_1 r35_1) := kconRb okESR1 m35_1
def a35_2 : List KV := [u0, u41, u42]
def r35_2 : KV := (.tup (.cons u101 u30))
theorem m35_2 : Rb ESR1 35 a35_2 r35_2 := of_eq_true (by kernel_rfl)
theorem c35_2 : KCSb Tryz.prog 35 (kcon a35_2 r35_2) := kconRb okESR1 m35_2
def a35_3 : List KV := [u0, u49, u42]
def r35_3 : KV := (.tup (.cons u101 u30))
theorem m35_3 : Rb ESR1 35 a35_3 r35_3 := of_eq_true (by kernel_rfl)
theorem c35_3 : KCSb Tryz.prog 35 (kcon a35_3 r35_3) := kconRb okESR1 m35_3
def a35_4 : List KV := [u0, u50, u42]
def r35_4 : KV := (.tup (.cons u101 u30))
theorem m35_4 : Rb ESR1 35 a35_4 r35_4 := of_eq_true (by kernel_rfl)
theorem c35_4 : KCSb Tryz.prog 35 (kcon a35_4 r35_4) := kconRb okESR1 m35_4
end
end Go.K
set_option maxRecDepth 10000
namespace Go.K
open Go.Ab Go.RowKit Go.Y Go.Proofs
noncomputable section
attribute [local irreducible] krun callR
def a35_5 : List KV := [u11, u16, u18]
def r35_5 : KV := (.tup (.cons u112 u30))
theorem m35_5 : Rb ESR1 35 a35_5 r35_5 := of_eq_true (by kernel_rfl)
theorem c35_5 : KCSb Tryz.prog 35 (kcon a35_5 r35_5) := kconRb okESR1 m35_5
end
end Go.K
set_option maxRecDepth 10000
namespace Go.K
open Go.Ab Go.RowKit Go.Y Go.Proofs
noncomputable section
attribute [local irreducible] krun callR
def a35_6 : List KV := [u11, u79, u81]
def r35_6 : KV := (.tup (.cons (.cons u11 (.cons (.ro true true (.cons (.cons .sc (.cons .sc (.cons (.arr 4 (.cons .sc (.cons (.cons .sc (.cons .sc .nl)) (.cons (.arr 32 .sc) .nl)))) (.cons (.arr 4 (.cons .sc (.cons (.arr 32 .sc) .nl))) .nl)))) (.cons .sc (.cons .sc (.cons (.arr 4 .sc) .nl)))) 0 20 (.ar 20 u98 (.tn u102 u103 (.tn (.cons u85 u97) u104 u105 (.tn (.cons u89 u97) .te .te .te .te) (.tn (.cons u91 u97) .te .te .te .te)) (.tn u108 u109 u110 (.tn (.cons u93 u97) .te .te .te .te) (.tn (.cons u95 u100) .te .te .te .te)) u111))) .nl)) u30))
theorem m35_6 : Rb ESR1 35 a35_6 r35_6 := of_eq_true (by kernel_rfl)
theorem c35_6 : KCSb Tryz.prog 35 (kcon a35_6 r35_6) := kconRb okESR1 m35_6
end
end Go.K
set_option maxRecDepth 10000
namespace Go.K
open Go.Ab Go.RowKit Go.Y Go.Proofs
noncomputable section
def tab220 : List (List KV × KV) := [(a220_0, r220_0), (a220_1, r220_1), (a220_2, r220_2), (a220_3, r220_3), (a220_4, r220_4), (a220_5, r220_5), (a220_6, r220_6), (a220_7, r220_7), (a220_8, r220_8)]
theorem PM220 : ∃ fn, Tryz.prog.funcs[220]? = some fn ∧ (fn.name == "runtime.NumGoroutine") = false ∧ fn.body.isNone = false := ⟨Tryz.f220, Tryz.func220, (fnsL.get Tryz.func220).1, by kernel_rfl⟩
theorem kcsT220 : KCS Tryz.prog 220 (sMem tab220) := sMem_s PM220 ⟨c220_0, by kernel_rfl, ⟨c220_1, by kernel_rfl, ⟨c220_2, by kernel_rfl, ⟨c220_3, by kernel_rfl, ⟨c220_4, by kernel_rfl, ⟨c220_5, by kernel_rfl, ⟨c220_6, by kernel_rfl, ⟨c220_7, by kernel_rfl, ⟨c220_8, by kernel_rfl, trivial⟩⟩⟩⟩⟩⟩⟩⟩⟩
def tab16 : List (List KV × KV) := [(a16_0, r16_0), (a16_1, r16_1)]
theorem PM16 : ∃ fn, Tryz.prog.funcs[16]? = some fn ∧ (fn.name == "runtime.NumGoroutine") = false ∧ fn.body.isNone = false := ⟨Tryz.f16, Tryz.func16, (fnsL.get Tryz.func16).1, by kernel_rfl⟩
theorem kcsT16 : KCSb Tryz.prog 16 (sMem tab16) := sMemb_s PM16 ⟨c16_0, by kernel_rfl, ⟨c16_1, by kernel_rfl, trivial⟩⟩
def tab20 : List (List KV × KV) := [(a20_0, r20_0), (a20_1, r20_1)]
theorem PM20 : ∃ fn, Tryz.prog.funcs[20]? = some fn ∧ (fn.name == "runtime.NumGoroutine") = false ∧ fn.body.isNone = false := ⟨Tryz.f20, Tryz.func20, (fnsL.get Tryz.func20).1, by kernel_rfl⟩
theorem kcsT20 : KCSb Tryz.prog 20 (sMem tab20) := sMemb_s PM20 ⟨c20_0, by kernel_rfl, ⟨c20_1, by kernel_rfl, trivial⟩⟩
def tab35 : List (List KV × KV) := [(a35_0, r35_0), (a35_1, r35_1), (a35_2, r35_2), (a35_3, r35_3), (a35_4, r35_4), (a35_5, r35_5), (a35_6, r35_6)]
theorem PM35 : ∃ fn, Tryz.prog.funcs[35]? = some fn ∧ (fn.name == "runtime.NumGoroutine") = false ∧ fn.body.isNone = false := ⟨Tryz.f35, Tryz.func35, (fnsL.get Tryz.func35).1, by kernel_rfl⟩
theorem kcsT35 : KCSb Tryz.prog 35 (sMem tab35) := sMemb_s PM35 ⟨c35_0, by kernel_rfl, ⟨c35_1, by kernel_rfl, ⟨c35_2, by kernel_rfl, ⟨c35_3, by kernel_rfl, ⟨c35_4, by kernel_rfl, ⟨c35_5, by kernel_rfl, ⟨c35_6, by kernel_rfl, trivial⟩⟩⟩⟩⟩⟩⟩
end
end Go.K
set_option maxRecDepth 10000
namespace Go.K
open Go.Ab Go.RowKit Go.Y Go.Proofs
noncomputable section
def ESR2b : KEnv := E0s.tab [(273, sCompS), (314, sTab1 sbN), (302, sEnc), (210, sIs 2147483896 2147483648 9117368320), (301, sMem tab301), (233, sMem tab233), (116, sMem tab116), (220, sMem tab220)]
theorem okESR2b : KOk ESR2b := ok0s.tab ⟨kcs273, kcsSub, kcsEnc.cls, kcs210, kcsT301, kcsT233, kcsT116, kcsT220, trivial⟩
def ESR2a : KEnv := ESR2b.tabB [(73, sMem tab73), (15, sMem tab15), (81, sMem tab81), (30, sMem tab30), (32, sMem tab32), (130, sMem tab130), (141, sMem tab141), (16, sMem tab16), (20, sMem tab20), (35, sMem tab35)]
theorem okESR2a : KOk ESR2a := okESR2b.tabB ⟨kcsT73, kcsT15, kcsT81, kcsT30, kcsT32, kcsT130, kcsT141, kcsT16, kcsT20, kcsT35, trivial⟩
def ESR2 : KEnv := ESR2a.olo (fun f => false)
theorem okESR2 : KOk ESR2 := okESR2a.olo _
end
end Go.K
set_option maxRecDepth 10000
namespace Go.K
open Go.Ab Go.RowKit Go.Y Go.Proofs
noncomputable section
attribute [local irreducible] krun callR
def a175_0 : List KV := [u115, u9, u21, u33, u44]
def r175_0 : KV := (.tup (.cons u118 u10))
theorem m175_0 : Rn ESR2 175 a175_0 r175_0 := of_eq_true (by kernel_rfl)
theorem c175_0 : KCS Tryz.prog 175 (kcon a175_0 r175_0) := kconR okESR2 m175_0
def a175_1 : List KV := [u115, u128, u86, u68, u87]
def r175_1 : KV := (.tup (.cons u123 u10))
theorem m175_1 : Rn ESR2 175 a175_1 r175_1 := of_eq_true (by kernel_rfl)
theorem c175_1 : KCS Tryz.prog 175 (kcon a175_1 r175_1) := kconR okESR2 m175_1
def a175_2 : List KV := [u115, u117, u82, u62, u83]
def r175_2 : KV := (.tup (.cons u123 u10))
theorem m175_2 : Rn ESR2 175 a175_2 r175_2 := of_eq_true (by kernel_rfl)
theorem c175_2 : KCS Tryz.prog 175 (kcon a175_2 r175_2) := kconR okESR2 m175_2
def a72_0 : List KV := [u115, u9, u21, u118]
def r72_0 : KV := (.tup (.cons u33 (.cons u44 u10)))
theorem m72_0 : Rn ESR2 72 a72_0 r72_0 := of_eq_true (by kernel_rfl)
theorem c72_0 : KCS Tryz.prog 72 (kcon a72_0 r72_0) := kconR okESR2 m72_0
def a72_1 : List KV := [u115, u9, u119, u120]
def r72_1 : KV := (.tup (.cons u121 (.cons u125 u10)))
theorem m72_1 : Rn ESR2 72 a72_1 r72_1 := of_eq_true (by kernel_rfl)
theorem c72_1 : KCS Tryz.prog 72 (kcon a72_1 r72_1) := kconR okESR2 m72_1
def a72_2 : List KV := [u115, u117, u21, u123]
def r72_2 : KV := (.tup (.cons u64 (.cons u126 u10)))
theorem m72_2 : Rn ESR2 72 a72_2 r72_2 := of_eq_true (by kernel_rfl)
theorem c72_2 : KCS Tryz.prog 72 (kcon a72_2 r72_2) := kconR okESR2 m72_2
def a72_3 : List KV := [u115, u117, u119, u123]
def r72_3 : KV := (.tup (.cons u63 (.cons u127 u10)))
theorem m72_3 : Rn ESR2 72 a72_3 r72_3 := of_eq_true (by kernel_rfl)
theorem c72_3 : KCS Tryz.prog 72 (kcon a72_3 r72_3) := kconR okESR2 m72_3
def a72_4 : List KV := [u115, u117, u82, u123]
def r72_4 : KV := (.tup (.cons u62 (.cons u83 u10)))
theorem m72_4 : Rn ESR2 72 a72_4 r72_4 := of_eq_true (by kernel_rfl)
theorem c72_4 : KCS Tryz.prog 72 (kcon a72_4 r72_4) := kconR okESR2 m72_4
def a72_5 : List KV := [u115, u128, u86, u123]
def r72_5 : KV := (.tup (.cons u68 (.cons u87 u10)))
theorem m72_5 : Rn ESR2 72 a72_5 r72_5 := of_eq_true (by kernel_rfl)
theorem c72_5 : KCS Tryz.prog 72 (kcon a72_5 r72_5) := kconR okESR2 m72_5
def a38_0 : List KV := [(.cons u0 (.cons u0 (.cons u9 (.cons u9 (.cons (.int .u64 (.ofNat 2)) (.cons u36 (.cons (.pk .u8 32 0) (.cons u19 .nl))))))))]
def r38_0 : KV := (.tup (.cons (.cons u0 (.cons u115 (.cons u5 (.cons (.ro true false (.cons (.arr 32 .sc) (.cons .sc (.cons .sc .nl))) 0 1 (.ar 1 (.cons (.pk .u8 32 0) (.cons u7 (.cons u7 .nl))) (.tn u8 .te .te .te .te))) (.cons (.cons (.ro true true .sc 0 1 (.pk .u64 1 0)) (.cons u7 (.cons (.int .u64 (.ofNat 2)) (.cons u36 .nl)))) (.cons u99 u116)))))) u10))
theorem m38_0 : Rb ESR2 38 a38_0 r38_0 := of_eq_true (by kernel_rfl)
theorem c38_0 : KCSb Tryz.prog 38 (kcon a38_0 r38_0) := kconRb okESR2 m38_0
def a38_1 : List KV := [(.cons u11 (.cons u117 (.cons u9 (.cons u9 (.cons u80 (.cons u80 (.cons (.pk .u8 32 0) (.cons u19 .nl))))))))]
def r38_1 : KV := (.tup (.cons (.cons u11 (.cons u115 (.cons u16 (.cons (.ro true false (.cons (.arr 32 .sc) (.cons .sc (.cons .sc .nl))) 0 1 (.ar 1 (.cons (.pk .u8 32 0) (.cons u7 (.cons u7 .nl))) (.tn u18 .te .te .te .te))) (.cons (.cons (.ro true true .sc 0 8 (.pk .u64 8 0)) (.cons u7 (.cons u80 (.cons u80 .nl)))) (.cons u112 u116)))))) u10))
theorem m38_1 : Rb ESR2 38 a38_1 r38_1 := of_eq_true (by kernel_rfl)
theorem c38_1 : KCSb Tryz.prog 38 (kcon a38_1 r38_1) := kconRb okESR2 m38_1
end
end Go.K
set_option maxRecDepth 10000
namespace Go.K
open Go.Ab Go.RowKit Go.Y Go.Proofs
noncomputable section
def tab175 : List (List KV × KV) := [(a175_0, r175_0), (a175_1, r175_1), (a175_2, r175_2)]
theorem PM175 : ∃ fn, Tryz.prog.funcs[175]? = some fn ∧ (fn.name == "runtime.NumGoroutine") = false ∧ fn.body.isNone = false := ⟨Tryz.f175, Tryz.func175, (fnsL.get Tryz.func175).1, by kernel_rfl⟩
theorem kcsT175 : KCS Tryz.prog 175 (sMem tab175) := sMem_s PM175 ⟨c175_0, by kernel_rfl, ⟨c175_1, by kernel_rfl, ⟨c175_2, by kernel_rfl, trivial⟩⟩⟩
def tab72 : List (List KV × KV) := [(a72_0, r72_0), (a72_1, r72_1), (a72_2, r72_2), (a72_3, r72_3), (a72_4, r72_4), (a72_5, r72_5)]
theorem PM72 : ∃ fn, Tryz.prog.funcs[72]? = some fn ∧ (fn.name == "runtime.NumGoroutine") = false ∧ fn.body.isNone = false := ⟨Tryz.f72, Tryz.func72, (fnsL.get Tryz.func72).1, by kernel_rfl⟩
theorem kcsT72 : KCS Tryz.prog 72 (sMem tab72) := sMem_s PM72 ⟨c72_0, by kernel_rfl, ⟨c72_1, by kernel_rfl, ⟨c72_2, by kernel_rfl, ⟨c72_3, by kernel_rfl, ⟨c72_4, by kernel_rfl, ⟨c72_5, by kernel_rfl, trivial⟩⟩⟩⟩⟩⟩
def tab38 : List (List KV × KV) := [(a38_0, r38_0), (a38_1, r38_1)]
theorem PM38 : ∃ fn, Tryz.prog.funcs[38]? = some fn ∧ (fn.name == "runtime.NumGoroutine") = false ∧ fn.body.isNone = false := ⟨Tryz.f38, Tryz.func38, (fnsL.get Tryz.func38).1, by kernel_rfl⟩
theorem kcsT38 : KCSb Tryz.prog 38 (sMem tab38) := sMemb_s PM38 ⟨c38_0, by kernel_rfl, ⟨c38_1, by kernel_rfl, trivial⟩⟩
end
end Go.K
set_option maxRecDepth 10000
namespace Go.K
open Go.Ab Go.RowKit Go.Y Go.Proofs
noncomputable section
def ESR3b : KEnv := E0s.tab [(273, sCompS), (314, sTab1 sbN), (302, sEnc), (210, sIs 2147483896 2147483648 9117368320), (301, sMem tab301), (233, sMem tab233), (116, sMem tab116), (220, sMem tab220), (175, sMem tab175), (72, sMem tab72)]
theorem okESR3b : KOk ESR3b := ok0s.tab ⟨kcs273, kcsSub, kcsEnc.cls, kcs210, kcsT301, kcsT233, kcsT116, kcsT220, kcsT175, kcsT72, trivial⟩
def ESR3a : KEnv := ESR3b.tabB [(73, sMem tab73), (15, sMem tab15), (81, sMem tab81), (30, sMem tab30), (32, sMem tab32), (130, sMem tab130), (141, sMem tab141), (16, sMem tab16), (20, sMem tab20), (35, sMem tab35), (38, sMem tab38)]
theorem okESR3a : KOk ESR3a := okESR3b.tabB ⟨kcsT73, kcsT15, kcsT81, kcsT30, kcsT32, kcsT130, kcsT141, kcsT16, kcsT20, kcsT35, kcsT38, trivial⟩
def ESR3 : KEnv := ESR3a.olo (fun f => false)
theorem okESR3 : KOk ESR3 := okESR3a.olo _
end
end Go.K
