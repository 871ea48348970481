/- Closed runs. No condition. Closed runs. No condition. Closed runs. No condition. -/
import Derived.Test.YtfpmealbbibhpaaGreatDoorSRD
set_option linter.unusedVariables false
set_option maxRecDepth 10000
namespace Go.K
open Go.Ab Go.RowKit Go.Y Go.Proofs
noncomputable section
attribute [local irreducible] krun callR
def a15_1 : List KV := [u143, (.cons u17 (.cons u7 (.cons u80 .nl)))]
def r15_1 : KV := (.tup (.cons u154 (.cons u81 u10)))
theorem m15_1 : Rb ESR0 15 a15_1 r15_1 := of_eq_true (by kernel_rfl)
theorem c15_1 : KCSb Tryz.prog 15 (kcon a15_1 r15_1) := kconRb okESR0 m15_1
def a81_0 : List KV := [u5, u9, (.ro true true .sc 0 32 u33)]
def r81_0 : KV := (.tup (.cons u35 u10))
theorem m81_0 : Rb ESR0 81 a81_0 r81_0 := of_eq_true (by kernel_rfl)
theorem c81_0 : KCSb Tryz.prog 81 (kcon a81_0 r81_0) := kconRb okESR0 m81_0
def a81_1 : List KV := [u35, u9, u122]
def r81_1 : KV := (.tup (.cons (.cons u1 (.cons u38 (.cons (.ro true true .sc 0 1 (.ar 1 .nilp (.tn (.ref true (.arr 64 .sc) (.ar 64 .nilp (.tn (.ref true (.cons .sc (.cons .sc (.cons .sc (.cons .sc .nl)))) (.cons u2 (.cons (.ro true false .sc 0 32 u121) (.cons u32 (.cons u34 .nl))))) .te u4 .te .te))) .te .te .te .te))) .nl))) u10))
theorem m81_1 : Rb ESR0 81 a81_1 r81_1 := of_eq_true (by kernel_rfl)
theorem c81_1 : KCSb Tryz.prog 81 (kcon a81_1 r81_1) := kconRb okESR0 m81_1
def a81_2 : List KV := [u35, u38, (.ro true true .sc 0 185 u39)]
def r81_2 : KV := (.tup (.cons u41 u10))
theorem m81_2 : Rb ESR0 81 a81_2 r81_2 := of_eq_true (by kernel_rfl)
theorem c81_2 : KCSb Tryz.prog 81 (kcon a81_2 r81_2) := kconRb okESR0 m81_2
def a81_3 : List KV := [u16, u144, (.ro true true .sc 0 32 u64)]
def r81_3 : KV := (.tup (.cons u145 u10))
theorem m81_3 : Rb ESR0 81 a81_3 r81_3 := of_eq_true (by kernel_rfl)
theorem c81_3 : KCSb Tryz.prog 81 (kcon a81_3 r81_3) := kconRb okESR0 m81_3
end
end Go.K
set_option maxRecDepth 10000
namespace Go.K
open Go.Ab Go.RowKit Go.Y Go.Proofs
noncomputable section
attribute [local irreducible] krun callR
def a81_4 : List KV := [u145, u144, (.ro true true .sc 0 32 u63)]
def r81_4 : KV := (.tup (.cons u146 u10))
theorem m81_4 : Rb ESR0 81 a81_4 r81_4 := of_eq_true (by kernel_rfl)
theorem c81_4 : KCSb Tryz.prog 81 (kcon a81_4 r81_4) := kconRb okESR0 m81_4
def a81_5 : List KV := [u146, u144, (.ro true true .sc 0 32 u62)]
def r81_5 : KV := (.tup (.cons u147 u10))
theorem m81_5 : Rb ESR0 81 a81_5 r81_5 := of_eq_true (by kernel_rfl)
theorem c81_5 : KCSb Tryz.prog 81 (kcon a81_5 r81_5) := kconRb okESR0 m81_5
def a81_6 : List KV := [u147, (.int .i64 (.ofNat 118)), (.ro true true .sc 0 32 u68)]
def r81_6 : KV := (.tup (.cons u148 u10))
theorem m81_6 : Rb ESR0 81 a81_6 r81_6 := of_eq_true (by kernel_rfl)
theorem c81_6 : KCSb Tryz.prog 81 (kcon a81_6 r81_6) := kconRb okESR0 m81_6
def a81_7 : List KV := [u148, (.int .i64 (.ofNat 124)), (.ro true true .sc 0 185 u70)]
def r81_7 : KV := (.tup (.cons u149 u10))
theorem m81_7 : Rb ESR0 81 a81_7 r81_7 := of_eq_true (by kernel_rfl)
theorem c81_7 : KCSb Tryz.prog 81 (kcon a81_7 r81_7) := kconRb okESR0 m81_7
def a81_8 : List KV := [u149, (.int .i64 (.ofNat 148)), (.ro true true .sc 0 185 u76)]
def r81_8 : KV := (.tup (.cons u150 u10))
theorem m81_8 : Rb ESR0 81 a81_8 r81_8 := of_eq_true (by kernel_rfl)
theorem c81_8 : KCSb Tryz.prog 81 (kcon a81_8 r81_8) := kconRb okESR0 m81_8
def a81_9 : List KV := [u150, (.int .i64 (.ofNat 150)), (.ro true true .sc 0 137 u72)]
def r81_9 : KV := (.tup (.cons u151 u10))
theorem m81_9 : Rb ESR0 81 a81_9 r81_9 := of_eq_true (by kernel_rfl)
theorem c81_9 : KCSb Tryz.prog 81 (kcon a81_9 r81_9) := kconRb okESR0 m81_9
def a81_10 : List KV := [u151, (.int .i64 (.ofNat 156)), (.ro true true .sc 0 137 u75)]
def r81_10 : KV := (.tup (.cons u152 u10))
theorem m81_10 : Rb ESR0 81 a81_10 r81_10 := of_eq_true (by kernel_rfl)
theorem c81_10 : KCSb Tryz.prog 81 (kcon a81_10 r81_10) := kconRb okESR0 m81_10
def a81_11 : List KV := [u152, (.int .i64 (.ofNat 159)), (.ro true true .sc 0 137 u74)]
def r81_11 : KV := (.tup (.cons u79 u10))
theorem m81_11 : Rb ESR0 81 a81_11 r81_11 := of_eq_true (by kernel_rfl)
theorem c81_11 : KCSb Tryz.prog 81 (kcon a81_11 r81_11) := kconRb okESR0 m81_11
def a30_0 : List KV := [u41, u9]
def r30_0 : KV := (.tup (.cons u49 u10))
theorem m30_0 : Rb ESR0 30 a30_0 r30_0 := of_eq_true (by kernel_rfl)
theorem c30_0 : KCSb Tryz.prog 30 (kcon a30_0 r30_0) := kconRb okESR0 m30_0
def a32_0 : List KV := [u0, u5, u8]
def r32_0 : KV := u31
theorem m32_0 : Rb ESR0 32 a32_0 r32_0 := of_eq_true (by kernel_rfl)
theorem c32_0 : KCSb Tryz.prog 32 (kcon a32_0 r32_0) := kconRb okESR0 m32_0
def a32_1 : List KV := [u0, u35, u37]
def r32_1 : KV := u31
theorem m32_1 : Rb ESR0 32 a32_1 r32_1 := of_eq_true (by kernel_rfl)
theorem c32_1 : KCSb Tryz.prog 32 (kcon a32_1 r32_1) := kconRb okESR0 m32_1
def a32_2 : List KV := [u0, u41, u42]
def r32_2 : KV := u47
theorem m32_2 : Rb ESR0 32 a32_2 r32_2 := of_eq_true (by kernel_rfl)
theorem c32_2 : KCSb Tryz.prog 32 (kcon a32_2 r32_2) := kconRb okESR0 m32_2
end
end Go.K
set_option maxRecDepth 10000
namespace Go.K
open Go.Ab Go.RowKit Go.Y Go.Proofs
noncomputable section
attribute [local irreducible] krun callR
def a32_3 : List KV := [u0, u49, u42]
def r32_3 : KV := u47
theorem m32_3 : Rb ESR0 32 a32_3 r32_3 := of_eq_true (by kernel_rfl)
theorem c32_3 : KCSb Tryz.prog 32 (kcon a32_3 r32_3) := kconRb okESR0 m32_3
def a32_4 : List KV := [u0, u50, u42]
def r32_4 : KV := u47
theorem m32_4 : Rb ESR0 32 a32_4 r32_4 := of_eq_true (by kernel_rfl)
theorem c32_4 : KCSb Tryz.prog 32 (kcon a32_4 r32_4) := kconRb okESR0 m32_4
end
end Go.K
