/- Closed runs. No condition. Closed runs. No condition. -/
import Derived.Test.YtfpmealbbibhpaaGreatDoorSRR1_0
set_option linter.unusedVariables false
set_option maxRecDepth 10000
namespace Go.K
open Go.Ab Go.RowKit Go.Y Go.Proofs
noncomputable section
attribute [local irreducible] krun callR
def a12_4 : List KV := [u135, u115, u117, u82, u123]
def r12_4 : KV := (.tup (.cons u139 (.cons (.cons u144 (.cons (.ro true true .sc 0 32 u62) .nl)) u10)))
theorem m12_4 : Rb ESR3 12 a12_4 r12_4 := of_eq_true (by kernel_rfl)
theorem c12_4 : KCSb Tryz.prog 12 (kcon a12_4 r12_4) := kconRb okESR3 m12_4
end
end Go.K
set_option maxRecDepth 10000
namespace Go.K
open Go.Ab Go.RowKit Go.Y Go.Proofs
noncomputable section
attribute [local irreducible] krun callR
def a12_5 : List KV := [u139, u115, u128, u86, u123]
def r12_5 : KV := (.tup (.cons u143 (.cons (.cons (.int .i64 (.ofNat 118)) (.cons (.ro true true .sc 0 32 u68) .nl)) u10)))
theorem m12_5 : Rb ESR3 12 a12_5 r12_5 := of_eq_true (by kernel_rfl)
theorem c12_5 : KCSb Tryz.prog 12 (kcon a12_5 r12_5) := kconRb okESR3 m12_5
def a84_0 : List KV := [u0, u35, u115, u9, u22]
def r84_0 : KV := (.tup (.cons (.pk .u8 32 0) u30))
theorem m84_0 : Rb ESR3 84 a84_0 r84_0 := of_eq_true (by kernel_rfl)
theorem c84_0 : KCSb Tryz.prog 84 (kcon a84_0 r84_0) := kconRb okESR3 m84_0
def a84_1 : List KV := [u0, u41, u115, u9, u45]
def r84_1 : KV := (.tup (.cons u118 u30))
theorem m84_1 : Rb ESR3 84 a84_1 r84_1 := of_eq_true (by kernel_rfl)
theorem c84_1 : KCSb Tryz.prog 84 (kcon a84_1 r84_1) := kconRb okESR3 m84_1
def a84_2 : List KV := [u0, u49, u115, u9, u45]
def r84_2 : KV := (.tup (.cons (.pk .u8 32 0) (.cons (.cons u9 (.cons u43 .nl)) (.cons (.int .i64 (.ofNat 9)) .nl))))
theorem m84_2 : Rb ESR3 84 a84_2 r84_2 := of_eq_true (by kernel_rfl)
theorem c84_2 : KCSb Tryz.prog 84 (kcon a84_2 r84_2) := kconRb okESR3 m84_2
def a84_3 : List KV := [u0, u50, u115, u9, u45]
def r84_3 : KV := (.tup (.cons u118 u30))
theorem m84_3 : Rb ESR3 84 a84_3 r84_3 := of_eq_true (by kernel_rfl)
theorem c84_3 : KCSb Tryz.prog 84 (kcon a84_3 r84_3) := kconRb okESR3 m84_3
def a84_4 : List KV := [u11, u79, u115, u128, (.cons u43 (.cons u86 (.cons u87 .nl)))]
def r84_4 : KV := (.tup (.cons u123 u30))
theorem m84_4 : Rb ESR3 84 a84_4 r84_4 := of_eq_true (by kernel_rfl)
theorem c84_4 : KCSb Tryz.prog 84 (kcon a84_4 r84_4) := kconRb okESR3 m84_4
def a84_5 : List KV := [u11, u79, u115, u117, u84]
def r84_5 : KV := (.tup (.cons u123 u30))
theorem m84_5 : Rb ESR3 84 a84_5 r84_5 := of_eq_true (by kernel_rfl)
theorem c84_5 : KCSb Tryz.prog 84 (kcon a84_5 r84_5) := kconRb okESR3 m84_5
end
end Go.K
