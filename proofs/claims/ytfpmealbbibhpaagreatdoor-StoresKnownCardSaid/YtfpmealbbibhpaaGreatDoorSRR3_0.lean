/- Closed runs. No condition. Closed runs. No condition. -/
import Derived.Test.YtfpmealbbibhpaaGreatDoorSRR1_0
set_option linter.unusedVariables false
set_option maxRecDepth 10000
namespace Go.K
open Go.Ab Go.RowKit Go.Y Go.Proofs
noncomputable section
attribute [local irreducible] krun callR
def a12_0 : List KV := [u99, u115, u9, u21, u118]
def r12_0 : KV := (.tup (.cons u130 (.cons (.cons u9 (.cons (.ro true true .sc 0 32 u33) .nl)) u10)))
theorem m12_0 : Rb ESR3 12 a12_0 r12_0 := of_eq_true (by kernel_rfl)
theorem c12_0 : KCSb Tryz.prog 12 (kcon a12_0 r12_0) := kconRb okESR3 m12_0
def a12_1 : List KV := [u130, u115, u9, u119, u120]
def r12_1 : KV := (.tup (.cons u131 (.cons (.cons u9 (.cons u122 .nl)) u10)))
theorem m12_1 : Rb ESR3 12 a12_1 r12_1 := of_eq_true (by kernel_rfl)
theorem c12_1 : KCSb Tryz.prog 12 (kcon a12_1 r12_1) := kconRb okESR3 m12_1
def a12_2 : List KV := [u112, u115, u117, u21, u123]
def r12_2 : KV := (.tup (.cons u134 (.cons (.cons u144 (.cons (.ro true true .sc 0 32 u64) .nl)) u10)))
theorem m12_2 : Rb ESR3 12 a12_2 r12_2 := of_eq_true (by kernel_rfl)
theorem c12_2 : KCSb Tryz.prog 12 (kcon a12_2 r12_2) := kconRb okESR3 m12_2
end
end Go.K
set_option maxRecDepth 10000
namespace Go.K
open Go.Ab Go.RowKit Go.Y Go.Proofs
noncomputable section
attribute [local irreducible] krun callR
def a12_3 : List KV := [u134, u115, u117, u119, u123]
def r12_3 : KV := (.tup (.cons u135 (.cons (.cons u144 (.cons (.ro true true .sc 0 32 u63) .nl)) u10)))
theorem m12_3 : Rb ESR3 12 a12_3 r12_3 := of_eq_true (by kernel_rfl)
theorem c12_3 : KCSb Tryz.prog 12 (kcon a12_3 r12_3) := kconRb okESR3 m12_3
end
end Go.K
