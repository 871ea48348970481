/- Closed runs. No condition. Closed runs. No condition. Closed runs. No condition. Closed runs. No condition. -/
import Derived.Test.YtfpmealbbibhpaaGreatDoorSRD
set_option linter.unusedVariables false
set_option maxRecDepth 10000
namespace Go.K
open Go.Ab Go.RowKit Go.Y Go.Proofs
noncomputable section
attribute [local irreducible] krun callR
def a301_0 : List KV := [u113]
def r301_0 : KV := (.ar 11 (.pk .u8 16 0) (.tn u113 (.tn (.pk .u8 16 244692293552090773766680630154488570858) (.tn (.pk .u8 16 61132672119512215617363851101547982835) .te .te .te .te) (.tn (.pk .u8 16 51218315296579856550623947364140516558) .te .te .te .te) .te .te) (.tn (.pk .u8 16 58491611582941221459543738777256174723) (.tn (.pk .u8 16 191207780473449731179334106468058315653) .te .te .te .te) (.tn (.pk .u8 16 192979569781932640817133899787071701187) .te .te .te .te) .te .te) (.tn (.pk .u8 16 115385780611071547392706572118041614586) (.tn (.pk .u8 16 8958250179811866084448752772281634405) .te .te .te .te) .te .te .te) (.tn (.pk .u8 16 80377965771783626294549381498756223745) (.tn (.pk .u8 16 83862117454716127209800860701131994198) .te .te .te .te) .te .te .te)))
theorem m301_0 : Rn ESR0 301 a301_0 r301_0 := of_eq_true (by kernel_rfl)
theorem c301_0 : KCS Tryz.prog 301 (kcon a301_0 r301_0) := kconR okESR0 m301_0
def a233_0 : List KV := [u155, (.ro false true .sc 0 48 (.pk .u8 48 26464969476652766383992873185600320893435902743876880075764690502436910089532100723981241347275582189081289826500608)), u44]
def r233_0 : KV := u2
theorem m233_0 : Rn ESR0 233 a233_0 r233_0 := of_eq_true (by kernel_rfl)
theorem c233_0 : KCS Tryz.prog 233 (kcon a233_0 r233_0) := kconR okESR0 m233_0
def a233_1 : List KV := [u155, (.ro false true .sc 0 48 (.pk .u8 48 18671133368123016904006811522241475824464151479274341077285899560596961580639903453914165960196618266577109166063616)), u87]
def r233_1 : KV := u2
theorem m233_1 : Rn ESR0 233 a233_1 r233_1 := of_eq_true (by kernel_rfl)
theorem c233_1 : KCS Tryz.prog 233 (kcon a233_1 r233_1) := kconR okESR0 m233_1
def a233_2 : List KV := [u155, (.ro false true .sc 0 48 (.pk .u8 48 10136292761214118042283188048966242823087334637091594119994081858237055105243318402402608457631282636100023904894976)), u83]
def r233_2 : KV := u2
theorem m233_2 : Rn ESR0 233 a233_2 r233_2 := of_eq_true (by kernel_rfl)
theorem c233_2 : KCS Tryz.prog 233 (kcon a233_2 r233_2) := kconR okESR0 m233_2
def a116_0 : List KV := [(.pk .u8 32 0)]
def r116_0 : KV := u115
theorem m116_0 : Rn ESR0 116 a116_0 r116_0 := of_eq_true (by kernel_rfl)
theorem c116_0 : KCS Tryz.prog 116 (kcon a116_0 r116_0) := kconR okESR0 m116_0
def a73_0 : List KV := [u99, u9, u21, u44]
def r73_0 : KV := (.tup (.cons u130 (.cons u9 u10)))
theorem m73_0 : Rb ESR0 73 a73_0 r73_0 := of_eq_true (by kernel_rfl)
theorem c73_0 : KCSb Tryz.prog 73 (kcon a73_0 r73_0) := kconRb okESR0 m73_0
def a73_1 : List KV := [u130, u9, u119, u125]
def r73_1 : KV := (.tup (.cons u131 (.cons u9 u10)))
theorem m73_1 : Rb ESR0 73 a73_1 r73_1 := of_eq_true (by kernel_rfl)
theorem c73_1 : KCSb Tryz.prog 73 (kcon a73_1 r73_1) := kconRb okESR0 m73_1
end
end Go.K
set_option maxRecDepth 10000
namespace Go.K
open Go.Ab Go.RowKit Go.Y Go.Proofs
noncomputable section
attribute [local irreducible] krun callR
def a73_2 : List KV := [u112, u117, u21, u126]
def r73_2 : KV := (.tup (.cons u134 (.cons u9 u10)))
theorem m73_2 : Rb ESR0 73 a73_2 r73_2 := of_eq_true (by kernel_rfl)
theorem c73_2 : KCSb Tryz.prog 73 (kcon a73_2 r73_2) := kconRb okESR0 m73_2
def a73_3 : List KV := [u134, u117, u119, u127]
def r73_3 : KV := (.tup (.cons u135 (.cons u9 u10)))
theorem m73_3 : Rb ESR0 73 a73_3 r73_3 := of_eq_true (by kernel_rfl)
theorem c73_3 : KCSb Tryz.prog 73 (kcon a73_3 r73_3) := kconRb okESR0 m73_3
end
end Go.K
set_option maxRecDepth 10000
namespace Go.K
open Go.Ab Go.RowKit Go.Y Go.Proofs
noncomputable section
attribute [local irreducible] krun callR
def a73_4 : List KV := [u135, u117, u82, u83]
def r73_4 : KV := (.tup (.cons u139 (.cons u9 u10)))
theorem m73_4 : Rb ESR0 73 a73_4 r73_4 := of_eq_true (by kernel_rfl)
theorem c73_4 : KCSb Tryz.prog 73 (kcon a73_4 r73_4) := kconRb okESR0 m73_4
end
end Go.K
set_option maxRecDepth 10000
namespace Go.K
open Go.Ab Go.RowKit Go.Y Go.Proofs
noncomputable section
attribute [local irreducible] krun callR
def a73_5 : List KV := [u139, u128, u86, u87]
def r73_5 : KV := (.tup (.cons u143 (.cons u9 u10)))
theorem m73_5 : Rb ESR0 73 a73_5 r73_5 := of_eq_true (by kernel_rfl)
theorem c73_5 : KCSb Tryz.prog 73 (kcon a73_5 r73_5) := kconRb okESR0 m73_5
def a15_0 : List KV := [u130, u37]
def r15_0 : KV := (.tup (.cons u153 (.cons u42 u10)))
theorem m15_0 : Rb ESR0 15 a15_0 r15_0 := of_eq_true (by kernel_rfl)
theorem c15_0 : KCSb Tryz.prog 15 (kcon a15_0 r15_0) := kconRb okESR0 m15_0
end
end Go.K
