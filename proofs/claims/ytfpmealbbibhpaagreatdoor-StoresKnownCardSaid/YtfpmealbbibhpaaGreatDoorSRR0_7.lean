/- Closed runs. No condition. Closed runs. No condition. Closed runs. No condition. -/
import Derived.Test.YtfpmealbbibhpaaGreatDoorSRD
set_option linter.unusedVariables false
set_option maxRecDepth 10000
namespace Go.K
open Go.Ab Go.RowKit Go.Y Go.Proofs
noncomputable section
attribute [local irreducible] krun callR
def a32_5 : List KV := [u11, u16, u18]
def r32_5 : KV := (.tup (.cons (.cons u11 (.cons (.ro true true (.cons .sc (.cons .sc (.cons (.arr 4 (.cons .sc (.cons (.cons .sc (.cons .sc .nl)) (.cons (.arr 32 .sc) .nl)))) (.cons (.arr 4 (.cons .sc (.cons (.arr 32 .sc) .nl))) .nl)))) 0 20 (.ar 20 u27 (.tn u27 u52 (.tn (.cons u19 (.cons u51 u26)) u53 u54 (.tn (.cons u19 (.cons (.int .u32 (.ofNat 14)) u26)) .te .te .te .te) (.tn (.cons u43 (.cons u55 u26)) .te .te .te .te)) (.tn (.cons u19 (.cons u55 u26)) u56 u57 (.tn (.cons u43 (.cons u20 u26)) .te .te .te .te) (.tn u60 .te .te .te .te)) u61))) .nl)) (.cons (.ro true true .sc 0 20 (.pk .i64 20 61172327492847069475348552237392703980402866817569771799678009553745704735694109546521524132470694842497886108337948582491587615166730674719991704020910413241410303921913523928371129351257273956205752392651198116971983594243091447192260803876720445960798675118684974158296568146824450287606650498686984074624085574633257373382424748948682553950209)) u30)))
theorem m32_5 : Rb ESR0 32 a32_5 r32_5 := of_eq_true (by kernel_rfl)
theorem c32_5 : KCSb Tryz.prog 32 (kcon a32_5 r32_5) := kconRb okESR0 m32_5
end
end Go.K
set_option maxRecDepth 10000
namespace Go.K
open Go.Ab Go.RowKit Go.Y Go.Proofs
noncomputable section
attribute [local irreducible] krun callR
def a32_6 : List KV := [u11, u79, u81]
def r32_6 : KV := (.tup (.cons (.cons u11 (.cons (.ro true true (.cons .sc (.cons .sc (.cons (.arr 4 (.cons .sc (.cons (.cons .sc (.cons .sc .nl)) (.cons (.arr 32 .sc) .nl)))) (.cons (.arr 4 (.cons .sc (.cons (.arr 32 .sc) .nl))) .nl)))) 0 20 (.ar 20 u27 (.tn u27 u52 (.tn u85 u53 u54 (.tn u89 .te .te .te .te) (.tn u91 .te .te .te .te)) (.tn (.cons u19 (.cons u55 u26)) u56 u57 (.tn u93 .te .te .te .te) (.tn u95 .te .te .te .te)) u61))) .nl)) (.cons (.ro true true .sc 0 20 (.pk .i64 20 1128430269653696552505663664688505519055210106635912319881976461073767914690691907581648153572822791560311253890434129100852231872262013479097729681873309357157771017680708070806304490476652168619517438123150147836965710075392968799666603713820902514093638499307790909612415924366581683158673026977570323333044855604748476348314555425427410954102739754899896512020481)) u30)))
theorem m32_6 : Rb ESR0 32 a32_6 r32_6 := of_eq_true (by kernel_rfl)
theorem c32_6 : KCSb Tryz.prog 32 (kcon a32_6 r32_6) := kconRb okESR0 m32_6
end
end Go.K
set_option maxRecDepth 10000
namespace Go.K
open Go.Ab Go.RowKit Go.Y Go.Proofs
noncomputable section
attribute [local irreducible] krun callR
def a130_0 : List KV := [u130]
def r130_0 : KV := (.tup (.cons u101 u10))
theorem m130_0 : Rb ESR0 130 a130_0 r130_0 := of_eq_true (by kernel_rfl)
theorem c130_0 : KCSb Tryz.prog 130 (kcon a130_0 r130_0) := kconRb okESR0 m130_0
def a130_1 : List KV := [u143]
def r130_1 : KV := (.tup (.cons (.cons u11 (.cons (.ro true true (.cons (.cons .sc (.cons .sc (.cons (.arr 4 (.cons .sc (.cons (.cons .sc (.cons .sc .nl)) (.cons (.arr 32 .sc) .nl)))) (.cons (.arr 4 (.cons .sc (.cons (.arr 32 .sc) .nl))) .nl)))) (.cons .sc (.cons .sc (.cons (.arr 4 .sc) .nl)))) 0 20 (.ar 20 u98 (.tn u102 u103 (.tn (.cons u136 u97) u104 u105 (.tn (.cons u140 u97) .te .te .te .te) (.tn (.cons u141 u97) .te .te .te .te)) (.tn u108 u109 u110 (.tn (.cons u137 u97) .te .te .te .te) (.tn (.cons u142 u100) .te .te .te .te)) u111))) .nl)) u10))
theorem m130_1 : Rb ESR0 130 a130_1 r130_1 := of_eq_true (by kernel_rfl)
theorem c130_1 : KCSb Tryz.prog 130 (kcon a130_1 r130_1) := kconRb okESR0 m130_1
def a141_0 : List KV := [u49, u9, u0]
def r141_0 : KV := (.tup (.cons u50 u10))
theorem m141_0 : Rb ESR0 141 a141_0 r141_0 := of_eq_true (by kernel_rfl)
theorem c141_0 : KCSb Tryz.prog 141 (kcon a141_0 r141_0) := kconRb okESR0 m141_0
end
end Go.K
