/- The disk of the greatest fresh volume. No condition. -/
import Derived.Test.YthnhbdidiglcgaaGreatDoorRV1
import Derived.Test.YthnhbdidiglcgaaGreatDoorK21
set_option linter.unusedVariables false
set_option maxRecDepth 10000
namespace Go.K
open Go.Ab Go.RowKit Go.Y Go.Proofs
noncomputable section
def chE : KV := .ref true (.arr 64 .sc) (.ar 64 .nilp .te)
def chL : KV := .tn chE .te .te .te .te
def chM : KV := .tn chE chL .te .te .te
def chN : KV := .tn chE chL chL .te .te
def dkF : KV := (.cons (.int .i64 (.ofNat 10922)) (.cons (.int .i64 (.ofNat 1)) (.cons (.ro true true .sc 0 171 (.ar 171 .nilp (.tn chE (.tn chE (.tn chE chN chN chM chM) (.tn chE chN chN chM chM) (.tn chE chN chM chM chM) (.tn chE chN chM chM chM)) (.tn chE (.tn chE chN chN chM chM) (.tn chE chN (.tn chE chL (.tn (.ref true (.arr 64 .sc) (.ar 64 .nilp (.tb .te .te .te (.tb (.tb .te (.tn (.ref true (.cons .sc (.cons .sc (.cons .sc (.cons .sc .nl)))) (.cons (.bool true) (.cons (.ro true false .sc 0 137 (.pk .u8 137 5)) (.cons (.int .i64 (.ofNat 1)) (.cons .nilp .nl))))) .te .te .te .te) .te .te) .te .te .te)))) .te .te .te .te) .te .te) chM chM) (.tn chE chN chM chM chM) (.tn chE chN chM chM chM)) (.tn chE (.tn chE chN chN chM chM) (.tn chE chN chM chM chM) (.tn chE chN chM chM chM) (.tn chE chN chM chM chM)) (.tn chE (.tn chE chN chN chM chM) (.tn chE chN chM chM chM) (.tn chE chN chM chM chM) (.tn chE chN chM chM chM))))) .nl)))
def c29 : Code := match fnB Tryz.prog 29 with | some x => x.1 | none => .skip
def a29 : Code := sR c29
def b29 : Code := sR a29
def d29 : Code := sL b29
def e29 : Code := sR b29
def l29 : Code := lpB (blB (sR d29))
def m29 : Nat := E0.km 29
def sh69 : Shape := .cons .sc (.cons .sc (.cons .sc .nl))
def z29 : List (Nat × KBlk) := [(0, ⟨.box 69, .cons .sc (.cons .sc (.cons .sc .nl)), dkF⟩)]
def s29 (i : Nat) : List (Nat × KV) := [(1, .ptr 0 [] (.cons .sc (.cons .sc (.cons .sc .nl)))), (2, .nils), (3, .nils), (8, .int .i64 (.ofNat 10922)), (9, .int .i64 (.ofNat i))]
def tE29 : List (Nat × KV) := [(2, .nils), (3, .row 10923 .sc 1)]
def zE29 : List (Nat × KBlk) := [(10923, ⟨.row 3, .arr 1 .sc, .pk .i64 1 10920⟩)]
def r29 : KV := .ro true true .sc 0 1 (.pk .i64 1 10920)
def rs29 : List ResultVar := match fnB Tryz.prog 29 with | some x => x.2 | none => []
end
end Go.K
