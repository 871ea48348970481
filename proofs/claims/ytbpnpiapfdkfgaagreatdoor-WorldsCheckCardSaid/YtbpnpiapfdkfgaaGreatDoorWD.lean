/- Values of the runs. No condition. An environment. No condition. Closed runs. No condition. Tables of contracts. No condition. An environment. No condition. Closed runs. No condition. Tables of contracts. No condition. lives(): a closed run. No condition. -/
import Derived.Test.YtbpnpiapfdkfgaaGreatDoorLC1
import Derived.Test.YtbpnpiapfdkfgaaGreatDoorK21
set_option linter.unusedVariables false
set_option maxRecDepth 10000
namespace Go.K
open Go.Ab Go.RowKit Go.Y Go.Proofs
noncomputable section
/-- A call comes to this. -/
def Rn (E : KEnv) (f : Nat) (a : List KV) (r : KV) : Prop := callR E (krun E 1000000) 0 f a .e 0 0 (fun x zm _ _ => tK (fzB zm 40 x r))
theorem kconR {E : KEnv} {f : Nat} {a : List KV} {r : KV} (hE : KOk E) (h : Rn E f a r) : KCS E.P f (kcon a r) := kconF_s hE h
def bigV0 : KV := (.tup (.cons (.cons (.int .i64 (.ofNat 16)) (.cons (.int .i64 (.ofNat 1)) (.cons (.ro true true .sc 0 1 (.ar 1 .nilp (.tn (.ref true (.arr 64 .sc) (.ar 64 .nilp (.tb .te (.tb .te .te (.tn (.ref true (.cons .sc (.cons .sc (.cons .sc (.cons .sc .nl)))) (.cons (.bool true) (.cons (.ro true false .sc 0 137 (.pk .u8 137 1)) (.cons (.int .i64 (.ofNat 1)) (.cons .nilp .nl))))) .te .te .te .te) .te) .te .te))) .te .te .te .te))) .nl))) (.cons (.cons (.pk .u8 32 57061694406932542387411442672345176105610110515719100098405207664887830735945) (.cons (.int .u64 (.ofNat 0)) (.cons (.int .u64 (.ofNat 0)) .nl))) (.cons (.int .i64 (.ofNat 0)) .nl))))
def bigV1 : KV := (.cons (.int .i64 (.ofNat 16)) (.cons (.int .i64 (.ofNat 1)) (.cons (.ro true true .sc 0 1 (.ar 1 .nilp (.tn (.ref true (.arr 64 .sc) (.ar 64 .nilp (.tb .te (.tb .te .te (.tn (.ref true (.cons .sc (.cons .sc (.cons .sc (.cons .sc .nl)))) (.cons (.bool true) (.cons (.ro true false .sc 0 137 (.pk .u8 137 1)) (.cons (.int .i64 (.ofNat 1)) (.cons .nilp .nl))))) .te .te .te .te) .te) .te .te))) .te .te .te .te))) .nl)))
def bigV2 : KV := (.tup (.cons (.cons (.int .u8 (.ofNat 1)) (.cons (.int .u32 (.ofNat 0)) (.cons (.ar 4 (.cons (.int .u8 (.ofNat 0)) (.cons (.cons (.int .u32 (.ofNat 0)) (.cons (.int .u64 (.ofNat 0)) .nl)) (.cons (.pk .u8 32 0) .nl))) .te) (.cons (.ar 4 (.cons (.int .u8 (.ofNat 0)) (.cons (.pk .u8 32 0) .nl)) (.tn (.cons (.int .u8 (.ofNat 0)) (.cons (.pk .u8 32 0) .nl)) (.tn (.cons (.int .u8 (.ofNat 0)) (.cons (.pk .u8 32 0) .nl)) .te .te .te .te) (.tn (.cons (.int .u8 (.ofNat 0)) (.cons (.pk .u8 32 0) .nl)) .te .te .te .te) (.tn (.cons (.int .u8 (.ofNat 0)) (.cons (.pk .u8 32 0) .nl)) .te .te .te .te) .te)) .nl)))) (.cons (.int .i64 (.ofNat 0)) .nl)))
end
end Go.K
set_option linter.unusedVariables false
set_option maxRecDepth 10000
namespace Go.K
open Go.Ab Go.RowKit Go.Y Go.Proofs
noncomputable section
def EW0a : KEnv := E0.tab [(172, sCompS)]
theorem okEW0a : KOk EW0a := ok0.tab ⟨kcs172, trivial⟩
def EW0 : KEnv := EW0a.olo (fun f => false)
theorem okEW0 : KOk EW0 := okEW0a.olo _
end
end Go.K
set_option linter.unusedVariables false
set_option maxRecDepth 10000
namespace Go.K
open Go.Ab Go.RowKit Go.Y Go.Proofs
noncomputable section
attribute [local irreducible] krun callR
def a20_0 : List KV := [(.pk .u8 32 0)]
def r20_0 : KV := (.cons (.pk .u8 16 227015987498948502906164254901188771340) (.cons (.pk .u8 32 85605116408068634764354859088308476708945388568925487932757023355439670112230) .nl))
theorem m20_0 : Rn EW0 20 a20_0 r20_0 := of_eq_true (by kernel_rfl)
theorem c20_0 : KCS Tryz.prog 20 (kcon a20_0 r20_0) := kconR okEW0 m20_0
def a25_0 : List KV := [(.int .i64 (.ofNat 5))]
def r25_0 : KV := bigV0
theorem m25_0 : Rn EW0 25 a25_0 r25_0 := of_eq_true (by kernel_rfl)
theorem c25_0 : KCS Tryz.prog 25 (kcon a25_0 r25_0) := kconR okEW0 m25_0
def a26_0 : List KV := [(.int .i64 (.ofNat 5)), bigV1, (.cons (.pk .u8 32 57061694406932542387411442672345176105610110515719100098405207664887830735945) (.cons (.int .u64 (.ofNat 0)) (.cons (.int .u64 (.ofNat 0)) .nl)))]
def r26_0 : KV := bigV2
theorem m26_0 : Rn EW0 26 a26_0 r26_0 := of_eq_true (by kernel_rfl)
theorem c26_0 : KCS Tryz.prog 26 (kcon a26_0 r26_0) := kconR okEW0 m26_0
end
end Go.K
set_option linter.unusedVariables false
set_option maxRecDepth 10000
namespace Go.K
open Go.Ab Go.RowKit Go.Y Go.Proofs
noncomputable section
def tab20 : List (List KV × KV) := [(a20_0, r20_0)]
theorem PM20 : ∃ fn, Tryz.prog.funcs[20]? = some fn ∧ (fn.name == "runtime.NumGoroutine") = false ∧ fn.body.isNone = false := ⟨Tryz.f20, Tryz.func20, (fnsL.get Tryz.func20).1, by kernel_rfl⟩
theorem kcsT20 : KCS Tryz.prog 20 (sMem tab20) := sMem_s PM20 ⟨c20_0, by kernel_rfl, trivial⟩
def tab25 : List (List KV × KV) := [(a25_0, r25_0)]
theorem PM25 : ∃ fn, Tryz.prog.funcs[25]? = some fn ∧ (fn.name == "runtime.NumGoroutine") = false ∧ fn.body.isNone = false := ⟨Tryz.f25, Tryz.func25, (fnsL.get Tryz.func25).1, by kernel_rfl⟩
theorem kcsT25 : KCS Tryz.prog 25 (sMem tab25) := sMem_s PM25 ⟨c25_0, by kernel_rfl, trivial⟩
def tab26 : List (List KV × KV) := [(a26_0, r26_0)]
theorem PM26 : ∃ fn, Tryz.prog.funcs[26]? = some fn ∧ (fn.name == "runtime.NumGoroutine") = false ∧ fn.body.isNone = false := ⟨Tryz.f26, Tryz.func26, (fnsL.get Tryz.func26).1, by kernel_rfl⟩
theorem kcsT26 : KCS Tryz.prog 26 (sMem tab26) := sMem_s PM26 ⟨c26_0, by kernel_rfl, trivial⟩
end
end Go.K
set_option linter.unusedVariables false
set_option maxRecDepth 10000
namespace Go.K
open Go.Ab Go.RowKit Go.Y Go.Proofs
noncomputable section
def EW1a : KEnv := E0.tab [(172, sCompS), (20, sMem tab20), (25, sMem tab25), (26, sMem tab26)]
theorem okEW1a : KOk EW1a := ok0.tab ⟨kcs172, kcsT20, kcsT25, kcsT26, trivial⟩
def EW1 : KEnv := EW1a.olo (fun f => false)
theorem okEW1 : KOk EW1 := okEW1a.olo _
end
end Go.K
set_option linter.unusedVariables false
set_option maxRecDepth 10000
namespace Go.K
open Go.Ab Go.RowKit Go.Y Go.Proofs
noncomputable section
attribute [local irreducible] krun callR
def a6_0 : List KV := []
def r6_0 : KV := (.bool true)
theorem m6_0 : Rn EW1 6 a6_0 r6_0 := of_eq_true (by kernel_rfl)
theorem c6_0 : KCS Tryz.prog 6 (kcon a6_0 r6_0) := kconR okEW1 m6_0
end
end Go.K
set_option linter.unusedVariables false
set_option maxRecDepth 10000
namespace Go.K
open Go.Ab Go.RowKit Go.Y Go.Proofs
noncomputable section
def tab6 : List (List KV × KV) := [(a6_0, r6_0)]
theorem PM6 : ∃ fn, Tryz.prog.funcs[6]? = some fn ∧ (fn.name == "runtime.NumGoroutine") = false ∧ fn.body.isNone = false := ⟨Tryz.f6, Tryz.func6, (fnsL.get Tryz.func6).1, by kernel_rfl⟩
theorem kcsT6 : KCS Tryz.prog 6 (sMem tab6) := sMem_s PM6 ⟨c6_0, by kernel_rfl, trivial⟩
end
end Go.K
namespace Go.K
open Go.Ab Go.RowKit Go.Y Go.Proofs
theorem lives_s : KCS Tryz.prog 6 (kcon [] (.bool true)) := c6_0
end Go.K
