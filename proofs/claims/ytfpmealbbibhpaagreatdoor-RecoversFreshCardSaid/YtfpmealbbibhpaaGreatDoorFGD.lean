/- Values of the runs. No condition. An environment. No condition. Closed runs. No condition. Tables of contracts. No condition. An environment. No condition. Closed runs. No condition. Tables of contracts. No condition. -/
import Derived.Test.YtfpmealbbibhpaaGreatDoorLC1
import Derived.Test.YtfpmealbbibhpaaGreatDoorK21
set_option linter.unusedVariables false
set_option maxRecDepth 10000
namespace Go.K
open Go.Ab Go.RowKit Go.Y Go.Proofs
noncomputable section
def Rn (E : KEnv) (f : Nat) (a : List KV) (r : KV) : Prop := callR E (krun E 1000000) 0 f a .e 0 0 (fun x zm _ _ => tK (fzB zm 40 x r))
theorem kconR {E : KEnv} {f : Nat} {a : List KV} {r : KV} (hE : KOk E) (h : Rn E f a r) : KCS E.P f (kcon a r) := kconF_s hE h
end
end Go.K
set_option maxRecDepth 10000
namespace Go.K
open Go.Ab Go.RowKit Go.Y Go.Proofs
noncomputable section
def EFG0a : KEnv := E0.tab [(273, sCompS), (261, sCompR), (28, kcon [] (.bool true))]
theorem okEFG0a : KOk EFG0a := ok0.tab ⟨kcs273, kcs261, rlives_s, trivial⟩
def EFG0 : KEnv := EFG0a.olo (fun f => false)
theorem okEFG0 : KOk EFG0 := okEFG0a.olo _
end
end Go.K
set_option maxRecDepth 10000
namespace Go.K
open Go.Ab Go.RowKit Go.Y Go.Proofs
noncomputable section
attribute [local irreducible] krun callR
def a92_0 : List KV := [(.cons (.int .u8 (.ofNat 0)) (.cons (.int .u32 (.ofNat 0)) (.cons (.ar 4 (.cons (.int .u8 (.ofNat 0)) (.cons (.cons (.int .u32 (.ofNat 0)) (.cons (.int .u64 (.ofNat 0)) .nl)) (.cons (.pk .u8 32 0) .nl))) .te) (.cons (.ar 4 (.cons (.int .u8 (.ofNat 0)) (.cons (.pk .u8 32 0) .nl)) .te) .nl))))]
def r92_0 : KV := (.tup (.cons (.ro true true .sc 0 185 (.pk .u8 185 0)) (.cons (.int .i64 (.ofNat 0)) .nl)))
theorem m92_0 : Rn EFG0 92 a92_0 r92_0 := of_eq_true (by kernel_rfl)
theorem c92_0 : KCS Tryz.prog 92 (kcon a92_0 r92_0) := kconR okEFG0 m92_0
def a92_1 : List KV := [(.cons (.int .u8 (.ofNat 1)) (.cons (.int .u32 (.ofNat 0)) (.cons (.ar 4 (.cons (.int .u8 (.ofNat 0)) (.cons (.cons (.int .u32 (.ofNat 0)) (.cons (.int .u64 (.ofNat 0)) .nl)) (.cons (.pk .u8 32 0) .nl))) .te) (.cons (.ar 4 (.cons (.int .u8 (.ofNat 0)) (.cons (.pk .u8 32 0) .nl)) .te) .nl))))]
def r92_1 : KV := (.tup (.cons (.ro true true .sc 0 137 (.pk .u8 137 1)) (.cons (.int .i64 (.ofNat 0)) .nl)))
theorem m92_1 : Rn EFG0 92 a92_1 r92_1 := of_eq_true (by kernel_rfl)
theorem c92_1 : KCS Tryz.prog 92 (kcon a92_1 r92_1) := kconR okEFG0 m92_1
def a92_2 : List KV := [(.cons (.int .u8 (.ofNat 2)) (.cons (.int .u32 (.ofNat 0)) (.cons (.ar 4 (.cons (.int .u8 (.ofNat 0)) (.cons (.cons (.int .u32 (.ofNat 0)) (.cons (.int .u64 (.ofNat 0)) .nl)) (.cons (.pk .u8 32 0) .nl))) .te) (.cons (.ar 4 (.cons (.int .u8 (.ofNat 0)) (.cons (.pk .u8 32 0) .nl)) .te) .nl))))]
def r92_2 : KV := (.tup (.cons (.ro true true .sc 0 137 (.pk .u8 137 2)) (.cons (.int .i64 (.ofNat 0)) .nl)))
theorem m92_2 : Rn EFG0 92 a92_2 r92_2 := of_eq_true (by kernel_rfl)
theorem c92_2 : KCS Tryz.prog 92 (kcon a92_2 r92_2) := kconR okEFG0 m92_2
def a92_3 : List KV := [(.cons (.int .u8 (.ofNat 3)) (.cons (.int .u32 (.ofNat 0)) (.cons (.ar 4 (.cons (.int .u8 (.ofNat 0)) (.cons (.cons (.int .u32 (.ofNat 0)) (.cons (.int .u64 (.ofNat 0)) .nl)) (.cons (.pk .u8 32 0) .nl))) .te) (.cons (.ar 4 (.cons (.int .u8 (.ofNat 0)) (.cons (.pk .u8 32 0) .nl)) .te) .nl))))]
def r92_3 : KV := (.tup (.cons (.ro true true .sc 0 137 (.pk .u8 137 3)) (.cons (.int .i64 (.ofNat 0)) .nl)))
theorem m92_3 : Rn EFG0 92 a92_3 r92_3 := of_eq_true (by kernel_rfl)
theorem c92_3 : KCS Tryz.prog 92 (kcon a92_3 r92_3) := kconR okEFG0 m92_3
def a92_4 : List KV := [(.cons (.int .u8 (.ofNat 4)) (.cons (.int .u32 (.ofNat 0)) (.cons (.ar 4 (.cons (.int .u8 (.ofNat 0)) (.cons (.cons (.int .u32 (.ofNat 0)) (.cons (.int .u64 (.ofNat 0)) .nl)) (.cons (.pk .u8 32 0) .nl))) .te) (.cons (.ar 4 (.cons (.int .u8 (.ofNat 0)) (.cons (.pk .u8 32 0) .nl)) .te) .nl))))]
def r92_4 : KV := (.tup (.cons (.ro true true .sc 0 137 (.pk .u8 137 4)) (.cons (.int .i64 (.ofNat 0)) .nl)))
theorem m92_4 : Rn EFG0 92 a92_4 r92_4 := of_eq_true (by kernel_rfl)
theorem c92_4 : KCS Tryz.prog 92 (kcon a92_4 r92_4) := kconR okEFG0 m92_4
def a92_5 : List KV := [(.cons (.int .u8 (.ofNat 5)) (.cons (.int .u32 (.ofNat 0)) (.cons (.ar 4 (.cons (.int .u8 (.ofNat 0)) (.cons (.cons (.int .u32 (.ofNat 0)) (.cons (.int .u64 (.ofNat 0)) .nl)) (.cons (.pk .u8 32 0) .nl))) .te) (.cons (.ar 4 (.cons (.int .u8 (.ofNat 0)) (.cons (.pk .u8 32 0) .nl)) .te) .nl))))]
def r92_5 : KV := (.tup (.cons (.ro true true .sc 0 137 (.pk .u8 137 5)) (.cons (.int .i64 (.ofNat 0)) .nl)))
theorem m92_5 : Rn EFG0 92 a92_5 r92_5 := of_eq_true (by kernel_rfl)
theorem c92_5 : KCS Tryz.prog 92 (kcon a92_5 r92_5) := kconR okEFG0 m92_5
end
end Go.K
set_option maxRecDepth 10000
namespace Go.K
open Go.Ab Go.RowKit Go.Y Go.Proofs
noncomputable section
def tab92 : List (List KV × KV) := [(a92_0, r92_0), (a92_1, r92_1), (a92_2, r92_2), (a92_3, r92_3), (a92_4, r92_4), (a92_5, r92_5)]
theorem PM92 : ∃ fn, Tryz.prog.funcs[92]? = some fn ∧ (fn.name == "runtime.NumGoroutine") = false ∧ fn.body.isNone = false := ⟨Tryz.f92, Tryz.func92, (fnsL.get Tryz.func92).1, by kernel_rfl⟩
theorem kcsT92 : KCS Tryz.prog 92 (sMem tab92) := sMem_s PM92 ⟨c92_0, by kernel_rfl, ⟨c92_1, by kernel_rfl, ⟨c92_2, by kernel_rfl, ⟨c92_3, by kernel_rfl, ⟨c92_4, by kernel_rfl, ⟨c92_5, by kernel_rfl, trivial⟩⟩⟩⟩⟩⟩
end
end Go.K
set_option maxRecDepth 10000
namespace Go.K
open Go.Ab Go.RowKit Go.Y Go.Proofs
noncomputable section
def EFG1a : KEnv := E0.tab [(273, sCompS), (261, sCompR), (28, kcon [] (.bool true)), (92, sMem tab92)]
theorem okEFG1a : KOk EFG1a := ok0.tab ⟨kcs273, kcs261, rlives_s, kcsT92, trivial⟩
def EFG1 : KEnv := EFG1a.olo (fun f => false)
theorem okEFG1 : KOk EFG1 := okEFG1a.olo _
end
end Go.K
set_option maxRecDepth 10000
namespace Go.K
open Go.Ab Go.RowKit Go.Y Go.Proofs
noncomputable section
attribute [local irreducible] krun callR
def a163_0 : List KV := [(.cons (.int .u8 (.ofNat 0)) (.cons (.int .u32 (.ofNat 0)) (.cons (.ar 4 (.cons (.int .u8 (.ofNat 0)) (.cons (.cons (.int .u32 (.ofNat 0)) (.cons (.int .u64 (.ofNat 0)) .nl)) (.cons (.pk .u8 32 0) .nl))) .te) (.cons (.ar 4 (.cons (.int .u8 (.ofNat 0)) (.cons (.pk .u8 32 0) .nl)) .te) .nl))))]
def r163_0 : KV := (.tup (.cons (.pk .u8 32 49335936114469730489519566754954389822356494958623753279784912804745734766010) (.cons (.int .i64 (.ofNat 0)) .nl)))
theorem m163_0 : Rn EFG1 163 a163_0 r163_0 := of_eq_true (by kernel_rfl)
theorem c163_0 : KCS Tryz.prog 163 (kcon a163_0 r163_0) := kconR okEFG1 m163_0
def a163_1 : List KV := [(.cons (.int .u8 (.ofNat 1)) (.cons (.int .u32 (.ofNat 0)) (.cons (.ar 4 (.cons (.int .u8 (.ofNat 0)) (.cons (.cons (.int .u32 (.ofNat 0)) (.cons (.int .u64 (.ofNat 0)) .nl)) (.cons (.pk .u8 32 0) .nl))) .te) (.cons (.ar 4 (.cons (.int .u8 (.ofNat 0)) (.cons (.pk .u8 32 0) .nl)) .te) .nl))))]
def r163_1 : KV := (.tup (.cons (.pk .u8 32 57061694406932542387411442672345176105610110515719100098405207664887830735945) (.cons (.int .i64 (.ofNat 0)) .nl)))
theorem m163_1 : Rn EFG1 163 a163_1 r163_1 := of_eq_true (by kernel_rfl)
theorem c163_1 : KCS Tryz.prog 163 (kcon a163_1 r163_1) := kconR okEFG1 m163_1
def a163_2 : List KV := [(.cons (.int .u8 (.ofNat 2)) (.cons (.int .u32 (.ofNat 0)) (.cons (.ar 4 (.cons (.int .u8 (.ofNat 0)) (.cons (.cons (.int .u32 (.ofNat 0)) (.cons (.int .u64 (.ofNat 0)) .nl)) (.cons (.pk .u8 32 0) .nl))) .te) (.cons (.ar 4 (.cons (.int .u8 (.ofNat 0)) (.cons (.pk .u8 32 0) .nl)) .te) .nl))))]
def r163_2 : KV := (.tup (.cons (.pk .u8 32 115399759593875984660863525549135131536212492063992582793881239684100504995277) (.cons (.int .i64 (.ofNat 0)) .nl)))
theorem m163_2 : Rn EFG1 163 a163_2 r163_2 := of_eq_true (by kernel_rfl)
theorem c163_2 : KCS Tryz.prog 163 (kcon a163_2 r163_2) := kconR okEFG1 m163_2
def a163_3 : List KV := [(.cons (.int .u8 (.ofNat 3)) (.cons (.int .u32 (.ofNat 0)) (.cons (.ar 4 (.cons (.int .u8 (.ofNat 0)) (.cons (.cons (.int .u32 (.ofNat 0)) (.cons (.int .u64 (.ofNat 0)) .nl)) (.cons (.pk .u8 32 0) .nl))) .te) (.cons (.ar 4 (.cons (.int .u8 (.ofNat 0)) (.cons (.pk .u8 32 0) .nl)) .te) .nl))))]
def r163_3 : KV := (.tup (.cons (.pk .u8 32 19155112976345961927020129796986997122588542454472646389207807238203496809070) (.cons (.int .i64 (.ofNat 0)) .nl)))
theorem m163_3 : Rn EFG1 163 a163_3 r163_3 := of_eq_true (by kernel_rfl)
theorem c163_3 : KCS Tryz.prog 163 (kcon a163_3 r163_3) := kconR okEFG1 m163_3
def a163_4 : List KV := [(.cons (.int .u8 (.ofNat 4)) (.cons (.int .u32 (.ofNat 0)) (.cons (.ar 4 (.cons (.int .u8 (.ofNat 0)) (.cons (.cons (.int .u32 (.ofNat 0)) (.cons (.int .u64 (.ofNat 0)) .nl)) (.cons (.pk .u8 32 0) .nl))) .te) (.cons (.ar 4 (.cons (.int .u8 (.ofNat 0)) (.cons (.pk .u8 32 0) .nl)) .te) .nl))))]
def r163_4 : KV := (.tup (.cons (.pk .u8 32 2750193487068888407971171642820689359829264340758926027409414343729839424277) (.cons (.int .i64 (.ofNat 0)) .nl)))
theorem m163_4 : Rn EFG1 163 a163_4 r163_4 := of_eq_true (by kernel_rfl)
theorem c163_4 : KCS Tryz.prog 163 (kcon a163_4 r163_4) := kconR okEFG1 m163_4
def a163_5 : List KV := [(.cons (.int .u8 (.ofNat 5)) (.cons (.int .u32 (.ofNat 0)) (.cons (.ar 4 (.cons (.int .u8 (.ofNat 0)) (.cons (.cons (.int .u32 (.ofNat 0)) (.cons (.int .u64 (.ofNat 0)) .nl)) (.cons (.pk .u8 32 0) .nl))) .te) (.cons (.ar 4 (.cons (.int .u8 (.ofNat 0)) (.cons (.pk .u8 32 0) .nl)) .te) .nl))))]
def r163_5 : KV := (.tup (.cons (.pk .u8 32 22390878873875203406293031918557694199530038491721336108715618296122088841782) (.cons (.int .i64 (.ofNat 0)) .nl)))
theorem m163_5 : Rn EFG1 163 a163_5 r163_5 := of_eq_true (by kernel_rfl)
theorem c163_5 : KCS Tryz.prog 163 (kcon a163_5 r163_5) := kconR okEFG1 m163_5
end
end Go.K
set_option maxRecDepth 10000
namespace Go.K
open Go.Ab Go.RowKit Go.Y Go.Proofs
noncomputable section
def tab163 : List (List KV × KV) := [(a163_0, r163_0), (a163_1, r163_1), (a163_2, r163_2), (a163_3, r163_3), (a163_4, r163_4), (a163_5, r163_5)]
theorem PM163 : ∃ fn, Tryz.prog.funcs[163]? = some fn ∧ (fn.name == "runtime.NumGoroutine") = false ∧ fn.body.isNone = false := ⟨Tryz.f163, Tryz.func163, (fnsL.get Tryz.func163).1, by kernel_rfl⟩
theorem kcsT163 : KCS Tryz.prog 163 (sMem tab163) := sMem_s PM163 ⟨c163_0, by kernel_rfl, ⟨c163_1, by kernel_rfl, ⟨c163_2, by kernel_rfl, ⟨c163_3, by kernel_rfl, ⟨c163_4, by kernel_rfl, ⟨c163_5, by kernel_rfl, trivial⟩⟩⟩⟩⟩⟩
end
end Go.K
