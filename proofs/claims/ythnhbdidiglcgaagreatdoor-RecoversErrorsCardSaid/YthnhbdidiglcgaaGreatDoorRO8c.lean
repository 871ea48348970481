/- RecoversErrors: what Open, Tree, Working and All hand back, where blocks and disk belong together: closed runs. No condition. -/
import Derived.Test.YthnhbdidiglcgaaGreatDoorRO3
set_option linter.unusedVariables false
namespace Go.K
open Go.Ab Go.RowKit Go.Y Go.Proofs
noncomputable section
attribute [local irreducible] krun callR
def e9 : KV := .cons (nI 9) .nl
def prbE (k : Nat) : KV := .cons (nI (k - 2)) (.cons (.int .u8 (.ofNat 1)) .nl)
def tre0 : KV := .cons (nI 0) (.cons .nils .nl)
def w24 : KV := .tup (.cons node0 e9)
def w32 (k : Nat) : KV := .tup (.cons tre0 (.cons .nils (.cons (prbE k) e9)))
def w35 (k : Nat) : KV := .tup (.cons tre0 (.cons (prbE k) e9))
def w25 : KV := .tup (.cons .nils (.cons (nI 0) e9))
def v24 (n k _h : Nat) : Prop := callR E0 (krun E0 1000) 0 24 [.int .i64 (.ofNat n), dk k, cell0] .e 0 0 fun r zm _ _ => tK (fzB zm 30 r w24)
def v32 (n k _h : Nat) : Prop := callR E0 (krun E0 1000) 0 32 [.int .i64 (.ofNat n), dk k, cell0] .e 0 0 fun r zm _ _ => tK (fzB zm 30 r (w32 k))
def v35 (n k _h : Nat) : Prop := callR E0 (krun E0 1000) 0 35 [.int .i64 (.ofNat n), dk k, cell0] .e 0 0 fun r zm _ _ => tK (fzB zm 30 r (w35 k))
def v25 (n k _h : Nat) : Prop := callR E0 (krun E0 1000) 0 25 [.int .i64 (.ofNat n), dk k, cell0, keys0] .e 0 0 fun r zm _ _ => tK (fzB zm 30 r w25)
theorem v24_all : AllP v24 prs = AllP (fun _ _ _ => True) prs := by kernel_rfl
theorem v32_all : AllP v32 prs = AllP (fun _ _ _ => True) prs := by kernel_rfl
theorem v35_all : AllP v35 prs = AllP (fun _ _ _ => True) prs := by kernel_rfl
theorem v25_all : AllP v25 prs = AllP (fun _ _ _ => True) prs := by kernel_rfl
end
end Go.K
