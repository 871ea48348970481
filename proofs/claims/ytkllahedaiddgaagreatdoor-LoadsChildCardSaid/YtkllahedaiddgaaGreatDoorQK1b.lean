/- LoadsChild: the law's runs for a part. No condition. -/
import Derived.Test.YtkllahedaiddgaaGreatDoorQI4
set_option linter.unusedSimpArgs false
set_option linter.unusedVariables false
set_option maxRecDepth 100000
namespace Go.K
open Go.Ab Go.RowKit Go.Y Go.Proofs
noncomputable section
attribute [local instance 10000] gO
def A9w (w:Nat):Prop:=∀(y:LE) (p:Nd) (K:KV→Prop),p9 y (c9z p w) K=h9 y (c9z p w) (t9 y K)
def B9w (w:Nat):Prop:=∀(y:LE) (p:Nd) (l:Nat) (dg:List Nat) (K:KV→Prop),p9 y (c9y p l w dg) K=h9 y (c9y p l w dg) (t9 y K)
def C9w (w:Nat):Prop:=∀(y:LE) (p:Nd) (l s:Nat) (dg:List Nat) (P:Prop) (a g:Nat) (K:KV→Prop),p9 y (c9m p l w s dg P qY a (Nat.succ g) 9) K=m9 y (c9m p l w s dg P qY a (Nat.succ g) 9) p l w s (alt (!(eqI (.ofNat a) (.ofNat a))) (K kF) (cnd (b63 (Nat.succ g)) (alt (!(eqI (.ofNat (Nat.succ g)) (.ofNat (Nat.succ g)))) (K kF) (t9 y K))))
def D9w (w:Nat):Prop:=∀(y:LE) (p:Nd) (l s:Nat) (dg:List Nat) (P:Prop) (X:Nd) (K:KV→Prop),p9 y (c9m p l w s dg P X 0 0 0) K=m9 y (c9m p l w s dg P X 0 0 0) p l w s (alt (!(kqB X.k X.k)) (K kF) (t9 y K))
theorem zEu:A9w 0:=by intro y p K; kernel_rfl
theorem zEv:B9w 0:=by intro y p l dg K; kernel_rfl
theorem zEw:C9w 0:=by intro y p l s dg P a g K; kernel_rfl
theorem zEx:D9w 0:=by intro y p l s dg P X K; kernel_rfl
theorem zEy:A9w 1:=by intro y p K; kernel_rfl
theorem zEz:B9w 1:=by intro y p l dg K; kernel_rfl
theorem zEA:C9w 1:=by intro y p l s dg P a g K; kernel_rfl
theorem zEB:D9w 1:=by intro y p l s dg P X K; kernel_rfl
theorem zEC:A9w 2:=by intro y p K; kernel_rfl
theorem zED:B9w 2:=by intro y p l dg K; kernel_rfl
theorem zEE:C9w 2:=by intro y p l s dg P a g K; kernel_rfl
theorem zEF:D9w 2:=by intro y p l s dg P X K; kernel_rfl
theorem zEG:A9w 3:=by intro y p K; kernel_rfl
theorem zEH:B9w 3:=by intro y p l dg K; kernel_rfl
theorem zEI:C9w 3:=by intro y p l s dg P a g K; kernel_rfl
theorem zEJ:D9w 3:=by intro y p l s dg P X K; kernel_rfl
theorem e9w:xr (fun w=>A9w w∧B9w w∧C9w w∧D9w w) 4:=⟨⟨⟨⟨trivial,⟨zEu,zEv,zEw,zEx⟩⟩,⟨zEy,zEz,zEA,zEB⟩⟩,⟨zEC,zED,zEE,zEF⟩⟩,⟨zEG,zEH,zEI,zEJ⟩⟩
end
end Go.K
