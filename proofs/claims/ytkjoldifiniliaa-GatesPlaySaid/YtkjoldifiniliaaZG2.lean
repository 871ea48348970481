/- The examples of the chapter hold. No condition. -/
import Derived.Test.YtkjoldifiniliaaZG
set_option linter.unusedVariables false
namespace Go.Ab
open Go.Proofs
noncomputable section
attribute [local irreducible] run callZ
def t12 : CSpec := { pre := fun l => l = [], res := fun _ => .bool true }
theorem r12 : zcall (nat_lit 10000) (nat_lit 12) [] isTrueX := of_same (q := true = true) (by kernel_rfl) rfl
theorem k12 : CSound Try.prog 12 t12 :=
  csound_run hFT hTT hMX (n := nat_lit 10000) (fun _ => []) (fun args h => by cases h; exact ⟨rfl, rfl, by intro y hy; cases hy⟩) (fun _ => isTrueX) (fun _ v _ h => isTrueX_inv h) (fun _ _ => r12) (fun _ _ => rfl) ⟨[], rfl⟩
def g12 (l : List X) (K : X → Prop) : Prop := xNil l (K (.bool true))
theorem ct12 : CtOK Try.prog 12 g12 := ct_of k12 fun l K h hl => by
  cases l with
  | nil => exact ⟨.bool true, [], h, .one (.lf rfl), rfl, rfl, rfl, rfl, rfl⟩
  | cons => exact False.elim h
def FL : FTb := .mk (FTof Try.prog.funcs.toList) (set (.ct g12) (enc (nat_lit 12)) .e)
theorem hFL : FTok Try.prog FL := FTof_ok hFN (addCt (noCt _) ct12)
/-- A call, the examples taken as known. -/
def lcall (fuel : Nat) (f : Nat) (args : List X) (K : X → Prop) : Prop := callZ (run FL TT fuel) FL TT (.fn f []) args .e [] fun v _ _ => K v
end
end Go.Ab
