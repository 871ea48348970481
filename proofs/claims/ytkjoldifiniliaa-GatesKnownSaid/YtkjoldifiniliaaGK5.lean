/- GatesKnown: from the run to the statement. No condition. -/
import Derived.Test.YtkjoldifiniliaaGK4
import Derived.Test.YtkjoldifiniliaaKTie
import Derived.Test.YtkjoldifiniliaaChecked
import Derived.Test.YtkjoldifiniliaaRows
set_option linter.unusedVariables false
namespace Go.K
open Go.Ab Go.Y Go.Proofs Go.ChangeShapes Go.WideShapes Go.ChangeAt Go.RowKit
open Go.Proofs.Ytkjoldifiniliaa
noncomputable section
attribute [local irreducible] krun callR
theorem Try.own : ownKnob Try.prog.godebug = none := by kernel_rfl
theorem Try.laidOut : laidOutB Try.prog = true := by kernel_rfl
set_option maxRecDepth 100000 in
theorem GatesKnown_lifted (os : Os) (started : os.Started) (H : Type) (enc : TypeId × Value → H) :
    ReturnsInHanded {} Try.checked os 6 .any (Rows.gatesKnownSpec.pre6 enc Try.prog Try.f6 Rows.gatesKnownRow.domain false) (Rows.gatesKnownSpec.post enc Try.prog Try.f6 false true false false) := by
  refine returnsInHanded_of_change (C := Try.checked) Try.own started (by kernel_rfl) Try.func6
    (ChangeSpec.witness6 (enc := enc) (C := Try.checked) false ⟨#[], #[], []⟩ 8 (by kernel_rfl) (by kernel_rfl) (by kernel_rfl) (by kernel_rfl)) ?_
  intro W base args ds gs before hval0 hW hcnd _
  have hW' := hW
  obtain ⟨p, q, hA0, hV, rfl, hfz, hnd⟩ := hW
  have hA : DataW.TrodAll enc Try.prog W 0 (fun _ => true) true Try.f6.params.toList args.toList ds p := hA0
  have hp : Try.f6.params.toList = [] := by kernel_rfl
  rw [hp] at hA
  obtain ⟨rfl, rfl⟩ := trodVars_none hV
  obtain ⟨ha, rfl, rfl⟩ := trodAll_nil hA
  obtain rfl : args = #[] := by simpa using ha
  refine (calls_of (args := []) (vals := []) known_s (W := W) (fun C _ g => trivial) (fun C => rfl) rfl rfl).mono ?_
  rintro e W' ⟨hb, he⟩
  exact ⟨_, he, law_post Try.laidOut hW' (by kernel_rfl) rfl rfl (by kernel_rfl) Try.underlying4 hb⟩
theorem GatesKnown_holds : Rows.GatesKnownSaid :=
  OpenClaim.holds_of_wide 6 Try.f6 rfl rfl rfl rfl rfl rfl rfl ⟨rfl, rfl, rfl, rfl, rfl⟩ rfl rfl rfl rfl rfl (by kernel_rfl) Try.func6 (by kernel_rfl)
    (of_decide_eq_true (by kernel_rfl)) (by unfold Func.isWrapper; rw [if_neg (by decide +kernel)]; exact ⟨rfl, rfl⟩)
    (fun os started H enc _ => GatesKnown_lifted os started H enc)
end
end Go.K
