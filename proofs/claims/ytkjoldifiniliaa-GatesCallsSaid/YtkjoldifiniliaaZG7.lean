/- GatesCalls: from the run to the statement. No condition. -/
import Derived.Test.YtkjoldifiniliaaZG5
import Derived.Test.YtkjoldifiniliaaZG6
set_option linter.unusedVariables false
set_option linter.unusedSimpArgs false
namespace Go.Ab
open Go.Proofs Go.ChangeShapes Go.WideShapes Go.ChangeAt Go.RowKit
open Go.Proofs.Ytkjoldifiniliaa
noncomputable section
attribute [local irreducible] run callZ
theorem k5 : CSound Try.prog 5 t3 :=
  csound_run hFL2 hTT hMX (n := nat_lit 10000) xs3
    (fun args h => by
      obtain ⟨c, i, t, rfl⟩ := h
      refine ⟨rfl, rfl, ?_⟩
      intro y hy
      simp only [xs3, List.mem_cons, List.not_mem_nil, or_false] at hy
      rcases hy with rfl | rfl
      · exact wfG c i
      · exact .lf rfl)
    (fun _ => isTrueX) (fun _ v _ h => isTrueX_inv h) (fun args h => by obtain ⟨c, i, t, rfl⟩ := h; exact calls_all c i t) (fun _ _ => rfl) ⟨_, 0, 0, 0, rfl⟩
set_option maxRecDepth 100000 in
theorem GatesCalls_lifted (os : Os) (started : os.Started) (H : Type) (enc : TypeId × Value → H) :
    ReturnsInHanded {} Try.checked os 5 .any (Rows.gatesCallsSpec.pre6 enc Try.prog Try.f5 Rows.gatesCallsRow.domain false) (Rows.gatesCallsSpec.post enc Try.prog Try.f5 false true false false) := by
  refine returnsInHanded_of_change (C := Try.checked) Try.own started (by kernel_rfl) Try.func5
    (ChangeSpec.witness6 (enc := enc) (C := Try.checked) false ⟨#[], #[.agg #[.int .i64 0, .int .i64 0], .int .i64 0], []⟩ 8 (by kernel_rfl) (by kernel_rfl) (by kernel_rfl) (by kernel_rfl)) ?_
  intro W base args ds gs before hval0 hW hcnd _
  have hval : ∀ (j : Nat) t v, Try.f5.params[j]? = some t → args[j]? = some v → Value.okWide Try.prog W .any base t v := hval0
  have hW' := hW
  obtain ⟨p, q, hA0, hV, rfl, hfz, hnd⟩ := hW
  have hA : DataW.TrodAll enc Try.prog W 0 (fun _ => true) true Try.f5.params.toList args.toList ds p := hA0
  rw [Try.params5] at hA hval
  obtain ⟨v0, v1, d0, d1, p0, p1, rfl, rfl, rfl, h0, h1⟩ := trodAll_two hA
  obtain ⟨rfl, rfl⟩ := trodVars_none hV
  obtain ⟨x0, x1, y0, y1, n, rfl, rfl, rfl, g0, g1⟩ := Joins.open_agg2 Try.underlying23 (by kernel_rfl) (by kernel_rfl) (hval 0 23 v0 rfl rfl) h0
  obtain ⟨t, rfl, rfl, rfl, wt⟩ := open_int Try.underlying3 (hval 1 3 v1 rfl rfl) h1
  obtain ⟨c, e0, _, wc⟩ := DataW.trod_int Try.underlying3 g0
  obtain ⟨i, e1, _, wi⟩ := DataW.trod_int Try.underlying3 g1
  simp only [List.cons.injEq, and_true] at e0 e1
  subst e0 e1
  refine (plain_call (args := [.cons (.int .i64 c) (.cons (.int .i64 i) .nl), .int .i64 t]) (vals := [.agg #[.int .i64 c, .int .i64 i], .int .i64 t]) k5 (W := W) (fun C => ⟨_, _, rfl, R_two C c i, _, _, rfl, rfl, rfl⟩) ⟨c, i, t, rfl⟩ rfl).mono ?_
  rintro e W' ⟨hb, he⟩
  exact ⟨_, he, law_post Try.laidOut hW' (by kernel_rfl) rfl rfl (by kernel_rfl) Try.underlying4 hb⟩
theorem GatesCalls_holds : Rows.GatesCallsSaid :=
  OpenClaim.holds_of_wide 5 Try.f5 rfl rfl rfl rfl rfl rfl rfl ⟨rfl, rfl, rfl, rfl, rfl⟩ rfl rfl rfl rfl rfl (by kernel_rfl) Try.func5 (by kernel_rfl)
    (of_decide_eq_true (by kernel_rfl)) (by unfold Func.isWrapper; rw [if_neg (by decide +kernel)]; exact ⟨rfl, rfl⟩)
    (fun os started H enc _ => GatesCalls_lifted os started H enc)
end
end Go.Ab
