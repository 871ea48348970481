/- The gates' laws: from the run to the statements. No condition. -/
import Derived.Test.YtkjoldifiniliaaZG4
import Derived.Test.YtkjoldifiniliaaLawTie
import Derived.Lib.SmallJoins
set_option linter.unusedVariables false
set_option linter.unusedSimpArgs false
namespace Go.Ab
open Go.Proofs Go.ChangeShapes Go.WideShapes Go.ChangeAt Go.RowKit
open Go.Proofs.Ytkjoldifiniliaa
noncomputable section
attribute [local irreducible] run callZ
theorem Try.own : ownKnob Try.prog.godebug = none := by kernel_rfl
theorem Try.laidOut : laidOutB Try.prog = true := by kernel_rfl
def xs3 : List V → List X
  | [.cons (.int _ c) (.cons (.int _ i) _), .int _ t] => [.agg (nat_lit 13) [.sint .i64 c, .sint .i64 i], .sint .i64 t]
  | _ => []
def t3 : CSpec := { pre := fun l => ∃ c i t, l = [.cons (.int .i64 c) (.cons (.int .i64 i) .nl), .int .i64 t], res := fun _ => .bool true }
theorem k3 : CSound Try.prog 3 t3 :=
  csound_run hFL2 hTT hMX (n := nat_lit 10000) xs3
    (fun args h => by
      obtain ⟨c, i, t, rfl⟩ := h
      refine ⟨rfl, rfl, ?_⟩
      intro y hy
      simp only [xs3, List.mem_cons, List.not_mem_nil, or_false] at hy
      rcases hy with rfl | rfl
      · exact wfG c i
      · exact .lf rfl)
    (fun _ => isTrueX) (fun _ v _ h => isTrueX_inv h) (fun args h => by obtain ⟨c, i, t, rfl⟩ := h; exact back_all c i t) (fun _ _ => rfl) ⟨_, 0, 0, 0, rfl⟩
/-- A call of a law with plain arguments, where nothing is named. -/
theorem plain_call {P : Program} {f : FuncId} {s : CSpec} (h : CSound P f s) {W : World} {args : List V} {vals : List Value} (hargs : ∀ C : Ctx, R C (mkL args) (.list vals)) (hp : s.pre args) (hr : s.res args = .bool true) :
    Calls P f vals.toArray W fun e w' => RowKit.Below W.heap.size W w' ∧ e = .returned (.bool true) := by
  refine (h.2 ⟨fun _ _ => False, fun _ => False, fun _ => .bool true, fun _ => .sc, W⟩ args vals (fun _ _ h => h.elim) (hargs _) hp).mono ?_
  rintro e w' ⟨hb, r, rfl, hR⟩
  rw [hr] at hR
  cases hR
  exact ⟨hb, rfl⟩
/-- Two whole numbers in a struct. -/
theorem R_two (C : Ctx) (a b : Int) : R C (.cons (.int .i64 a) (.cons (.int .i64 b) .nl)) (.val (.agg #[.int .i64 a, .int .i64 b])) :=
  ⟨_, .sc, .cons .sc .nl, rfl, rfl, ⟨rfl, rfl⟩, _, _, rfl, ⟨rfl, rfl⟩, rfl⟩
set_option maxRecDepth 100000 in
theorem GatesBack_lifted (os : Os) (started : os.Started) (H : Type) (enc : TypeId × Value → H) :
    ReturnsInHanded {} Try.checked os 3 .any (Rows.gatesBackSpec.pre6 enc Try.prog Try.f3 Rows.gatesBackRow.domain false) (Rows.gatesBackSpec.post enc Try.prog Try.f3 false true false false) := by
  refine returnsInHanded_of_change (C := Try.checked) Try.own started (by kernel_rfl) Try.func3
    (ChangeSpec.witness6 (enc := enc) (C := Try.checked) false ⟨#[], #[.agg #[.int .i64 0, .int .i64 0], .int .i64 0], []⟩ 8 (by kernel_rfl) (by kernel_rfl) (by kernel_rfl) (by kernel_rfl)) ?_
  intro W base args ds gs before hval0 hW hcnd _
  have hval : ∀ (j : Nat) t v, Try.f3.params[j]? = some t → args[j]? = some v → Value.okWide Try.prog W .any base t v := hval0
  have hW' := hW
  obtain ⟨p, q, hA0, hV, rfl, hfz, hnd⟩ := hW
  have hA : DataW.TrodAll enc Try.prog W 0 (fun _ => true) true Try.f3.params.toList args.toList ds p := hA0
  rw [Try.params3] at hA hval
  obtain ⟨v0, v1, d0, d1, p0, p1, rfl, rfl, rfl, h0, h1⟩ := trodAll_two hA
  obtain ⟨rfl, rfl⟩ := trodVars_none hV
  obtain ⟨x0, x1, y0, y1, n, rfl, rfl, rfl, g0, g1⟩ := Joins.open_agg2 Try.underlying23 (by kernel_rfl) (by kernel_rfl) (hval 0 23 v0 rfl rfl) h0
  obtain ⟨t, rfl, rfl, rfl, wt⟩ := open_int Try.underlying3 (hval 1 3 v1 rfl rfl) h1
  obtain ⟨c, e0, _, wc⟩ := DataW.trod_int Try.underlying3 g0
  obtain ⟨i, e1, _, wi⟩ := DataW.trod_int Try.underlying3 g1
  simp only [List.cons.injEq, and_true] at e0 e1
  subst e0 e1
  refine (plain_call (args := [.cons (.int .i64 c) (.cons (.int .i64 i) .nl), .int .i64 t]) (vals := [.agg #[.int .i64 c, .int .i64 i], .int .i64 t]) k3 (W := W) (fun C => ⟨_, _, rfl, R_two C c i, _, _, rfl, rfl, rfl⟩) ⟨c, i, t, rfl⟩ rfl).mono ?_
  rintro e W' ⟨hb, he⟩
  exact ⟨_, he, law_post Try.laidOut hW' (by kernel_rfl) rfl rfl (by kernel_rfl) Try.underlying4 hb⟩
theorem GatesBack_holds : Rows.GatesBackSaid :=
  OpenClaim.holds_of_wide 3 Try.f3 rfl rfl rfl rfl rfl rfl rfl ⟨rfl, rfl, rfl, rfl, rfl⟩ rfl rfl rfl rfl rfl (by kernel_rfl) Try.func3 (by kernel_rfl)
    (of_decide_eq_true (by kernel_rfl)) (by unfold Func.isWrapper; rw [if_neg (by decide +kernel)]; exact ⟨rfl, rfl⟩)
    (fun os started H enc _ => GatesBack_lifted os started H enc)
end
end Go.Ab
