/- GatesPlay: from the contract to the statement. No condition. -/
import Derived.Test.YtkjoldifiniliaaZG5
import Derived.Test.YtkjoldifiniliaaZG9
import Derived.Deep.Slices
set_option linter.unusedVariables false
set_option linter.unusedSimpArgs false
namespace Go.Ab
open Go.Proofs Go.ChangeShapes Go.WideShapes Go.ChangeAt Go.RowKit
open Go.Proofs.Ytkjoldifiniliaa
noncomputable section
attribute [local irreducible] run callZ
/-- A call of a law; what lies in memory may be read. -/
theorem law_call {P : Program} {f : FuncId} {s : CSpec} (h : CSound P f s) {W : World} {args : List V} {vals : List Value} (hargs : ∀ C : Ctx, C.w = W → (∀ b, b < W.heap.size → C.ok true b) → R C (mkL args) (.list vals)) (hp : s.pre args) (hr : s.res args = .bool true) :
    Calls P f vals.toArray W fun e w' => RowKit.Below W.heap.size W w' ∧ e = .returned (.bool true) := by
  refine (h.2 ⟨fun _ b => b < W.heap.size, fun _ => False, fun _ => .bool true, fun _ => .sc, W⟩ args vals (fun _ _ h => h) (hargs _ rfl (fun _ h => h)) hp).mono ?_
  rintro e w' ⟨hb, r, rfl, hR⟩
  rw [hr] at hR
  cases hR
  exact ⟨hb, rfl⟩
theorem pair_cells {H : Type} {enc : TypeId × Value → H} {w : World} {base n : Nat} {a : Addr} {cs : List Value} {x : DataW H × List MemPlace} {spare : Nat → Bool} {held : Bool}
    (hc : w.cells? base a (Try.prog.cellsOf 39) = some cs) (ht : DataW.trod enc Try.prog w base spare held n 39 cs = some x) :
    ∃ k t : Int, 0 ≤ k ∧ w.cell? (a.add 0) = some (.int .u8 k) ∧ w.cell? (a.add 1) = some (.int .i64 t) := by
  have h39 : Try.prog.cellsOf 39 = 2 := by kernel_rfl
  have h5 : Try.prog.cellsOf 5 = 1 := by kernel_rfl
  have h3 : Try.prog.cellsOf 3 = 1 := by kernel_rfl
  rw [h39] at hc
  obtain ⟨_, hl, hat⟩ := World.cells?_some hc
  obtain ⟨y0, y1, m, _, _, g0, g1⟩ := trod_struct2 Try.underlying39 ht
  match cs, hl with
  | [c0, c1], _ =>
    simp only [h5, h3, List.drop_zero, List.take_succ_cons, List.take_zero, List.drop_succ_cons] at g0 g1
    obtain ⟨k, e0, _, wk⟩ := DataW.trod_int Try.underlying5 g0
    obtain ⟨t, e1, _, _⟩ := DataW.trod_int Try.underlying3 g1
    simp only [List.cons.injEq, and_true] at e0 e1
    subst e0 e1
    have b := bounds_u8 wk
    exact ⟨k, t, b.1, by simpa using hat 0 (by omega), by simpa using hat 1 (by omega)⟩
set_option maxRecDepth 100000 in
theorem GatesPlay_lifted (os : Os) (started : os.Started) (H : Type) (enc : TypeId × Value → H) :
    ReturnsInHanded {} Try.checked os 4 .any (Rows.gatesPlaySpec.pre6 enc Try.prog Try.f4 Rows.gatesPlayRow.domain false) (Rows.gatesPlaySpec.post enc Try.prog Try.f4 false true false false) := by
  refine returnsInHanded_of_change (C := Try.checked) Try.own started (by kernel_rfl) Try.func4
    (ChangeSpec.witness6 (enc := enc) (C := Try.checked) false ⟨#[], #[.agg #[.int .i64 0, .int .i64 0], .slice none 0 0], []⟩ 8 (by kernel_rfl) (by kernel_rfl) (by kernel_rfl) (by kernel_rfl)) ?_
  intro W base args ds gs before hval0 hW hcnd _
  have hval : ∀ (j : Nat) t v, Try.f4.params[j]? = some t → args[j]? = some v → Value.okWide Try.prog W .any base t v := hval0
  have hW' := hW
  obtain ⟨p, q, hA0, hV, rfl, hfz, hnd⟩ := hW
  have hA : DataW.TrodAll enc Try.prog W 0 (fun _ => true) true Try.f4.params.toList args.toList ds p := hA0
  rw [Try.params4] at hA hval
  obtain ⟨v0, v1, d0, d1, p0, p1, rfl, rfl, rfl, h0, h1⟩ := trodAll_two hA
  obtain ⟨rfl, rfl⟩ := trodVars_none hV
  obtain ⟨x0, x1, y0, y1, n, rfl, rfl, rfl, g0, g1⟩ := Joins.open_agg2 Try.underlying23 (by kernel_rfl) (by kernel_rfl) (hval 0 23 v0 rfl rfl) h0
  obtain ⟨c, e0, _, wc⟩ := DataW.trod_int Try.underlying3 g0
  obtain ⟨i, e1, _, wi⟩ := DataW.trod_int Try.underlying3 g1
  simp only [List.cons.injEq, and_true] at e0 e1
  subst e0 e1
  obtain ⟨a0, len, cap, rfl⟩ := okWide_slice Try.underlying32 (hval 1 32 v1 rfl rfl)
  have key : ∃ k t : Nat → Int, (∀ j, 0 ≤ k j) ∧ ∀ C : Ctx, C.w = W → (∀ b, b < W.heap.size → C.ok true b) → R C (.ro true false (.cons .sc (.cons .sc .nl)) len (fun j => .cons (.int .u8 (k j)) (.cons (.int .i64 (t j)) .nl))) (.val (.slice a0 len cap)) := by
    obtain ⟨fuel, hf⟩ := h1
    rcases Go.Deep.open_slice Try.underlying32 hf with ⟨hcs, _⟩ | ⟨a, len', cap', m, n', D, Pl, hcs, _, hl, hm, hmm, _, hi⟩
    · simp [Value.cells] at hcs
      obtain ⟨rfl, rfl, rfl⟩ := hcs
      exact ⟨fun _ => 0, fun _ => 0, fun _ => Int.le_refl 0, fun C _ _ => ⟨none, 0, rfl, Nat.le_refl 0, (fun h => nomatch h), .inl rfl⟩⟩
    · simp [Value.cells] at hcs
      obtain ⟨rfl, rfl, rfl⟩ := hcs
      have hm' : len ≤ m := by rw [hmm]; simp; exact hl
      have hx : ∀ j, j < len → ∃ kt : Int × Int, 0 ≤ kt.1 ∧ W.cell? ((a.add (j * 2)).add 0) = some (.int .u8 kt.1) ∧ W.cell? ((a.add (j * 2)).add 1) = some (.int .i64 kt.2) := fun j hj => by
        obtain ⟨cs', hc, ht⟩ := hi j (by omega)
        obtain ⟨k, t, q1, q2, q3⟩ := pair_cells hc ht
        have h39 : Try.prog.cellsOf 39 = 2 := by kernel_rfl
        rw [h39] at q2 q3
        exact ⟨(k, t), q1, q2, q3⟩
      let kt : Nat → Int × Int := fun j => if h : j < len then Classical.choose (hx j h) else (0, 0)
      have hkt : ∀ j, j < len → 0 ≤ (kt j).1 ∧ W.cell? ((a.add (j * 2)).add 0) = some (.int .u8 (kt j).1) ∧ W.cell? ((a.add (j * 2)).add 1) = some (.int .i64 (kt j).2) := fun j hj => by
        have := Classical.choose_spec (hx j hj)
        simp only [kt, dif_pos hj]
        exact this
      refine ⟨fun j => (kt j).1, fun j => (kt j).2, fun j => ?_, fun C hw hok => ?_⟩
      · by_cases hj : j < len
        · exact (hkt j hj).1
        · simp only [kt, dif_neg hj]; exact Int.le_refl 0
      · refine ⟨some a, cap, rfl, hl, (fun h => nomatch h), ?_⟩
        rcases Nat.eq_zero_or_pos len with hz | hpos
        · exact .inl hz
        · have hc0 := (hkt 0 hpos).2.1
          obtain ⟨b, o, spot⟩ := a
          have hsp : spot = none := by
            have h2 : W.cell? ⟨b, o, spot⟩ = some (.int .u8 (kt 0).1) := by simpa [Addr.add] using hc0
            simpa using World.cell?_spot h2
          subst hsp
          refine .inr ⟨b, o, rfl, hok b (World.block_lt_of_cell? _ _ hc0), fun j hj => ?_⟩
          have h3 := (hkt j hj).2
          simp only [Addr.add_lit] at h3
          refine ⟨.sc, .cons .sc .nl, rfl, ⟨rfl, ?_⟩, .sc, .nl, rfl, ⟨rfl, ?_⟩, rfl⟩
          · show C.w.cell? ⟨b, o + j * 2, none⟩ = _
            rw [hw]; exact h3.1
          · show C.w.cell? ⟨b, o + j * 2 + 1, none⟩ = _
            rw [hw]; exact h3.2
  obtain ⟨k, t, hk, hR⟩ := key
  refine (law_call (args := [.cons (.int .i64 c) (.cons (.int .i64 i) .nl), .ro true false (.cons .sc (.cons .sc .nl)) len (fun j => .cons (.int .u8 (k j)) (.cons (.int .i64 (t j)) .nl))]) (vals := [.agg #[.int .i64 c, .int .i64 i], .slice a0 len cap]) c4 (W := W) (fun C hw hok => ⟨_, _, rfl, R_two C c i, _, _, rfl, hR C hw hok, rfl⟩) ⟨c, i, true, false, len, k, t, rfl, hk⟩ rfl).mono ?_
  rintro e W' ⟨hb, he⟩
  exact ⟨_, he, law_post Try.laidOut hW' (by kernel_rfl) rfl rfl (by kernel_rfl) Try.underlying4 hb⟩
theorem GatesPlay_holds : Rows.GatesPlaySaid :=
  OpenClaim.holds_of_wide 4 Try.f4 rfl rfl rfl rfl rfl rfl rfl ⟨rfl, rfl, rfl, rfl, rfl⟩ rfl rfl rfl rfl rfl (by kernel_rfl) Try.func4 (by kernel_rfl)
    (of_decide_eq_true (by kernel_rfl)) (by unfold Func.isWrapper; rw [if_neg (by decide +kernel)]; exact ⟨rfl, rfl⟩)
    (fun os started H enc _ => GatesPlay_lifted os started H enc)
end
end Go.Ab
