/- GatesKnown: the pieces put together. No condition. -/
import Derived.Test.YtkjoldifiniliaaGK2
import Derived.Test.YtkjoldifiniliaaGK3
set_option linter.unusedVariables false
namespace Go.K
open Go.Ab Go.RowKit Go.Y Go.Proofs
noncomputable section
attribute [local irreducible] krun mkTr mkZm stT sL sR
theorem c6_eq : c6 = .seq (sL c6) (.seq (sL x1) (.seq (sL x2) (.seq (sL x3) (.seq (sL x4) (.seq (sL x5) (.seq (sL x6) (.seq (sL x7) (.seq (sL x8) (.seq (.seq (sL (sL x9)) (.block 2 (.loop lb6))) x10))))))))) := by kernel_rfl
theorem c6_ok : cOk 131 c6 = true := by kernel_rfl
section
variable {B N : Nat}
theorem okN (hN : 131 ≤ N) {c : Code} (h : cOk 131 c = true) : cOk N c = true := cOk_mono hN h
abbrev Qf (e : Exit) (tr : KTm) (zm : KZ) (nx : Nat) : Prop := e = .ret ∧ tr = mkTr [(0, .bool true)]
theorem w10 (hN : 131 ≤ N) : KW E1 B N m6 x10 (mkTr [(0, .bool false)]) (mkZm []) 50000 Qf := KW.piece ok1 q28 (okN hN (by kernel_rfl)) (by kernel_rfl) ⟨rfl, rfl⟩
theorem wl (hN : 131 ≤ N) : KW E1 B N m6 (.loop lb6) (mkTr (tS 0)) (mkZm []) (nS 0) fun e tr zm nx => e = .exit 2 ∧ tr = mkTr [(0, .bool false)] ∧ zm = mkZm [] ∧ nx = 50000 := by
  have ho : cOk N lb6 = true := okN hN (by kernel_rfl)
  refine KW.loop (S := fun i => (mkTr (tS i), mkZm [], nS i)) (m := 6) (fun i hi => ?_) (KW.piece ok1 q6 ho (by kernel_rfl) ⟨(by intro h; cases h), rfl, rfl, rfl, rfl⟩)
  match i, hi with
  | 0, _ => exact KW.piece ok1 q0 ho (by kernel_rfl) ⟨rfl, rfl, rfl, rfl⟩
  | 1, _ => exact KW.piece ok1 q1 ho (by kernel_rfl) ⟨rfl, rfl, rfl, rfl⟩
  | 2, _ => exact KW.piece ok1 q2 ho (by kernel_rfl) ⟨rfl, rfl, rfl, rfl⟩
  | 3, _ => exact KW.piece ok1 q3 ho (by kernel_rfl) ⟨rfl, rfl, rfl, rfl⟩
  | 4, _ => exact KW.piece ok1 q4 ho (by kernel_rfl) ⟨rfl, rfl, rfl, rfl⟩
  | 5, _ => exact KW.piece ok1 q5 ho (by kernel_rfl) ⟨rfl, rfl, rfl, rfl⟩
  | i + 6, hi => omega
theorem w9 (hN : 131 ≤ N) : KW E1 B N m6 (.seq (.seq (sL (sL x9)) (.block 2 (.loop lb6))) x10) (mkTr [(0, .bool false)]) (mkZm []) 10000 Qf := by
  refine KW.seq (KW.seq (KW.piece ok1 q15 (okN hN (by kernel_rfl)) (by kernel_rfl) (Or.inl ⟨rfl, ?_⟩)))
  refine KW.block ((wl hN).mono ?_)
  rintro e tr zm nx _ _ ⟨rfl, rfl, rfl, rfl⟩
  exact Or.inl ⟨rfl, Or.inl ⟨rfl, w10 hN⟩⟩
set_option maxRecDepth 100000 in
theorem w0 (hN : 131 ≤ N) : KW E1 B N m6 c6 (mkTr []) (mkZm []) 0 Qf := by
  rw [c6_eq]
  refine KW.seq (KW.piece (lt0 := []) (lz0 := []) ok1 p0 (okN hN (by kernel_rfl)) (by kernel_rfl) (Or.inl ⟨rfl, ?_⟩))
  refine KW.seq (KW.piece (lz0 := []) ok1 p1 (okN hN (by kernel_rfl)) (by kernel_rfl) (Or.inl ⟨rfl, ?_⟩))
  refine KW.seq (KW.piece ok1 p2 (okN hN (by kernel_rfl)) (by kernel_rfl) (Or.inl ⟨rfl, ?_⟩))
  refine KW.seq (KW.piece ok1 p3 (okN hN (by kernel_rfl)) (by kernel_rfl) (Or.inl ⟨rfl, ?_⟩))
  refine KW.piece2 ok1 p5 (okN hN (by kernel_rfl)) (okN hN (by kernel_rfl)) (by kernel_rfl) ?_
  refine KW.seq (KW.piece ok1 p10 (okN hN (by kernel_rfl)) (by kernel_rfl) (Or.inl ⟨rfl, ?_⟩))
  refine KW.seq (KW.piece ok1 p12 (okN hN (by kernel_rfl)) (by kernel_rfl) (Or.inl ⟨rfl, ?_⟩))
  refine KW.seq (KW.piece ok1 p13 (okN hN (by kernel_rfl)) (by kernel_rfl) (Or.inl ⟨rfl, ?_⟩))
  exact w9 hN
end
theorem h0 : mkTr [] = .e := by kernel_rfl
theorem hz0 : mkZm [] = .e := by kernel_rfl
theorem tv0 : tv' (tget (mkTr [(0, .bool true)])) 0 = .bool true := by kernel_rfl
theorem nt6 : Try.f6.ntmps = 131 := by kernel_rfl
theorem known_s : CSoundG Try.prog 6 { pre := fun l => l.isEmpty, res := fun _ => .bool true, fresh := true } := by
  refine csoundW (E := E1) ok1 (mask := m6) (fn := Try.f6) (c := c6) Try.func6 (by kernel_rfl) (fun B N hN => ((h0 ▸ hz0 ▸ w0 (nt6 ▸ hN)) : KW E1 B N m6 c6 .e .e 0 Qf).mono ?_) rfl
  rintro e tr zm nx _ _ ⟨rfl, rfl⟩
  refine ⟨.inr rfl, ?_⟩
  have : Try.f6.results.toList = [.tmp 0] := by kernel_rfl
  rw [this]
  exact tv0
end
end Go.K
