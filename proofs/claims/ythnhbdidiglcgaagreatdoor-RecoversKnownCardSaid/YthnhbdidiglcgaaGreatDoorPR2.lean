/- Present of the greatest fresh volume: the pieces put together. No condition. -/
import Derived.Test.YthnhbdidiglcgaaGreatDoorPR1_0
import Derived.Test.YthnhbdidiglcgaaGreatDoorPR1_2
set_option linter.unusedVariables false
set_option maxRecDepth 100000
namespace Go.K
open Go.Ab Go.RowKit Go.Y Go.Proofs
noncomputable section
attribute [local irreducible] krun mkTr mkZm stT sL sR repR litT
theorem c29_eq : c29 = .seq (sL c29) (.seq (sL a29) (.seq (.seq (sL d29) (.block 0 (.loop l29))) e29)) := by kernel_rfl
theorem fn29 : fnB E0.P 29 = some (c29, rs29) := by kernel_rfl
theorem bd29 (F : KTm → Prop) : bindA (E0.km 29) [dkF] 0 .e F = F (mkTr [(0, dkF)]) := by kernel_rfl
theorem pr_a : krun E0 1000000 m29 0 (sL c29) (mkTr [(0, dkF)]) (mkZm []) 0 0 (litT .normal [(1, .ptr 0 [] sh69), (2, .nils)] z29 1 0) := of_eq_true (by kernel_rfl)
theorem pr_b : krun E0 1000000 m29 0 (sL a29) (mkTr [(1, .ptr 0 [] sh69), (2, .nils)]) (mkZm z29) 1 0 (litT .normal [(1, .ptr 0 [] sh69), (2, .nils), (3, .nils)] z29 1 0) := of_eq_true (by kernel_rfl)
theorem pr_c : krun E0 1000000 m29 0 (sL d29) (mkTr [(1, .ptr 0 [] sh69), (2, .nils), (3, .nils)]) (mkZm z29) 1 0 (litT .normal (s29 0) z29 1 0) := of_eq_true (by kernel_rfl)
theorem hz0 : mkZm [] = .e := by kernel_rfl
theorem wl29 {K : K3} (hq : K (.exit 0) (mkTr tE29) (mkZm zE29) 10925 0) : wloop E0 m29 0 l29 (mkTr (s29 0)) (mkZm z29) 1 0 K :=
  wloop.pieceM (lt := s29 1000) (lz := z29) (n1 := 1001) (m1 := 0) ok0 (by kernel_rfl) (
  wloop.pieceM (lt := s29 2000) (lz := z29) (n1 := 2001) (m1 := 0) ok0 (by kernel_rfl) (
  wloop.pieceM (lt := s29 3000) (lz := z29) (n1 := 3001) (m1 := 0) ok0 (by kernel_rfl) (
  wloop.pieceM (lt := s29 4000) (lz := z29) (n1 := 4001) (m1 := 0) ok0 (by kernel_rfl) (
  wloop.pieceM (lt := s29 5000) (lz := z29) (n1 := 5001) (m1 := 0) ok0 (by kernel_rfl) (
  wloop.pieceM (lt := s29 6000) (lz := z29) (n1 := 6001) (m1 := 0) ok0 (by kernel_rfl) (
  wloop.pieceM (lt := s29 7000) (lz := z29) (n1 := 7001) (m1 := 0) ok0 (by kernel_rfl) (
  wloop.pieceM (lt := s29 8000) (lz := z29) (n1 := 8001) (m1 := 0) ok0 (by kernel_rfl) (
  wloop.pieceM (lt := s29 9000) (lz := z29) (n1 := 9001) (m1 := 0) ok0 (by kernel_rfl) (
  wloop.pieceM (lt := s29 10000) (lz := z29) (n1 := 10001) (m1 := 0) ok0 (by kernel_rfl) (
  wloop.endM ok0 922 (by kernel_rfl) (by kernel_rfl) hq pr_e) 999 _ _ _ _ pr_9) 999 _ _ _ _ pr_8) 999 _ _ _ _ pr_7) 999 _ _ _ _ pr_6) 999 _ _ _ _ pr_5) 999 _ _ _ _ pr_4) 999 _ _ _ _ pr_3) 999 _ _ _ _ pr_2) 999 _ _ _ _ pr_1) 999 _ _ _ _ pr_0
theorem pr29 : callR E0 (wrun E0) 0 29 [dkF] .e 0 0 fun r zm _ _ => tK (fzB zm 30 r r29) := by
  refine callR_of fn29 bd29 ?_
  rw [c29_eq, ← hz0]
  refine wrun.seq (wrun.pieceM ok0 pr_a (by kernel_rfl) (.inl ⟨rfl, ?_⟩))
  refine wrun.seq (wrun.pieceM ok0 pr_b (by kernel_rfl) (.inl ⟨rfl, ?_⟩))
  refine wrun.seq (wrun.seq (wrun.pieceM ok0 pr_c (by kernel_rfl) (.inl ⟨rfl, ?_⟩)))
  refine wrun.block (wloop.run (wl29 (.inl ⟨rfl, .inl ⟨rfl, ?_⟩⟩)))
  exact wrun_of ok0 pr_z
theorem kcs29 : KCS Tryz.prog 29 (kcon [dkF] r29) := kconW_s ok0 pr29
end
end Go.K
