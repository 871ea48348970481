/- errors.As and errors.Is in the run of the seat. No condition. -/
import Derived.Test.YtfpmealbbibhpaaGreatDoorAS1
import Derived.Test.YtfpmealbbibhpaaGreatDoorLC1
namespace Go.K
open Go.Ab Go.RowKit Go.Y Go.Proofs
noncomputable section
theorem kgErrT : (@Gl.G (@instGl kgL) 2) = vErrT := rfl
theorem as209_s : @AsOk kgL Tryz.prog 209 247 345 := @as209 kgL kgErrT
theorem kcs210 : @KCS kgL Tryz.prog 210 (sIs 2147483896 2147483648 9117368320) := by
  have h := @isOk_of kgL Tryz.prog gnL 210 247 503 9117368320 ⟨_, Tryz.func210, by kernel_rfl, by kernel_rfl⟩ (by decide) (by decide) (by decide) (by decide)
    (fun e a w => (Go.AS.is_refN e a w).mono (by rintro ev w' ⟨rfl, rfl⟩; exact ⟨rfl, (Below.refl w.heap.size w).alloc (Nat.le_refl _) _⟩))
    (fun e a w => (Go.AS.is_refH e a w).mono (by rintro ev w' ⟨rfl, rfl⟩; exact ⟨rfl, (Below.refl w.heap.size w).alloc (Nat.le_refl _) _⟩))
  exact h
def E0s : KEnv := ⟨E0.P, E0.ct, fun f => @Bool.rec (fun _ => Nat) (E0.md f) 3 (Nat.beq f 117), E0.km, E0.ol, E0.ex, E0.cb, fun f => @Bool.rec (fun _ => Option (Nat × Nat)) none (some (247, 345)) (Nat.beq f 209)⟩
theorem ok0s : KOk E0s := ⟨ok0.fns, ok0.ct, ok0.gn, ok0.mixed, ok0.ex, ok0.cb, fun f T PT h => by
  have h : @Bool.rec (fun _ => Option (Nat × Nat)) none (some (247, 345)) (Nat.beq f 209) = some (T, PT) := h
  cases hf : Nat.beq f 209 with
  | false => rw [hf] at h; cases h
  | true =>
    rw [hf] at h
    cases h
    obtain rfl := Nat.eq_of_beq_eq_true hf
    exact as209_s⟩
end
end Go.K
