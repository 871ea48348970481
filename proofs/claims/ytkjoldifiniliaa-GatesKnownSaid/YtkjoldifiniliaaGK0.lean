/- The gates' program in the run: what stands fast. No condition. -/
import Derived.Test.YtkjoldifiniliaaK15
import Derived.Test.YtkjoldifiniliaaProg
set_option linter.unusedVariables false
namespace Go.K
open Go.Ab Go.RowKit Go.Y Go.Proofs
noncomputable section
noncomputable instance kgG : KGl := { g := fun _ => .unk, cl := true }
noncomputable def maskL : List Nat := [0, 0, 0, 9147936776658935, 680564736550644475535647148104254881783, 9259972751729361399, 680564734000354105944112986520547231743, 17567, 479, 65655, 1887, 8223, 288300762079952927, 68719612919, 17592738717687, 1048583, 1048583, 7, 147880272204578948303, 479, 1887, 1, 19, 183, 65887, 131127, 131191, 1, 53, 53, 0, 0, 0, 0, 0, 0, 0, 0, 0, 0]
noncomputable def mdL : List Nat := [0, 0, 0, 1, 1, 1, 1, 1, 1, 1, 1, 1, 1, 1, 1, 1, 1, 1, 1, 1, 1, 1, 1, 1, 1, 1, 1, 1, 1, 1]
noncomputable def E0 : KEnv := { P := Try.prog, ct := fun _ => none, md := fun f => mdL.getD f 0, km := fun f => maskL.getD f 0 }
theorem fnsG : FnsOk Try.prog := by
  unfold FnsOk
  decide +kernel
theorem mixG : Try.prog.follows .mixedOrders = true := by decide +kernel
theorem ok0 : KOk E0 where
  fns := fnsG
  ct := fun _ _ h => nomatch h
  gn := fun _ => rfl
  mixed := mixG
attribute [local irreducible] krun callR
theorem livesG : callR E0 (krun E0 1000000) 0 12 [] .e 0 0 fun r _ _ _ => tK (kvb r (.bool true)) := of_eq_true (by kernel_rfl)
theorem lives_s : KCS Try.prog 12 (kcon [] (.bool true)) := kcon_s ok0 livesG rfl rfl
def ct1 (f : FuncId) : Option KSpec := @Bool.rec (fun _ => Option KSpec) none (some (kcon [] (.bool true))) (Nat.beq f 12)
noncomputable def E1 : KEnv := { E0 with ct := ct1 }
theorem ct1_s (f : FuncId) (s : KSpec) (h : ct1 f = some s) : KCS Try.prog f s := by
  unfold ct1 at h
  cases hb : Nat.beq f 12 with
  | false => rw [hb] at h; cases h
  | true =>
    rw [hb] at h
    obtain rfl := beqE hb
    cases h
    exact lives_s
theorem ok1 : KOk E1 where
  fns := fnsG
  ct := ct1_s
  gn := fun _ => rfl
  mixed := mixG
end
end Go.K
