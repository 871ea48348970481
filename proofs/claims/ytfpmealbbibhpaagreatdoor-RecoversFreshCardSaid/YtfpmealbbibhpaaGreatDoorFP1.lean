/- RecoversFresh: the law up to the number of blocks that is looked at. No condition. -/
import Derived.Test.YtfpmealbbibhpaaGreatDoorFP0
import Derived.Test.YtfpmealbbibhpaaGreatDoorFR3
import Derived.Test.YtfpmealbbibhpaaGreatDoorK22
set_option linter.unusedVariables false
set_option linter.unusedSimpArgs false
namespace Go.K
open Go.Ab Go.RowKit Go.Y Go.Proofs
noncomputable section
attribute [local irreducible] krun callR
def s20g : KSpec := fun l K => la1 l fun x => natK x fun n => (1 ≤ n ∧ n ≤ 4096) ∧ K (frF n)
theorem kcs20g : KCS Tryz.prog 20 s20g := by
  refine kcsF P20 fun l K hs => ?_
  obtain ⟨x, rfl, h1⟩ := la1_s hs
  obtain ⟨n, rfl, h2, h3⟩ := natK_s h1
  exact ⟨EF, okF, rfl, 1000, 60, _, h3, q20_all h2.1 h2.2⟩
theorem P21 : ∃ fn, Tryz.prog.funcs[21]? = some fn ∧ (fn.name == "runtime.NumGoroutine") = false ∧ fn.body.isNone = false := ⟨Tryz.f21, Tryz.func21, (fnsL.get Tryz.func21).1, by kernel_rfl⟩
def run21 (k : Nat) (v : KV) : Prop := @callR gO EO0 (@krun gO EO0 40) 0 21 [.cons (.int .u16 (.ofNat k)) .nl] .e 0 0 fun r _ _ _ => r = v
def s21 : KSpec := fun l K => la1 l fun x => onCons (fun a b => onNl (onInt (fun kk z => chk (ikEq kk .u16) 410 (@Int.rec (fun _ => Prop) (fun k => k < 65536 ∧ K (.int .i64 (.ofNat (Nat.succ (k % 4096))))) (fun _ => BadN 411) z)) (BadN 412) a) (BadN 413) b) (BadN 414) x
theorem run21_s {k : Nat} (hk : k < 65536) : run21 k (.int .i64 (.ofNat (Nat.succ (k % 4096)))) := by
  have e : run21 k (.int .i64 (.ofNat (Nat.succ (k % 4096)))) = cnd (k.blt 9223372036854775808) (cnd ((Nat.add 1 (k % 4096)).blt 9223372036854775808) (KV.int IntKind.i64 (Int.ofNat (Nat.add 1 (k % 4096))) = .int .i64 (.ofNat (Nat.succ (k % 4096))))) := by kernel_rfl
  rw [e]
  simp only [cnd_iff, Nat.blt_eq]
  refine ⟨by omega, by show 1 + k % 4096 < _; omega, ?_⟩
  rw [show Nat.add 1 (k % 4096) = Nat.succ (k % 4096) from Nat.add_comm 1 _]
theorem kcs21 : @KCS gO Tryz.prog 21 s21 := by
  refine @kcsQ gO EO0 okO0 21 s21 P21 fun l K hs => ?_
  obtain ⟨x, rfl, h1⟩ := la1_s hs
  rcases onCons_inv h1 with ⟨a, b, rfl, h2⟩ | ⟨_, h2⟩
  · rcases onNl_inv h2 with ⟨rfl, h3⟩ | ⟨_, h3⟩
    · rcases onInt_inv h3 with ⟨kk, z, rfl, h4⟩ | ⟨_, h4⟩
      · obtain ⟨h5, h6⟩ := chk_inv h4
        obtain rfl := ikEq_eq h5
        cases z with
        | ofNat k => exact ⟨40, _, _, h6.2, rfl, fun _ _ h => h, run21_s h6.1⟩
        | negSucc k => exact (show BadN 411 from h6).elim
      · exact h4.elim
    · exact h3.elim
  · exact h2.elim
def EAb : KEnv := EO0.tab [(20, s20b), (21, s21)]
theorem okAb : @KOk gO EAb := @KOk.tab gO EO0 okO0 _ ⟨kcs20b, kcs21, trivial⟩
def EAg : KEnv := EO0.tab [(20, s20g), (21, s21)]
theorem okAg : @KOk gO EAg := @KOk.tab gO EO0 okO0 _ ⟨kcs20g.opn, kcs21, trivial⟩
def m4 : Nat := E0.km 4
def c4 : Code := match fnB Tryz.prog 4 with | some x => x.1 | none => .skip
def rs4 : List ResultVar := match fnB Tryz.prog 4 with | some x => x.2 | none => []
def x4a : Code := sR c4
def x4b : Code := sR x4a
def x4c : Code := sR x4b
def x4d : Code := sR x4c
def kN (f : KTm → KZ → Nat → Nat → Prop) : K3 := fun e tr zm nx mx => chk (exB e .normal) 402 (f tr zm nx mx)
def runA (E : KEnv) (k : Nat) (z : Int) (v : KV) : Prop := @krun gO E 60 m4 0 (sL c4) (mkTr [(0, .cons (.int .u16 (.ofNat k)) .nl), (1, .int .i64 z)]) .e 0 0 (kN fun tr zm nx mx => @krun gO E 60 m4 0 (sL x4a) tr zm nx mx (kN fun tr zm nx mx => @krun gO E 60 m4 0 (sL x4b) tr zm nx mx (kN fun tr zm nx mx => @krun gO E 60 m4 0 (sL x4c) tr zm nx mx (litP .normal [(1, v), (4, .bool false)] 40 40))))
def runAm (k N : Nat) (v : KV) : Prop := runA EAb k (.negSucc N) v
def runAb (k N : Nat) (v : KV) : Prop := runA EAb k (.ofNat N) v
def runAg (k N : Nat) (v : KV) : Prop := runA EAg k (.ofNat N) v
end
end Go.K
