/- Fresh volumes of numbers of blocks that are not valid: refused. No condition. -/
import Derived.Test.YtfpmealbbibhpaaGreatDoorFR1
set_option linter.unusedVariables false
set_option linter.unusedSimpArgs false
namespace Go.K
open Go.Ab Go.RowKit Go.Y Go.Proofs
noncomputable section
attribute [local irreducible] krun callR
theorem P234 : ∃ fn, Tryz.prog.funcs[234]? = some fn ∧ (fn.name == "runtime.NumGoroutine") = false ∧ fn.body.isNone = false := ⟨Tryz.f234, Tryz.func234, (fnsL.get Tryz.func234).1, by kernel_rfl⟩
theorem P20 : ∃ fn, Tryz.prog.funcs[20]? = some fn ∧ (fn.name == "runtime.NumGoroutine") = false ∧ fn.body.isNone = false := ⟨Tryz.f20, Tryz.func20, (fnsL.get Tryz.func20).1, by kernel_rfl⟩
theorem P4 : ∃ fn, Tryz.prog.funcs[4]? = some fn ∧ (fn.name == "runtime.NumGoroutine") = false ∧ fn.body.isNone = false := ⟨Tryz.f4, Tryz.func4, (fnsL.get Tryz.func4).1, by kernel_rfl⟩
def E20 : KEnv := EO0.tab [(234, sDead)]
theorem ok20 : @KOk gO E20 := @KOk.tab gO EO0 okO0 _ ⟨@sDead_s gO _ _ P234, trivial⟩
def run20m (N : Nat) (v : KV) : Prop := @callR gO E20 (@krun gO E20 60) 0 20 [.int .i64 (.negSucc N)] .e 0 0 fun r _ _ _ => r = v
def run20n (N : Nat) (v : KV) : Prop := @callR gO E20 (@krun gO E20 60) 0 20 [.int .i64 (.ofNat N)] .e 0 0 fun r _ _ _ => r = v
def bad20 : KV := .tup (.cons (.cons (.int .i64 (.ofNat 0)) (.cons (.int .i64 (.ofNat 0)) (.cons .nils .nl))) (.cons (.cons (.ar 32 (.int .u8 (.ofNat 0)) .te) (.cons (.int .u64 (.ofNat 0)) (.cons (.int .u64 (.ofNat 0)) .nl))) (.cons (.int .i64 (.ofNat 1)) .nl)))
set_option maxRecDepth 100000
theorem run20m_eq (N : Nat) (v : KV) : run20m N v = ((((KV.int IntKind.i64 (Int.ofNat 0)).cons ((KV.int IntKind.i64 (Int.ofNat 0)).cons (KV.nils.cons KV.nl))).cons (((KV.ar 32 (KV.int IntKind.u8 (Int.ofNat 0)) KV.te).cons ((KV.int IntKind.u64 (Int.ofNat 0)).cons ((KV.int IntKind.u64 (Int.ofNat 0)).cons KV.nl))).cons ((KV.int IntKind.i64 (Int.ofNat 1)).cons KV.nl))).tup = v) := by kernel_rfl
theorem run20n_eq (N : Nat) (v : KV) : run20n N v = (alt (ltI (Int.ofNat N) (Int.ofNat 1)) ((((KV.int IntKind.i64 (Int.ofNat 0)).cons ((KV.int IntKind.i64 (Int.ofNat 0)).cons (KV.nils.cons KV.nl))).cons (((KV.ar 32 (KV.int IntKind.u8 (Int.ofNat 0)) KV.te).cons ((KV.int IntKind.u64 (Int.ofNat 0)).cons ((KV.int IntKind.u64 (Int.ofNat 0)).cons KV.nl))).cons ((KV.int IntKind.i64 (Int.ofNat 1)).cons KV.nl))).tup = v) (alt (ltI (Int.ofNat 4096) (Int.ofNat N)) ((((KV.int IntKind.i64 (Int.ofNat 0)).cons ((KV.int IntKind.i64 (Int.ofNat 0)).cons (KV.nils.cons KV.nl))).cons (((KV.ar 32 (KV.int IntKind.u8 (Int.ofNat 0)) KV.te).cons ((KV.int IntKind.u64 (Int.ofNat 0)).cons ((KV.int IntKind.u64 (Int.ofNat 0)).cons KV.nl))).cons ((KV.int IntKind.i64 (Int.ofNat 1)).cons KV.nl))).tup = v) False)) := by kernel_rfl
theorem run20m_s (N : Nat) : run20m N bad20 := by rw [run20m_eq]; rfl
theorem run20n_s {N : Nat} (h : N < 1 ∨ 4096 < N) : run20n N bad20 := by
  rw [run20n_eq]
  refine alt_iff.2 ⟨fun _ => rfl, fun q1 => alt_iff.2 ⟨fun _ => rfl, fun q2 => ?_⟩⟩
  rw [ltI_nat, bltF] at q1 q2
  omega
def s20b : KSpec := fun l K => la1 l fun x => onInt (fun kk z => chk (ikEq kk .i64) 311 ((z < 1 ∨ 4096 < z) ∧ K bad20)) (BadN 312) x
theorem kcs20b : @KCS gO Tryz.prog 20 s20b := by
  refine @kcsQ gO E20 ok20 20 s20b P20 fun l K hs => ?_
  obtain ⟨x, rfl, h1⟩ := la1_s hs
  rcases onInt_inv h1 with ⟨kk, z, rfl, h2⟩ | ⟨_, h2⟩
  · obtain ⟨h3, h4, h5⟩ := chk_inv h2
    obtain rfl := ikEq_eq h3
    refine ⟨60, _, _, h5, rfl, fun _ _ h => h, ?_⟩
    cases z with
    | ofNat n => exact run20n_s (by have : Int.ofNat n = (n : Int) := rfl; omega)
    | negSucc n => exact run20m_s n
  · exact h2.elim
end
end Go.K
