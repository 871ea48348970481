/- RecoversErrors where blocks and disk do not belong together: true. No condition. -/
import Derived.Test.YthnhbdidiglcgaaGreatDoorRO6
import Derived.Test.YthnhbdidiglcgaaGreatDoorLC1
set_option linter.unusedVariables false
set_option linter.unusedSimpArgs false
namespace Go.K
open Go.Ab Go.RowKit Go.Y Go.Proofs
noncomputable section
attribute [local irreducible] krun callR
theorem P191 : ∃ fn, Tryz.prog.funcs[191]? = some fn ∧ (fn.name == "runtime.NumGoroutine") = false ∧ fn.body.isNone = false := ⟨Tryz.f191, Tryz.func191, (fnsL.get Tryz.func191).1, by kernel_rfl⟩
theorem P97 : ∃ fn, Tryz.prog.funcs[97]? = some fn ∧ (fn.name == "runtime.NumGoroutine") = false ∧ fn.body.isNone = false := ⟨Tryz.f97, Tryz.func97, (fnsL.get Tryz.func97).1, by kernel_rfl⟩
theorem P111 : ∃ fn, Tryz.prog.funcs[111]? = some fn ∧ (fn.name == "runtime.NumGoroutine") = false ∧ fn.body.isNone = false := ⟨Tryz.f111, Tryz.func111, (fnsL.get Tryz.func111).1, by kernel_rfl⟩
theorem P102 : ∃ fn, Tryz.prog.funcs[102]? = some fn ∧ (fn.name == "runtime.NumGoroutine") = false ∧ fn.body.isNone = false := ⟨Tryz.f102, Tryz.func102, (fnsL.get Tryz.func102).1, by kernel_rfl⟩
theorem P6 : ∃ fn, Tryz.prog.funcs[6]? = some fn ∧ (fn.name == "runtime.NumGoroutine") = false ∧ fn.body.isNone = false := ⟨Tryz.f6, Tryz.func6, (fnsL.get Tryz.func6).1, by kernel_rfl⟩
def E6b : KEnv := EO0.tab [(34, s34), (89, s89b), (37, s37), (28, kcon [] (.bool true))]
def E6g : KEnv := EO0.tab [(34, s34), (89, s89g), (37, s37), (28, kcon [] (.bool true)), (191, sDead), (97, sDead), (111, sDead), (102, sDead)]
theorem ok6b : @KOk gO E6b := @KOk.tab gO EO0 okO0 _ ⟨kcs34.opn, kcs89b, kcs37, rlives_s.opn, trivial⟩
theorem ok6g : @KOk gO E6g := @KOk.tab gO EO0 okO0 _ ⟨kcs34.opn, kcs89g, kcs37, rlives_s.opn, @sDead_s gO _ _ P191, @sDead_s gO _ _ P97, @sDead_s gO _ _ P111, @sDead_s gO _ _ P102, trivial⟩
set_option maxRecDepth 100000
def run6b (N S : Nat) (v : KV) : Prop := @callR gO E6b (@krun gO E6b 60) 0 6 [.int .i64 (.ofNat N), .int .u8 (.ofNat S)] .e 0 0 fun r _ _ _ => r = v
def run6m (N S : Nat) (v : KV) : Prop := @callR gO E6b (@krun gO E6b 60) 0 6 [.int .i64 (.negSucc N), .int .u8 (.ofNat S)] .e 0 0 fun r _ _ _ => r = v
def run6g (N S : Nat) (v : KV) : Prop := @callR gO E6g (@krun gO E6g 60) 0 6 [.int .i64 (.ofNat N), .int .u8 (.ofNat S)] .e 0 0 fun r _ _ _ => r = v
theorem run6m_eq (N S : Nat) (v : KV) : run6m N S v = (cnd (S.blt 9223372036854775808) (cnd ((Nat.add 1 (S % 60)).blt 9223372036854775808) ((1 ≤ Nat.add 1 (S % 60) ∧ Nat.add 1 (S % 60) ≤ 60) ∧ (Int.negSucc N < Int.ofNat 1 ∨ Int.ofNat 4096 < Int.negSucc N) ∧ (Int.negSucc N < Int.ofNat 1 ∨ Int.ofNat 4096 < Int.negSucc N) ∧ (Int.negSucc N < Int.ofNat 1 ∨ Int.ofNat 4096 < Int.negSucc N) ∧ (Int.negSucc N < Int.ofNat 1 ∨ Int.ofNat 4096 < Int.negSucc N) ∧ (Int.negSucc N < Int.ofNat 1 ∨ Int.ofNat 4096 < Int.negSucc N) ∧ (Int.negSucc N < Int.ofNat 1 ∨ Int.ofNat 4096 < Int.negSucc N) ∧ KV.bool true = v))) := by kernel_rfl
theorem run6b_eq (N S : Nat) (v : KV) : run6b N S v = (cnd (S.blt 9223372036854775808) (cnd ((Nat.add 1 (S % 60)).blt 9223372036854775808) ((1 ≤ Nat.add 1 (S % 60) ∧ Nat.add 1 (S % 60) ≤ 60) ∧ (Int.ofNat N < Int.ofNat 1 ∨ Int.ofNat 4096 < Int.ofNat N) ∧ (Int.ofNat N < Int.ofNat 1 ∨ Int.ofNat 4096 < Int.ofNat N) ∧ (Int.ofNat N < Int.ofNat 1 ∨ Int.ofNat 4096 < Int.ofNat N) ∧ (Int.ofNat N < Int.ofNat 1 ∨ Int.ofNat 4096 < Int.ofNat N) ∧ (Int.ofNat N < Int.ofNat 1 ∨ Int.ofNat 4096 < Int.ofNat N) ∧ (Int.ofNat N < Int.ofNat 1 ∨ Int.ofNat 4096 < Int.ofNat N) ∧ alt (ltI (Int.ofNat N) (Int.ofNat 1)) (KV.bool true = v) (alt (ltI (Int.ofNat 4096) (Int.ofNat N)) (KV.bool true = v) ((1 ≤ N ∧ N ≤ 4096) ∧ cnd (S.blt 9223372036854775808) (cnd ((Nat.add 1 (S % 60)).blt 9223372036854775808) (alt (!eqI (Int.ofNat (C.sec N)) (Int.ofNat (Nat.add 1 (S % 60)))) (KV.bool true = v) (KV.bool false = v)))))))) := by kernel_rfl
theorem run6g_eq (N S : Nat) (v : KV) : run6g N S v = (cnd (S.blt 9223372036854775808) (cnd ((Nat.add 1 (S % 60)).blt 9223372036854775808) ((1 ≤ Nat.add 1 (S % 60) ∧ Nat.add 1 (S % 60) ≤ 60) ∧ (1 ≤ N ∧ N ≤ 4096) ∧ alt (!eqI (Int.ofNat (Nat.add 1 (S % 60))) (Int.ofNat (C.sec N))) ((1 ≤ N ∧ N ≤ 4096) ∧ alt (!eqI (Int.ofNat (Nat.add 1 (S % 60))) (Int.ofNat (C.sec N))) ((1 ≤ N ∧ N ≤ 4096) ∧ alt (!eqI (Int.ofNat (Nat.add 1 (S % 60))) (Int.ofNat (C.sec N))) ((1 ≤ N ∧ N ≤ 4096) ∧ alt (!eqI (Int.ofNat (Nat.add 1 (S % 60))) (Int.ofNat (C.sec N))) ((1 ≤ N ∧ N ≤ 4096) ∧ alt (!eqI (Int.ofNat (Nat.add 1 (S % 60))) (Int.ofNat (C.sec N))) ((1 ≤ N ∧ N ≤ 4096) ∧ alt (!eqI (Int.ofNat (Nat.add 1 (S % 60))) (Int.ofNat (C.sec N))) (alt (ltI (Int.ofNat N) (Int.ofNat 1)) (KV.bool true = v) (alt (ltI (Int.ofNat 4096) (Int.ofNat N)) (KV.bool true = v) ((1 ≤ N ∧ N ≤ 4096) ∧ cnd (S.blt 9223372036854775808) (cnd ((Nat.add 1 (S % 60)).blt 9223372036854775808) (alt (!eqI (Int.ofNat (C.sec N)) (Int.ofNat (Nat.add 1 (S % 60)))) (KV.bool true = v) (KV.bool false = v)))))) False) False) False) False) False) False))) := by kernel_rfl
section
variable {N S : Nat}
theorem sz1 (hS : S < 256) : S.blt 9223372036854775808 = true := by rw [Nat.blt_eq]; omega
theorem sz2 : (Nat.add 1 (S % 60)).blt 9223372036854775808 = true := by rw [Nat.blt_eq]; show 1 + S % 60 < _; omega
theorem sz3 : 1 ≤ Nat.add 1 (S % 60) ∧ Nat.add 1 (S % 60) ≤ 60 := by show 1 ≤ 1 + S % 60 ∧ 1 + S % 60 ≤ 60; omega
theorem run6m_s (hS : S < 256) : run6m N S (.bool true) := by
  rw [run6m_eq]
  have h : Int.negSucc N < Int.ofNat 1 ∨ Int.ofNat 4096 < Int.negSucc N := .inl (Int.lt_of_lt_of_le (Int.negSucc_lt_zero N) (by decide))
  exact cnd_iff.2 ⟨sz1 hS, cnd_iff.2 ⟨sz2, sz3, h, h, h, h, h, h, rfl⟩⟩
theorem run6b_s (hS : S < 256) (hn : N < 1 ∨ 4096 < N) : run6b N S (.bool true) := by
  rw [run6b_eq]
  have h : Int.ofNat N < Int.ofNat 1 ∨ Int.ofNat 4096 < Int.ofNat N := hn.imp Int.ofNat_lt.2 Int.ofNat_lt.2
  refine cnd_iff.2 ⟨sz1 hS, cnd_iff.2 ⟨sz2, sz3, h, h, h, h, h, h, alt_iff.2 ⟨fun _ => rfl, fun q1 => alt_iff.2 ⟨fun _ => rfl, fun q2 => ?_⟩⟩⟩⟩
  rw [ltI_nat, bltF] at q1 q2
  omega
theorem run6g_s (hS : S < 256) (h1 : 1 ≤ N ∧ N ≤ 4096) (h2 : C.sec N ≠ 1 + S % 60) : run6g N S (.bool true) := by
  rw [run6g_eq]
  have hk : (!eqI (Int.ofNat (Nat.add 1 (S % 60))) (Int.ofNat (C.sec N))) = true := by
    rw [notT, eqI_nat, beqF]; exact fun h => h2 h.symm
  have no : ∀ {p : Prop}, (!eqI (Int.ofNat (Nat.add 1 (S % 60))) (Int.ofNat (C.sec N))) = false → p := fun h => by rw [hk] at h; cases h
  refine cnd_iff.2 ⟨sz1 hS, cnd_iff.2 ⟨sz2, sz3, h1, alt_iff.2 ⟨fun _ => ⟨h1, alt_iff.2 ⟨fun _ => ⟨h1, alt_iff.2 ⟨fun _ => ⟨h1, alt_iff.2 ⟨fun _ => ⟨h1, alt_iff.2 ⟨fun _ => ⟨h1, alt_iff.2 ⟨fun _ => ?_, no⟩⟩, no⟩⟩, no⟩⟩, no⟩⟩, no⟩⟩, no⟩⟩⟩
  refine alt_iff.2 ⟨fun _ => rfl, fun _ => alt_iff.2 ⟨fun _ => rfl, fun _ => ⟨h1, cnd_iff.2 ⟨sz1 hS, cnd_iff.2 ⟨sz2, alt_iff.2 ⟨fun _ => rfl, fun q => ?_⟩⟩⟩⟩⟩⟩
  rw [notF, eqI_nat, beqT] at q
  exact absurd q h2
end
end
end Go.K
