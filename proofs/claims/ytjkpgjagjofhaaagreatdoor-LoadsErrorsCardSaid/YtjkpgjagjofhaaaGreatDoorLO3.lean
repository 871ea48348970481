/- Contracts over open numbers: volumes that do not fit, the definition's sectors. No condition. Contracts over open numbers: new disks. No condition. -/
import Derived.Test.YtjkpgjagjofhaaaGreatDoorKL0
set_option linter.unusedVariables false
set_option linter.unusedSimpArgs false
namespace Go.K
open Go.Ab Go.RowKit Go.Y Go.Proofs
noncomputable section
attribute [local irreducible] krun callR
def E14b : KEnv := EO0.tab [(39, s39b)]
def E14g : KEnv := EO0.tab [(39, s39g)]
theorem ok14b : @KOk gO E14b := @KOk.tab gO EO0 okO0 _ ⟨kcs39b, trivial⟩
theorem ok14g : @KOk gO E14g := @KOk.tab gO EO0 okO0 _ ⟨kcs39g, trivial⟩
def run14b (z : Int) (k : Nat) (v : KV) : Prop := @callR gO E14b (@krun gO E14b 32) 0 14 [.int .i64 z, dk k] .e 0 0 fun r _ _ _ => r = v
def run14g (N k : Nat) (v : KV) : Prop := @callR gO E14g (@krun gO E14g 32) 0 14 [.int .i64 (.ofNat N), dk k] .e 0 0 fun r _ _ _ => r = v
theorem run14b_eq (z : Int) (k : Nat) (v : KV) : run14b z k v = ((z < Int.ofNat 1 ∨ Int.ofNat 4096 < z) ∧ (((KV.int IntKind.i64 z).cons (((KV.int IntKind.i64 (Int.ofNat k)).cons ((KV.int IntKind.i64 (Int.ofNat 0)).cons ((KV.ro true true Shape.sc 0 1 (KV.ar 1 KV.nilp ((KV.ref true (Shape.arr 64 Shape.sc) (KV.ar 64 KV.nilp KV.te)).tn KV.te KV.te KV.te KV.te))).cons KV.nl))).cons KV.nl)).cons ((KV.int IntKind.i64 (Int.ofNat 1)).cons KV.nl)).tup = v) := by kernel_rfl
theorem run14g_eq (N k : Nat) (v : KV) : run14g N k v = ((1 ≤ N ∧ N ≤ 4096) ∧ alt (!eqI (Int.ofNat k) (Int.ofNat (C.sec N))) ((((KV.int IntKind.i64 (Int.ofNat N)).cons (((KV.int IntKind.i64 (Int.ofNat k)).cons ((KV.int IntKind.i64 (Int.ofNat 0)).cons ((KV.ro true true Shape.sc 0 1 (KV.ar 1 KV.nilp ((KV.ref true (Shape.arr 64 Shape.sc) (KV.ar 64 KV.nilp KV.te)).tn KV.te KV.te KV.te KV.te))).cons KV.nl))).cons KV.nl)).cons ((KV.int IntKind.i64 (Int.ofNat 1)).cons KV.nl)).tup = v) ((((KV.int IntKind.i64 (Int.ofNat N)).cons (((KV.int IntKind.i64 (Int.ofNat k)).cons ((KV.int IntKind.i64 (Int.ofNat 0)).cons ((KV.ro true true Shape.sc 0 1 (KV.ar 1 KV.nilp ((KV.ref true (Shape.arr 64 Shape.sc) (KV.ar 64 KV.nilp KV.te)).tn KV.te KV.te KV.te KV.te))).cons KV.nl))).cons KV.nl)).cons ((KV.int IntKind.i64 (Int.ofNat 0)).cons KV.nl)).tup = v)) := by kernel_rfl
/-- Blocks and sectors that do not belong together. -/
def C.bad (z : Int) (k : Nat) : Prop := z < 1 ∨ 4096 < z ∨ ∃ N : Nat, z = .ofNat N ∧ C.sec N ≠ k
def e1 : KV := .tup (.cons .unk (.cons (.int .i64 (.ofNat 1)) .nl))
def s14 : KSpec := fun l K => lb2 l fun x d => onInt (fun kk z => chk (ikEq kk .i64) 311 (onCons (fun a b => chk (kvb b dkR) 313 (natK a fun k => C.bad z k ∧ K e1)) (BadN 314) d)) (BadN 312) x
theorem P14 : ∃ fn, Tryz.prog.funcs[14]? = some fn ∧ (fn.name == "runtime.NumGoroutine") = false ∧ fn.body.isNone = false := ⟨Tryz.f14, Tryz.func14, (fnsL.get Tryz.func14).1, by kernel_rfl⟩
theorem imp_e1 (a : KV) : Imp (KV.tup (.cons a (.cons (.int .i64 (.ofNat 1)) .nl))).v e1.v := Imp.tupL (Imp.consL (fun _ _ _ => trivial) fun _ _ h => h)
theorem kcs14 : @KCS gO Tryz.prog 14 s14 := by
  refine @kcsE gO Tryz.prog 14 s14 P14 fun l K hs => ?_
  obtain ⟨x, d, rfl, h1⟩ := lb2_s hs
  rcases onInt_inv h1 with ⟨kk, z, rfl, h2⟩ | ⟨_, h2⟩
  · obtain ⟨h3, h4⟩ := chk_inv h2
    obtain rfl := ikEq_eq h3
    rcases onCons_inv h4 with ⟨a, b, rfl, h5⟩ | ⟨_, h5⟩
    · obtain ⟨h6, h7⟩ := chk_inv h5
      obtain rfl := kvb_s h6
      obtain ⟨k, rfl, h8, h9⟩ := natK_s h7
      have hb : (z < 1 ∨ 4096 < z) ∨ ∃ N : Nat, z = .ofNat N ∧ C.sec N ≠ k ∧ 1 ≤ N ∧ N ≤ 4096 := by
        rcases h8 with h | h | ⟨N, rfl, h⟩
        · exact .inl (.inl h)
        · exact .inl (.inr h)
        · by_cases q : 1 ≤ N ∧ N ≤ 4096
          · exact .inr ⟨N, rfl, h, q.1, q.2⟩
          · left
            have : Int.ofNat N = (N : Int) := rfl
            omega
      rcases hb with hb | ⟨N, rfl, hb, q1, q2⟩
      · refine ⟨E14b, ok14b, rfl, 32, _, _, h9, rfl, imp_e1 (.cons (.int .i64 z) (.cons (dk k) .nl)), ?_⟩
        show run14b z k _
        rw [run14b_eq]
        exact ⟨hb, rfl⟩
      · refine ⟨E14g, ok14g, rfl, 32, _, _, h9, rfl, imp_e1 (.cons (.int .i64 (.ofNat N)) (.cons (dk k) .nl)), ?_⟩
        show run14g N k _
        rw [run14g_eq]
        refine ⟨⟨q1, q2⟩, alt_iff.2 ⟨fun _ => rfl, fun h => ?_⟩⟩
        rw [notF, eqI_nat, beqT] at h
        exact absurd h.symm hb
    · exact h5.elim
  · exact h2.elim
/-! ### The definition's -/
theorem div_e (a b : Nat) : Nat.div a b = a / b := rfl
def run56 (l N : Nat) (v : KV) : Prop := @callR gO EO0 (@krun gO EO0 40) 0 56 [.int .i64 (.ofNat N), .int .i64 (.ofNat l)] .e 0 0 fun r _ _ _ => r = v
theorem run56_0_eq (N : Nat) (v : KV) : run56 0 N v = (cnd ((N.add 3).blt 9223372036854775808) (cnd (((N.add 3).div 4).blt 9223372036854775808) (KV.int IntKind.i64 (Int.ofNat ((N.add 3).div 4)) = v))) := by kernel_rfl
theorem run56_1_eq (N : Nat) (v : KV) : run56 1 N v = (cnd ((N.add 3).blt 9223372036854775808) (cnd (((N.add 3).div 4).blt 9223372036854775808) (alt (eqI (Int.ofNat ((N.add 3).div 4)) (Int.ofNat 1)) (KV.int IntKind.i64 (Int.ofNat 0) = v) (cnd ((((N.add 3).div 4).add 3).blt 9223372036854775808) (cnd (((((N.add 3).div 4).add 3).div 4).blt 9223372036854775808) (KV.int IntKind.i64 (Int.ofNat ((((N.add 3).div 4).add 3).div 4)) = v)))))) := by kernel_rfl
theorem run56_2_eq (N : Nat) (v : KV) : run56 2 N v = (cnd ((N.add 3).blt 9223372036854775808) (cnd (((N.add 3).div 4).blt 9223372036854775808) (alt (eqI (Int.ofNat ((N.add 3).div 4)) (Int.ofNat 1)) (KV.int IntKind.i64 (Int.ofNat 0) = v) (cnd ((((N.add 3).div 4).add 3).blt 9223372036854775808) (cnd (((((N.add 3).div 4).add 3).div 4).blt 9223372036854775808) (alt (eqI (Int.ofNat ((((N.add 3).div 4).add 3).div 4)) (Int.ofNat 1)) (KV.int IntKind.i64 (Int.ofNat 0) = v) (cnd ((((((N.add 3).div 4).add 3).div 4).add 3).blt 9223372036854775808) (cnd (((((((N.add 3).div 4).add 3).div 4).add 3).div 4).blt 9223372036854775808) (KV.int IntKind.i64 (Int.ofNat ((((((N.add 3).div 4).add 3).div 4).add 3).div 4)) = v))))))))) := by kernel_rfl
theorem run56_3_eq (N : Nat) (v : KV) : run56 3 N v = (cnd ((N.add 3).blt 9223372036854775808) (cnd (((N.add 3).div 4).blt 9223372036854775808) (alt (eqI (Int.ofNat ((N.add 3).div 4)) (Int.ofNat 1)) (KV.int IntKind.i64 (Int.ofNat 0) = v) (cnd ((((N.add 3).div 4).add 3).blt 9223372036854775808) (cnd (((((N.add 3).div 4).add 3).div 4).blt 9223372036854775808) (alt (eqI (Int.ofNat ((((N.add 3).div 4).add 3).div 4)) (Int.ofNat 1)) (KV.int IntKind.i64 (Int.ofNat 0) = v) (cnd ((((((N.add 3).div 4).add 3).div 4).add 3).blt 9223372036854775808) (cnd (((((((N.add 3).div 4).add 3).div 4).add 3).div 4).blt 9223372036854775808) (alt (eqI (Int.ofNat ((((((N.add 3).div 4).add 3).div 4).add 3).div 4)) (Int.ofNat 1)) (KV.int IntKind.i64 (Int.ofNat 0) = v) (cnd ((((((((N.add 3).div 4).add 3).div 4).add 3).div 4).add 3).blt 9223372036854775808) (cnd (((((((((N.add 3).div 4).add 3).div 4).add 3).div 4).add 3).div 4).blt 9223372036854775808) (KV.int IntKind.i64 (Int.ofNat ((((((((N.add 3).div 4).add 3).div 4).add 3).div 4).add 3).div 4)) = v)))))))))))) := by kernel_rfl
theorem run56_4_eq (N : Nat) (v : KV) : run56 4 N v = (cnd ((N.add 3).blt 9223372036854775808) (cnd (((N.add 3).div 4).blt 9223372036854775808) (alt (eqI (Int.ofNat ((N.add 3).div 4)) (Int.ofNat 1)) (KV.int IntKind.i64 (Int.ofNat 0) = v) (cnd ((((N.add 3).div 4).add 3).blt 9223372036854775808) (cnd (((((N.add 3).div 4).add 3).div 4).blt 9223372036854775808) (alt (eqI (Int.ofNat ((((N.add 3).div 4).add 3).div 4)) (Int.ofNat 1)) (KV.int IntKind.i64 (Int.ofNat 0) = v) (cnd ((((((N.add 3).div 4).add 3).div 4).add 3).blt 9223372036854775808) (cnd (((((((N.add 3).div 4).add 3).div 4).add 3).div 4).blt 9223372036854775808) (alt (eqI (Int.ofNat ((((((N.add 3).div 4).add 3).div 4).add 3).div 4)) (Int.ofNat 1)) (KV.int IntKind.i64 (Int.ofNat 0) = v) (cnd ((((((((N.add 3).div 4).add 3).div 4).add 3).div 4).add 3).blt 9223372036854775808) (cnd (((((((((N.add 3).div 4).add 3).div 4).add 3).div 4).add 3).div 4).blt 9223372036854775808) (alt (eqI (Int.ofNat ((((((((N.add 3).div 4).add 3).div 4).add 3).div 4).add 3).div 4)) (Int.ofNat 1)) (KV.int IntKind.i64 (Int.ofNat 0) = v) (cnd ((((((((((N.add 3).div 4).add 3).div 4).add 3).div 4).add 3).div 4).add 3).blt 9223372036854775808) (cnd (((((((((((N.add 3).div 4).add 3).div 4).add 3).div 4).add 3).div 4).add 3).div 4).blt 9223372036854775808) (KV.int IntKind.i64 (Int.ofNat ((((((((((N.add 3).div 4).add 3).div 4).add 3).div 4).add 3).div 4).add 3).div 4)) = v))))))))))))))) := by kernel_rfl
theorem run56_5_eq (N : Nat) (v : KV) : run56 5 N v = (cnd ((N.add 3).blt 9223372036854775808) (cnd (((N.add 3).div 4).blt 9223372036854775808) (alt (eqI (Int.ofNat ((N.add 3).div 4)) (Int.ofNat 1)) (KV.int IntKind.i64 (Int.ofNat 0) = v) (cnd ((((N.add 3).div 4).add 3).blt 9223372036854775808) (cnd (((((N.add 3).div 4).add 3).div 4).blt 9223372036854775808) (alt (eqI (Int.ofNat ((((N.add 3).div 4).add 3).div 4)) (Int.ofNat 1)) (KV.int IntKind.i64 (Int.ofNat 0) = v) (cnd ((((((N.add 3).div 4).add 3).div 4).add 3).blt 9223372036854775808) (cnd (((((((N.add 3).div 4).add 3).div 4).add 3).div 4).blt 9223372036854775808) (alt (eqI (Int.ofNat ((((((N.add 3).div 4).add 3).div 4).add 3).div 4)) (Int.ofNat 1)) (KV.int IntKind.i64 (Int.ofNat 0) = v) (cnd ((((((((N.add 3).div 4).add 3).div 4).add 3).div 4).add 3).blt 9223372036854775808) (cnd (((((((((N.add 3).div 4).add 3).div 4).add 3).div 4).add 3).div 4).blt 9223372036854775808) (alt (eqI (Int.ofNat ((((((((N.add 3).div 4).add 3).div 4).add 3).div 4).add 3).div 4)) (Int.ofNat 1)) (KV.int IntKind.i64 (Int.ofNat 0) = v) (cnd ((((((((((N.add 3).div 4).add 3).div 4).add 3).div 4).add 3).div 4).add 3).blt 9223372036854775808) (cnd (((((((((((N.add 3).div 4).add 3).div 4).add 3).div 4).add 3).div 4).add 3).div 4).blt 9223372036854775808) (alt (eqI (Int.ofNat ((((((((((N.add 3).div 4).add 3).div 4).add 3).div 4).add 3).div 4).add 3).div 4)) (Int.ofNat 1)) (KV.int IntKind.i64 (Int.ofNat 0) = v) (cnd ((((((((((((N.add 3).div 4).add 3).div 4).add 3).div 4).add 3).div 4).add 3).div 4).add 3).blt 9223372036854775808) (cnd (((((((((((((N.add 3).div 4).add 3).div 4).add 3).div 4).add 3).div 4).add 3).div 4).add 3).div 4).blt 9223372036854775808) (KV.int IntKind.i64 (Int.ofNat ((((((((((((N.add 3).div 4).add 3).div 4).add 3).div 4).add 3).div 4).add 3).div 4).add 3).div 4)) = v)))))))))))))))))) := by kernel_rfl
theorem run56_6_eq (N : Nat) (v : KV) : run56 6 N v = (cnd ((N.add 3).blt 9223372036854775808) (cnd (((N.add 3).div 4).blt 9223372036854775808) (alt (eqI (Int.ofNat ((N.add 3).div 4)) (Int.ofNat 1)) (KV.int IntKind.i64 (Int.ofNat 0) = v) (cnd ((((N.add 3).div 4).add 3).blt 9223372036854775808) (cnd (((((N.add 3).div 4).add 3).div 4).blt 9223372036854775808) (alt (eqI (Int.ofNat ((((N.add 3).div 4).add 3).div 4)) (Int.ofNat 1)) (KV.int IntKind.i64 (Int.ofNat 0) = v) (cnd ((((((N.add 3).div 4).add 3).div 4).add 3).blt 9223372036854775808) (cnd (((((((N.add 3).div 4).add 3).div 4).add 3).div 4).blt 9223372036854775808) (alt (eqI (Int.ofNat ((((((N.add 3).div 4).add 3).div 4).add 3).div 4)) (Int.ofNat 1)) (KV.int IntKind.i64 (Int.ofNat 0) = v) (cnd ((((((((N.add 3).div 4).add 3).div 4).add 3).div 4).add 3).blt 9223372036854775808) (cnd (((((((((N.add 3).div 4).add 3).div 4).add 3).div 4).add 3).div 4).blt 9223372036854775808) (alt (eqI (Int.ofNat ((((((((N.add 3).div 4).add 3).div 4).add 3).div 4).add 3).div 4)) (Int.ofNat 1)) (KV.int IntKind.i64 (Int.ofNat 0) = v) (cnd ((((((((((N.add 3).div 4).add 3).div 4).add 3).div 4).add 3).div 4).add 3).blt 9223372036854775808) (cnd (((((((((((N.add 3).div 4).add 3).div 4).add 3).div 4).add 3).div 4).add 3).div 4).blt 9223372036854775808) (alt (eqI (Int.ofNat ((((((((((N.add 3).div 4).add 3).div 4).add 3).div 4).add 3).div 4).add 3).div 4)) (Int.ofNat 1)) (KV.int IntKind.i64 (Int.ofNat 0) = v) (cnd ((((((((((((N.add 3).div 4).add 3).div 4).add 3).div 4).add 3).div 4).add 3).div 4).add 3).blt 9223372036854775808) (cnd (((((((((((((N.add 3).div 4).add 3).div 4).add 3).div 4).add 3).div 4).add 3).div 4).add 3).div 4).blt 9223372036854775808) (alt (eqI (Int.ofNat ((((((((((((N.add 3).div 4).add 3).div 4).add 3).div 4).add 3).div 4).add 3).div 4).add 3).div 4)) (Int.ofNat 1)) (KV.int IntKind.i64 (Int.ofNat 0) = v) (cnd ((((((((((((((N.add 3).div 4).add 3).div 4).add 3).div 4).add 3).div 4).add 3).div 4).add 3).div 4).add 3).blt 9223372036854775808) (cnd (((((((((((((((N.add 3).div 4).add 3).div 4).add 3).div 4).add 3).div 4).add 3).div 4).add 3).div 4).add 3).div 4).blt 9223372036854775808) (KV.int IntKind.i64 (Int.ofNat ((((((((((((((N.add 3).div 4).add 3).div 4).add 3).div 4).add 3).div 4).add 3).div 4).add 3).div 4).add 3).div 4)) = v))))))))))))))))))))) := by kernel_rfl
theorem run56_0 {N : Nat} (h : N ≤ 4294967296) (hn : C.no1 N 0) : run56 0 N (.int .i64 (.ofNat (C.cnt N 0))) := by
  rw [run56_0_eq]
  have e0 : C.cnt N 0 = (N + 3) / 4 := rfl
  generalize C.cnt N 0 = c0 at *
  simp only [alt_iff, cnd_iff, eqI_nat, ltI_nat, beqT, beqF, bltT, bltF, notT, notF, Nat.add_eq, Nat.mul_eq, div_e, ← e0]
  repeat' first | apply And.intro | intro _
  all_goals first | trivial | omega | (exfalso; omega) | (apply int_eq; omega)
theorem run56_1 {N : Nat} (h : N ≤ 4294967296) (hn : C.no1 N 1) : run56 1 N (.int .i64 (.ofNat (C.cnt N 1))) := by
  rw [run56_1_eq]
  have n0 := hn 0 (by omega)
  have e0 : C.cnt N 0 = (N + 3) / 4 := rfl
  have e1 : C.cnt N 1 = (C.cnt N 0 + 3) / 4 := rfl
  generalize C.cnt N 0 = c0 at *
  generalize C.cnt N 1 = c1 at *
  simp only [alt_iff, cnd_iff, eqI_nat, ltI_nat, beqT, beqF, bltT, bltF, notT, notF, Nat.add_eq, Nat.mul_eq, div_e, ← e0, ← e1]
  repeat' first | apply And.intro | intro _
  all_goals first | trivial | omega | (exfalso; omega) | (apply int_eq; omega)
theorem run56_2 {N : Nat} (h : N ≤ 4294967296) (hn : C.no1 N 2) : run56 2 N (.int .i64 (.ofNat (C.cnt N 2))) := by
  rw [run56_2_eq]
  have n0 := hn 0 (by omega)
  have n1 := hn 1 (by omega)
  have e0 : C.cnt N 0 = (N + 3) / 4 := rfl
  have e1 : C.cnt N 1 = (C.cnt N 0 + 3) / 4 := rfl
  have e2 : C.cnt N 2 = (C.cnt N 1 + 3) / 4 := rfl
  generalize C.cnt N 0 = c0 at *
  generalize C.cnt N 1 = c1 at *
  generalize C.cnt N 2 = c2 at *
  simp only [alt_iff, cnd_iff, eqI_nat, ltI_nat, beqT, beqF, bltT, bltF, notT, notF, Nat.add_eq, Nat.mul_eq, div_e, ← e0, ← e1, ← e2]
  repeat' first | apply And.intro | intro _
  all_goals first | trivial | omega | (exfalso; omega) | (apply int_eq; omega)
theorem run56_3 {N : Nat} (h : N ≤ 4294967296) (hn : C.no1 N 3) : run56 3 N (.int .i64 (.ofNat (C.cnt N 3))) := by
  rw [run56_3_eq]
  have n0 := hn 0 (by omega)
  have n1 := hn 1 (by omega)
  have n2 := hn 2 (by omega)
  have e0 : C.cnt N 0 = (N + 3) / 4 := rfl
  have e1 : C.cnt N 1 = (C.cnt N 0 + 3) / 4 := rfl
  have e2 : C.cnt N 2 = (C.cnt N 1 + 3) / 4 := rfl
  have e3 : C.cnt N 3 = (C.cnt N 2 + 3) / 4 := rfl
  generalize C.cnt N 0 = c0 at *
  generalize C.cnt N 1 = c1 at *
  generalize C.cnt N 2 = c2 at *
  generalize C.cnt N 3 = c3 at *
  simp only [alt_iff, cnd_iff, eqI_nat, ltI_nat, beqT, beqF, bltT, bltF, notT, notF, Nat.add_eq, Nat.mul_eq, div_e, ← e0, ← e1, ← e2, ← e3]
  repeat' first | apply And.intro | intro _
  all_goals first | trivial | omega | (exfalso; omega) | (apply int_eq; omega)
theorem run56_4 {N : Nat} (h : N ≤ 4294967296) (hn : C.no1 N 4) : run56 4 N (.int .i64 (.ofNat (C.cnt N 4))) := by
  rw [run56_4_eq]
  have n0 := hn 0 (by omega)
  have n1 := hn 1 (by omega)
  have n2 := hn 2 (by omega)
  have n3 := hn 3 (by omega)
  have e0 : C.cnt N 0 = (N + 3) / 4 := rfl
  have e1 : C.cnt N 1 = (C.cnt N 0 + 3) / 4 := rfl
  have e2 : C.cnt N 2 = (C.cnt N 1 + 3) / 4 := rfl
  have e3 : C.cnt N 3 = (C.cnt N 2 + 3) / 4 := rfl
  have e4 : C.cnt N 4 = (C.cnt N 3 + 3) / 4 := rfl
  generalize C.cnt N 0 = c0 at *
  generalize C.cnt N 1 = c1 at *
  generalize C.cnt N 2 = c2 at *
  generalize C.cnt N 3 = c3 at *
  generalize C.cnt N 4 = c4 at *
  simp only [alt_iff, cnd_iff, eqI_nat, ltI_nat, beqT, beqF, bltT, bltF, notT, notF, Nat.add_eq, Nat.mul_eq, div_e, ← e0, ← e1, ← e2, ← e3, ← e4]
  repeat' first | apply And.intro | intro _
  all_goals first | trivial | omega | (exfalso; omega) | (apply int_eq; omega)
theorem run56_5 {N : Nat} (h : N ≤ 4294967296) (hn : C.no1 N 5) : run56 5 N (.int .i64 (.ofNat (C.cnt N 5))) := by
  rw [run56_5_eq]
  have n0 := hn 0 (by omega)
  have n1 := hn 1 (by omega)
  have n2 := hn 2 (by omega)
  have n3 := hn 3 (by omega)
  have n4 := hn 4 (by omega)
  have e0 : C.cnt N 0 = (N + 3) / 4 := rfl
  have e1 : C.cnt N 1 = (C.cnt N 0 + 3) / 4 := rfl
  have e2 : C.cnt N 2 = (C.cnt N 1 + 3) / 4 := rfl
  have e3 : C.cnt N 3 = (C.cnt N 2 + 3) / 4 := rfl
  have e4 : C.cnt N 4 = (C.cnt N 3 + 3) / 4 := rfl
  have e5 : C.cnt N 5 = (C.cnt N 4 + 3) / 4 := rfl
  generalize C.cnt N 0 = c0 at *
  generalize C.cnt N 1 = c1 at *
  generalize C.cnt N 2 = c2 at *
  generalize C.cnt N 3 = c3 at *
  generalize C.cnt N 4 = c4 at *
  generalize C.cnt N 5 = c5 at *
  simp only [alt_iff, cnd_iff, eqI_nat, ltI_nat, beqT, beqF, bltT, bltF, notT, notF, Nat.add_eq, Nat.mul_eq, div_e, ← e0, ← e1, ← e2, ← e3, ← e4, ← e5]
  repeat' first | apply And.intro | intro _
  all_goals first | trivial | omega | (exfalso; omega) | (apply int_eq; omega)
theorem run56_6 {N : Nat} (h : N ≤ 4294967296) (hn : C.no1 N 6) : run56 6 N (.int .i64 (.ofNat (C.cnt N 6))) := by
  rw [run56_6_eq]
  have n0 := hn 0 (by omega)
  have n1 := hn 1 (by omega)
  have n2 := hn 2 (by omega)
  have n3 := hn 3 (by omega)
  have n4 := hn 4 (by omega)
  have n5 := hn 5 (by omega)
  have e0 : C.cnt N 0 = (N + 3) / 4 := rfl
  have e1 : C.cnt N 1 = (C.cnt N 0 + 3) / 4 := rfl
  have e2 : C.cnt N 2 = (C.cnt N 1 + 3) / 4 := rfl
  have e3 : C.cnt N 3 = (C.cnt N 2 + 3) / 4 := rfl
  have e4 : C.cnt N 4 = (C.cnt N 3 + 3) / 4 := rfl
  have e5 : C.cnt N 5 = (C.cnt N 4 + 3) / 4 := rfl
  have e6 : C.cnt N 6 = (C.cnt N 5 + 3) / 4 := rfl
  generalize C.cnt N 0 = c0 at *
  generalize C.cnt N 1 = c1 at *
  generalize C.cnt N 2 = c2 at *
  generalize C.cnt N 3 = c3 at *
  generalize C.cnt N 4 = c4 at *
  generalize C.cnt N 5 = c5 at *
  generalize C.cnt N 6 = c6 at *
  simp only [alt_iff, cnd_iff, eqI_nat, ltI_nat, beqT, beqF, bltT, bltF, notT, notF, Nat.add_eq, Nat.mul_eq, div_e, ← e0, ← e1, ← e2, ← e3, ← e4, ← e5, ← e6]
  repeat' first | apply And.intro | intro _
  all_goals first | trivial | omega | (exfalso; omega) | (apply int_eq; omega)
def s56 : KSpec := fun l K => lb2 l fun x y => natK x fun n => natK y fun l => chk (Nat.blt l 7) 310 ((n ≤ 4294967296 ∧ C.no1 n l) ∧ K (.int .i64 (.ofNat (C.cnt n l))))
theorem P56 : ∃ fn, Tryz.prog.funcs[56]? = some fn ∧ (fn.name == "runtime.NumGoroutine") = false ∧ fn.body.isNone = false := ⟨Tryz.f56, Tryz.func56, (fnsL.get Tryz.func56).1, by kernel_rfl⟩
theorem kcs56 : @KCS gO Tryz.prog 56 s56 := by
  refine @kcsQ gO EO0 okO0 56 s56 P56 fun l K hs => ?_
  obtain ⟨x, y, rfl, h1⟩ := lb2_s hs
  obtain ⟨n, rfl, h2⟩ := natK_s h1
  obtain ⟨l, rfl, h3⟩ := natK_s h2
  obtain ⟨h4, ⟨h5, h6⟩, h7⟩ := chk_inv h3
  rw [Nat.blt_eq] at h4
  refine ⟨40, _, _, h7, rfl, fun _ _ h => h, ?_⟩
  show run56 l n _
  match l, h4 with
  | 0, _ => exact run56_0 h5 h6
  | 1, _ => exact run56_1 h5 h6
  | 2, _ => exact run56_2 h5 h6
  | 3, _ => exact run56_3 h5 h6
  | 4, _ => exact run56_4 h5 h6
  | 5, _ => exact run56_5 h5 h6
  | 6, _ => exact run56_6 h5 h6
  | l + 7, h => omega
def E11 : KEnv := EO0.tab [(56, s56)]
theorem ok11 : @KOk gO E11 := @KOk.tab gO EO0 okO0 _ ⟨kcs56, trivial⟩
def run11 (N : Nat) (v : KV) : Prop := @callR gO E11 (@krun gO E11 22) 0 11 [.int .i64 (.ofNat N)] .e 0 0 fun r _ _ _ => r = v
set_option maxRecDepth 100000 in
theorem run11_eq (N : Nat) (v : KV) : run11 N v = ((N ≤ 4294967296 ∧ C.no1 N 0) ∧ alt (!eqI (Int.ofNat (C.cnt N 0)) (Int.ofNat 1)) ((N ≤ 4294967296 ∧ C.no1 N (Nat.add 0 1)) ∧ alt (!eqI (Int.ofNat (C.cnt N 1)) (Int.ofNat 1)) ((N ≤ 4294967296 ∧ C.no1 N ((Nat.add 0 1).add 1)) ∧ alt (!eqI (Int.ofNat (C.cnt N 2)) (Int.ofNat 1)) ((N ≤ 4294967296 ∧ C.no1 N (((Nat.add 0 1).add 1).add 1)) ∧ alt (!eqI (Int.ofNat (C.cnt N 3)) (Int.ofNat 1)) ((N ≤ 4294967296 ∧ C.no1 N ((((Nat.add 0 1).add 1).add 1).add 1)) ∧ alt (!eqI (Int.ofNat (C.cnt N 4)) (Int.ofNat 1)) ((N ≤ 4294967296 ∧ C.no1 N (((((Nat.add 0 1).add 1).add 1).add 1).add 1)) ∧ alt (!eqI (Int.ofNat (C.cnt N 5)) (Int.ofNat 1)) ((N ≤ 4294967296 ∧ C.no1 N ((((((Nat.add 0 1).add 1).add 1).add 1).add 1).add 1)) ∧ alt (!eqI (Int.ofNat (C.cnt N 6)) (Int.ofNat 1)) (BadN (310 : Nat)) (cnd ((Nat.mul 2 N).blt 9223372036854775808) ((N ≤ 4294967296 ∧ C.no1 N 0) ∧ cnd ((Nat.mul 2 (C.cnt N 0)).blt 9223372036854775808) (cnd (((Nat.mul 2 N).add (Nat.mul 2 (C.cnt N 0))).blt 9223372036854775808) ((N ≤ 4294967296 ∧ C.no1 N (Nat.add 0 1)) ∧ cnd ((Nat.mul 2 (C.cnt N 1)).blt 9223372036854775808) (cnd ((((Nat.mul 2 N).add (Nat.mul 2 (C.cnt N 0))).add (Nat.mul 2 (C.cnt N 1))).blt 9223372036854775808) ((N ≤ 4294967296 ∧ C.no1 N ((Nat.add 0 1).add 1)) ∧ cnd ((Nat.mul 2 (C.cnt N 2)).blt 9223372036854775808) (cnd (((((Nat.mul 2 N).add (Nat.mul 2 (C.cnt N 0))).add (Nat.mul 2 (C.cnt N 1))).add (Nat.mul 2 (C.cnt N 2))).blt 9223372036854775808) ((N ≤ 4294967296 ∧ C.no1 N (((Nat.add 0 1).add 1).add 1)) ∧ cnd ((Nat.mul 2 (C.cnt N 3)).blt 9223372036854775808) (cnd ((((((Nat.mul 2 N).add (Nat.mul 2 (C.cnt N 0))).add (Nat.mul 2 (C.cnt N 1))).add (Nat.mul 2 (C.cnt N 2))).add (Nat.mul 2 (C.cnt N 3))).blt 9223372036854775808) ((N ≤ 4294967296 ∧ C.no1 N ((((Nat.add 0 1).add 1).add 1).add 1)) ∧ cnd ((Nat.mul 2 (C.cnt N 4)).blt 9223372036854775808) (cnd (((((((Nat.mul 2 N).add (Nat.mul 2 (C.cnt N 0))).add (Nat.mul 2 (C.cnt N 1))).add (Nat.mul 2 (C.cnt N 2))).add (Nat.mul 2 (C.cnt N 3))).add (Nat.mul 2 (C.cnt N 4))).blt 9223372036854775808) ((N ≤ 4294967296 ∧ C.no1 N (((((Nat.add 0 1).add 1).add 1).add 1).add 1)) ∧ cnd ((Nat.mul 2 (C.cnt N 5)).blt 9223372036854775808) (cnd ((((((((Nat.mul 2 N).add (Nat.mul 2 (C.cnt N 0))).add (Nat.mul 2 (C.cnt N 1))).add (Nat.mul 2 (C.cnt N 2))).add (Nat.mul 2 (C.cnt N 3))).add (Nat.mul 2 (C.cnt N 4))).add (Nat.mul 2 (C.cnt N 5))).blt 9223372036854775808) ((N ≤ 4294967296 ∧ C.no1 N ((((((Nat.add 0 1).add 1).add 1).add 1).add 1).add 1)) ∧ cnd ((Nat.mul 2 (C.cnt N 6)).blt 9223372036854775808) (cnd (((((((((Nat.mul 2 N).add (Nat.mul 2 (C.cnt N 0))).add (Nat.mul 2 (C.cnt N 1))).add (Nat.mul 2 (C.cnt N 2))).add (Nat.mul 2 (C.cnt N 3))).add (Nat.mul 2 (C.cnt N 4))).add (Nat.mul 2 (C.cnt N 5))).add (Nat.mul 2 (C.cnt N 6))).blt 9223372036854775808) (KV.int IntKind.i64 (Int.ofNat ((((((((Nat.mul 2 N).add (Nat.mul 2 (C.cnt N 0))).add (Nat.mul 2 (C.cnt N 1))).add (Nat.mul 2 (C.cnt N 2))).add (Nat.mul 2 (C.cnt N 3))).add (Nat.mul 2 (C.cnt N 4))).add (Nat.mul 2 (C.cnt N 5))).add (Nat.mul 2 (C.cnt N 6)))) = v))))))))))))))))) (cnd ((Nat.mul 2 N).blt 9223372036854775808) ((N ≤ 4294967296 ∧ C.no1 N 0) ∧ cnd ((Nat.mul 2 (C.cnt N 0)).blt 9223372036854775808) (cnd (((Nat.mul 2 N).add (Nat.mul 2 (C.cnt N 0))).blt 9223372036854775808) ((N ≤ 4294967296 ∧ C.no1 N (Nat.add 0 1)) ∧ cnd ((Nat.mul 2 (C.cnt N 1)).blt 9223372036854775808) (cnd ((((Nat.mul 2 N).add (Nat.mul 2 (C.cnt N 0))).add (Nat.mul 2 (C.cnt N 1))).blt 9223372036854775808) ((N ≤ 4294967296 ∧ C.no1 N ((Nat.add 0 1).add 1)) ∧ cnd ((Nat.mul 2 (C.cnt N 2)).blt 9223372036854775808) (cnd (((((Nat.mul 2 N).add (Nat.mul 2 (C.cnt N 0))).add (Nat.mul 2 (C.cnt N 1))).add (Nat.mul 2 (C.cnt N 2))).blt 9223372036854775808) ((N ≤ 4294967296 ∧ C.no1 N (((Nat.add 0 1).add 1).add 1)) ∧ cnd ((Nat.mul 2 (C.cnt N 3)).blt 9223372036854775808) (cnd ((((((Nat.mul 2 N).add (Nat.mul 2 (C.cnt N 0))).add (Nat.mul 2 (C.cnt N 1))).add (Nat.mul 2 (C.cnt N 2))).add (Nat.mul 2 (C.cnt N 3))).blt 9223372036854775808) ((N ≤ 4294967296 ∧ C.no1 N ((((Nat.add 0 1).add 1).add 1).add 1)) ∧ cnd ((Nat.mul 2 (C.cnt N 4)).blt 9223372036854775808) (cnd (((((((Nat.mul 2 N).add (Nat.mul 2 (C.cnt N 0))).add (Nat.mul 2 (C.cnt N 1))).add (Nat.mul 2 (C.cnt N 2))).add (Nat.mul 2 (C.cnt N 3))).add (Nat.mul 2 (C.cnt N 4))).blt 9223372036854775808) ((N ≤ 4294967296 ∧ C.no1 N (((((Nat.add 0 1).add 1).add 1).add 1).add 1)) ∧ cnd ((Nat.mul 2 (C.cnt N 5)).blt 9223372036854775808) (cnd ((((((((Nat.mul 2 N).add (Nat.mul 2 (C.cnt N 0))).add (Nat.mul 2 (C.cnt N 1))).add (Nat.mul 2 (C.cnt N 2))).add (Nat.mul 2 (C.cnt N 3))).add (Nat.mul 2 (C.cnt N 4))).add (Nat.mul 2 (C.cnt N 5))).blt 9223372036854775808) (KV.int IntKind.i64 (Int.ofNat (((((((Nat.mul 2 N).add (Nat.mul 2 (C.cnt N 0))).add (Nat.mul 2 (C.cnt N 1))).add (Nat.mul 2 (C.cnt N 2))).add (Nat.mul 2 (C.cnt N 3))).add (Nat.mul 2 (C.cnt N 4))).add (Nat.mul 2 (C.cnt N 5)))) = v))))))))))))))) (cnd ((Nat.mul 2 N).blt 9223372036854775808) ((N ≤ 4294967296 ∧ C.no1 N 0) ∧ cnd ((Nat.mul 2 (C.cnt N 0)).blt 9223372036854775808) (cnd (((Nat.mul 2 N).add (Nat.mul 2 (C.cnt N 0))).blt 9223372036854775808) ((N ≤ 4294967296 ∧ C.no1 N (Nat.add 0 1)) ∧ cnd ((Nat.mul 2 (C.cnt N 1)).blt 9223372036854775808) (cnd ((((Nat.mul 2 N).add (Nat.mul 2 (C.cnt N 0))).add (Nat.mul 2 (C.cnt N 1))).blt 9223372036854775808) ((N ≤ 4294967296 ∧ C.no1 N ((Nat.add 0 1).add 1)) ∧ cnd ((Nat.mul 2 (C.cnt N 2)).blt 9223372036854775808) (cnd (((((Nat.mul 2 N).add (Nat.mul 2 (C.cnt N 0))).add (Nat.mul 2 (C.cnt N 1))).add (Nat.mul 2 (C.cnt N 2))).blt 9223372036854775808) ((N ≤ 4294967296 ∧ C.no1 N (((Nat.add 0 1).add 1).add 1)) ∧ cnd ((Nat.mul 2 (C.cnt N 3)).blt 9223372036854775808) (cnd ((((((Nat.mul 2 N).add (Nat.mul 2 (C.cnt N 0))).add (Nat.mul 2 (C.cnt N 1))).add (Nat.mul 2 (C.cnt N 2))).add (Nat.mul 2 (C.cnt N 3))).blt 9223372036854775808) ((N ≤ 4294967296 ∧ C.no1 N ((((Nat.add 0 1).add 1).add 1).add 1)) ∧ cnd ((Nat.mul 2 (C.cnt N 4)).blt 9223372036854775808) (cnd (((((((Nat.mul 2 N).add (Nat.mul 2 (C.cnt N 0))).add (Nat.mul 2 (C.cnt N 1))).add (Nat.mul 2 (C.cnt N 2))).add (Nat.mul 2 (C.cnt N 3))).add (Nat.mul 2 (C.cnt N 4))).blt 9223372036854775808) (KV.int IntKind.i64 (Int.ofNat ((((((Nat.mul 2 N).add (Nat.mul 2 (C.cnt N 0))).add (Nat.mul 2 (C.cnt N 1))).add (Nat.mul 2 (C.cnt N 2))).add (Nat.mul 2 (C.cnt N 3))).add (Nat.mul 2 (C.cnt N 4)))) = v))))))))))))) (cnd ((Nat.mul 2 N).blt 9223372036854775808) ((N ≤ 4294967296 ∧ C.no1 N 0) ∧ cnd ((Nat.mul 2 (C.cnt N 0)).blt 9223372036854775808) (cnd (((Nat.mul 2 N).add (Nat.mul 2 (C.cnt N 0))).blt 9223372036854775808) ((N ≤ 4294967296 ∧ C.no1 N (Nat.add 0 1)) ∧ cnd ((Nat.mul 2 (C.cnt N 1)).blt 9223372036854775808) (cnd ((((Nat.mul 2 N).add (Nat.mul 2 (C.cnt N 0))).add (Nat.mul 2 (C.cnt N 1))).blt 9223372036854775808) ((N ≤ 4294967296 ∧ C.no1 N ((Nat.add 0 1).add 1)) ∧ cnd ((Nat.mul 2 (C.cnt N 2)).blt 9223372036854775808) (cnd (((((Nat.mul 2 N).add (Nat.mul 2 (C.cnt N 0))).add (Nat.mul 2 (C.cnt N 1))).add (Nat.mul 2 (C.cnt N 2))).blt 9223372036854775808) ((N ≤ 4294967296 ∧ C.no1 N (((Nat.add 0 1).add 1).add 1)) ∧ cnd ((Nat.mul 2 (C.cnt N 3)).blt 9223372036854775808) (cnd ((((((Nat.mul 2 N).add (Nat.mul 2 (C.cnt N 0))).add (Nat.mul 2 (C.cnt N 1))).add (Nat.mul 2 (C.cnt N 2))).add (Nat.mul 2 (C.cnt N 3))).blt 9223372036854775808) (KV.int IntKind.i64 (Int.ofNat (((((Nat.mul 2 N).add (Nat.mul 2 (C.cnt N 0))).add (Nat.mul 2 (C.cnt N 1))).add (Nat.mul 2 (C.cnt N 2))).add (Nat.mul 2 (C.cnt N 3)))) = v))))))))))) (cnd ((Nat.mul 2 N).blt 9223372036854775808) ((N ≤ 4294967296 ∧ C.no1 N 0) ∧ cnd ((Nat.mul 2 (C.cnt N 0)).blt 9223372036854775808) (cnd (((Nat.mul 2 N).add (Nat.mul 2 (C.cnt N 0))).blt 9223372036854775808) ((N ≤ 4294967296 ∧ C.no1 N (Nat.add 0 1)) ∧ cnd ((Nat.mul 2 (C.cnt N 1)).blt 9223372036854775808) (cnd ((((Nat.mul 2 N).add (Nat.mul 2 (C.cnt N 0))).add (Nat.mul 2 (C.cnt N 1))).blt 9223372036854775808) ((N ≤ 4294967296 ∧ C.no1 N ((Nat.add 0 1).add 1)) ∧ cnd ((Nat.mul 2 (C.cnt N 2)).blt 9223372036854775808) (cnd (((((Nat.mul 2 N).add (Nat.mul 2 (C.cnt N 0))).add (Nat.mul 2 (C.cnt N 1))).add (Nat.mul 2 (C.cnt N 2))).blt 9223372036854775808) (KV.int IntKind.i64 (Int.ofNat ((((Nat.mul 2 N).add (Nat.mul 2 (C.cnt N 0))).add (Nat.mul 2 (C.cnt N 1))).add (Nat.mul 2 (C.cnt N 2)))) = v))))))))) (cnd ((Nat.mul 2 N).blt 9223372036854775808) ((N ≤ 4294967296 ∧ C.no1 N 0) ∧ cnd ((Nat.mul 2 (C.cnt N 0)).blt 9223372036854775808) (cnd (((Nat.mul 2 N).add (Nat.mul 2 (C.cnt N 0))).blt 9223372036854775808) ((N ≤ 4294967296 ∧ C.no1 N (Nat.add 0 1)) ∧ cnd ((Nat.mul 2 (C.cnt N 1)).blt 9223372036854775808) (cnd ((((Nat.mul 2 N).add (Nat.mul 2 (C.cnt N 0))).add (Nat.mul 2 (C.cnt N 1))).blt 9223372036854775808) (KV.int IntKind.i64 (Int.ofNat (((Nat.mul 2 N).add (Nat.mul 2 (C.cnt N 0))).add (Nat.mul 2 (C.cnt N 1)))) = v))))))) (cnd ((Nat.mul 2 N).blt 9223372036854775808) ((N ≤ 4294967296 ∧ C.no1 N 0) ∧ cnd ((Nat.mul 2 (C.cnt N 0)).blt 9223372036854775808) (cnd (((Nat.mul 2 N).add (Nat.mul 2 (C.cnt N 0))).blt 9223372036854775808) (KV.int IntKind.i64 (Int.ofNat ((Nat.mul 2 N).add (Nat.mul 2 (C.cnt N 0)))) = v))))) := by kernel_rfl
theorem no1_s {n l : Nat} (h : C.no1 n l) (h1 : C.cnt n l ≠ 1) : C.no1 n (l + 1) := fun j hj => by
  rcases Nat.lt_or_ge j l with h2 | h2
  · exact h j h2
  · obtain rfl : j = l := by omega
    exact h1
theorem no1_0 (N : Nat) : C.no1 N 0 := fun j hj => by omega
section
attribute [local irreducible] C.no1
set_option maxRecDepth 100000 in
theorem run11_g {N : Nat} (h1 : 1 ≤ N) (h2 : N ≤ 4096) : run11 N (.int .i64 (.ofNat (C.sec N))) := by
  rw [run11_eq]
  have hN : N ≤ 4294967296 := by omega
  have z0 : C.no1 N 0 := no1_0 N
  have z1 := fun h : ¬ C.cnt N 0 = 1 => no1_s z0 h
  have z2 := fun (g : ¬ C.cnt N 0 = 1) (h : ¬ C.cnt N 1 = 1) => no1_s (z1 g) h
  have z3 := fun (g : ¬ C.cnt N 0 = 1) (h : ¬ C.cnt N 1 = 1) (i : ¬ C.cnt N 2 = 1) => no1_s (z2 g h) i
  have z4 := fun (g : ¬ C.cnt N 0 = 1) (h : ¬ C.cnt N 1 = 1) (i : ¬ C.cnt N 2 = 1) (j : ¬ C.cnt N 3 = 1) => no1_s (z3 g h i) j
  have z5 := fun (g : ¬ C.cnt N 0 = 1) (h : ¬ C.cnt N 1 = 1) (i : ¬ C.cnt N 2 = 1) (j : ¬ C.cnt N 3 = 1) (k : ¬ C.cnt N 4 = 1) => no1_s (z4 g h i j) k
  have hs : C.sec N = 2 * N + C.sl 5 (C.cnt N 0) := rfl
  have a1 : 4 * C.cnt N 0 ≤ N + 3 ∧ N ≤ 4 * C.cnt N 0 := ab_s N
  have a2 : 4 * C.cnt N 1 ≤ C.cnt N 0 + 3 ∧ C.cnt N 0 ≤ 4 * C.cnt N 1 := ab_s _
  have a3 : 4 * C.cnt N 2 ≤ C.cnt N 1 + 3 ∧ C.cnt N 1 ≤ 4 * C.cnt N 2 := ab_s _
  have a4 : 4 * C.cnt N 3 ≤ C.cnt N 2 + 3 ∧ C.cnt N 2 ≤ 4 * C.cnt N 3 := ab_s _
  have a5 : 4 * C.cnt N 4 ≤ C.cnt N 3 + 3 ∧ C.cnt N 3 ≤ 4 * C.cnt N 4 := ab_s _
  have a6 : 4 * C.cnt N 5 ≤ C.cnt N 4 + 3 ∧ C.cnt N 4 ≤ 4 * C.cnt N 5 := ab_s _
  have p1 := sl_1' 4 (C.cnt N 0)
  have q1 : ¬ C.cnt N 0 = 1 → C.sl 5 (C.cnt N 0) = 2 * C.cnt N 0 + C.sl 4 (C.cnt N 1) := sl_n' 4 (C.cnt N 0)
  have p2 := sl_1' 3 (C.cnt N 1)
  have q2 : ¬ C.cnt N 1 = 1 → C.sl 4 (C.cnt N 1) = 2 * C.cnt N 1 + C.sl 3 (C.cnt N 2) := sl_n' 3 (C.cnt N 1)
  have p3 := sl_1' 2 (C.cnt N 2)
  have q3 : ¬ C.cnt N 2 = 1 → C.sl 3 (C.cnt N 2) = 2 * C.cnt N 2 + C.sl 2 (C.cnt N 3) := sl_n' 2 (C.cnt N 2)
  have p4 := sl_1' 1 (C.cnt N 3)
  have q4 : ¬ C.cnt N 3 = 1 → C.sl 2 (C.cnt N 3) = 2 * C.cnt N 3 + C.sl 1 (C.cnt N 4) := sl_n' 1 (C.cnt N 3)
  have p5 := sl_1' 0 (C.cnt N 4)
  have q5 : ¬ C.cnt N 4 = 1 → C.sl 1 (C.cnt N 4) = 2 * C.cnt N 4 + C.sl 0 (C.cnt N 5) := sl_n' 0 (C.cnt N 4)
  have p6 := sl_0 (C.cnt N 5)
  generalize C.sec N = sN at *
  simp only [alt_iff, cnd_iff, eqI_nat, ltI_nat, beqT, beqF, bltT, bltF, notT, notF, Nat.add_eq, Nat.mul_eq, Nat.zero_add, Nat.reduceAdd]
  generalize C.cnt N 0 = c1 at *
  generalize C.cnt N 1 = c2 at *
  generalize C.cnt N 2 = c3 at *
  generalize C.cnt N 3 = c4 at *
  generalize C.cnt N 4 = c5 at *
  generalize C.cnt N 5 = c6 at *
  generalize C.sl 5 c1 = s1 at *
  generalize C.sl 4 c2 = s2 at *
  generalize C.sl 3 c3 = s3 at *
  generalize C.sl 2 c4 = s4 at *
  generalize C.sl 1 c5 = s5 at *
  generalize C.sl 0 c6 = s6 at *
  repeat' first | apply And.intro | intro _
  all_goals first | trivial | omega | (exfalso; omega) | assumption | (exact z1 (by assumption)) | (exact z2 (by assumption) (by assumption)) | (exact z3 (by assumption) (by assumption) (by assumption)) | (exact z4 (by assumption) (by assumption) (by assumption) (by assumption)) | (exact z5 (by assumption) (by assumption) (by assumption) (by assumption) (by assumption)) | (apply int_eq; omega)
end
def s11 : KSpec := fun l K => la1 l fun x => natK x fun n => (1 ≤ n ∧ n ≤ 4096) ∧ K (.int .i64 (.ofNat (C.sec n)))
theorem P11 : ∃ fn, Tryz.prog.funcs[11]? = some fn ∧ (fn.name == "runtime.NumGoroutine") = false ∧ fn.body.isNone = false := ⟨Tryz.f11, Tryz.func11, (fnsL.get Tryz.func11).1, by kernel_rfl⟩
theorem kcs11 : @KCS gO Tryz.prog 11 s11 := by
  refine @kcsQ gO E11 ok11 11 s11 P11 fun l K hs => ?_
  obtain ⟨x, rfl, h1⟩ := la1_s hs
  obtain ⟨n, rfl, h2, h3⟩ := natK_s h1
  exact ⟨22, _, _, h3, rfl, fun _ _ h => h, run11_g h2.1 h2.2⟩
end
end Go.K
set_option linter.unusedVariables false
set_option linter.unusedSimpArgs false
namespace Go.K
open Go.Ab Go.RowKit Go.Y Go.Proofs
noncomputable section
attribute [local irreducible] krun callR
def dkT (k : Nat) : KV := .tup (.cons (dk k) (.cons (.int .i64 (.ofNat 0)) .nl))
def new4 (k : Nat) : Prop := callR E0 (krun E0 1000) 0 4 [.int .i64 (.ofNat k)] .e 0 0 fun r zm _ _ => tK (fzB zm 30 r (dkT k))
theorem new4_1 : new4 1 := of_eq_true (by kernel_rfl)
theorem new4_2 : new4 2 := of_eq_true (by kernel_rfl)
theorem new4_3 : new4 3 := of_eq_true (by kernel_rfl)
theorem new4_4 : new4 4 := of_eq_true (by kernel_rfl)
theorem new4_5 : new4 5 := of_eq_true (by kernel_rfl)
theorem new4_6 : new4 6 := of_eq_true (by kernel_rfl)
theorem new4_7 : new4 7 := of_eq_true (by kernel_rfl)
theorem new4_8 : new4 8 := of_eq_true (by kernel_rfl)
theorem new4_9 : new4 9 := of_eq_true (by kernel_rfl)
theorem new4_10 : new4 10 := of_eq_true (by kernel_rfl)
theorem new4_11 : new4 11 := of_eq_true (by kernel_rfl)
theorem new4_12 : new4 12 := of_eq_true (by kernel_rfl)
theorem new4_13 : new4 13 := of_eq_true (by kernel_rfl)
theorem new4_14 : new4 14 := of_eq_true (by kernel_rfl)
theorem new4_15 : new4 15 := of_eq_true (by kernel_rfl)
theorem new4_16 : new4 16 := of_eq_true (by kernel_rfl)
theorem new4_17 : new4 17 := of_eq_true (by kernel_rfl)
theorem new4_18 : new4 18 := of_eq_true (by kernel_rfl)
theorem new4_19 : new4 19 := of_eq_true (by kernel_rfl)
theorem new4_20 : new4 20 := of_eq_true (by kernel_rfl)
theorem new4_21 : new4 21 := of_eq_true (by kernel_rfl)
theorem new4_22 : new4 22 := of_eq_true (by kernel_rfl)
theorem new4_23 : new4 23 := of_eq_true (by kernel_rfl)
theorem new4_24 : new4 24 := of_eq_true (by kernel_rfl)
theorem new4_25 : new4 25 := of_eq_true (by kernel_rfl)
theorem new4_26 : new4 26 := of_eq_true (by kernel_rfl)
theorem new4_27 : new4 27 := of_eq_true (by kernel_rfl)
theorem new4_28 : new4 28 := of_eq_true (by kernel_rfl)
theorem new4_29 : new4 29 := of_eq_true (by kernel_rfl)
theorem new4_30 : new4 30 := of_eq_true (by kernel_rfl)
theorem new4_31 : new4 31 := of_eq_true (by kernel_rfl)
theorem new4_32 : new4 32 := of_eq_true (by kernel_rfl)
theorem new4_33 : new4 33 := of_eq_true (by kernel_rfl)
theorem new4_34 : new4 34 := of_eq_true (by kernel_rfl)
theorem new4_35 : new4 35 := of_eq_true (by kernel_rfl)
theorem new4_36 : new4 36 := of_eq_true (by kernel_rfl)
theorem new4_37 : new4 37 := of_eq_true (by kernel_rfl)
theorem new4_38 : new4 38 := of_eq_true (by kernel_rfl)
theorem new4_39 : new4 39 := of_eq_true (by kernel_rfl)
theorem new4_40 : new4 40 := of_eq_true (by kernel_rfl)
theorem new4_41 : new4 41 := of_eq_true (by kernel_rfl)
theorem new4_42 : new4 42 := of_eq_true (by kernel_rfl)
theorem new4_43 : new4 43 := of_eq_true (by kernel_rfl)
theorem new4_44 : new4 44 := of_eq_true (by kernel_rfl)
theorem new4_45 : new4 45 := of_eq_true (by kernel_rfl)
theorem new4_46 : new4 46 := of_eq_true (by kernel_rfl)
theorem new4_47 : new4 47 := of_eq_true (by kernel_rfl)
theorem new4_48 : new4 48 := of_eq_true (by kernel_rfl)
theorem new4_49 : new4 49 := of_eq_true (by kernel_rfl)
theorem new4_50 : new4 50 := of_eq_true (by kernel_rfl)
theorem new4_51 : new4 51 := of_eq_true (by kernel_rfl)
theorem new4_52 : new4 52 := of_eq_true (by kernel_rfl)
theorem new4_53 : new4 53 := of_eq_true (by kernel_rfl)
theorem new4_54 : new4 54 := of_eq_true (by kernel_rfl)
theorem new4_55 : new4 55 := of_eq_true (by kernel_rfl)
theorem new4_56 : new4 56 := of_eq_true (by kernel_rfl)
theorem new4_57 : new4 57 := of_eq_true (by kernel_rfl)
theorem new4_58 : new4 58 := of_eq_true (by kernel_rfl)
theorem new4_59 : new4 59 := of_eq_true (by kernel_rfl)
theorem new4_60 : new4 60 := of_eq_true (by kernel_rfl)
theorem new4_s (k : Nat) (h1 : 1 ≤ k) (h2 : k ≤ 60) : new4 k := by
  match k, h1, h2 with
  | 0, h, _ => omega
  | 1, _, _ => exact new4_1
  | 2, _, _ => exact new4_2
  | 3, _, _ => exact new4_3
  | 4, _, _ => exact new4_4
  | 5, _, _ => exact new4_5
  | 6, _, _ => exact new4_6
  | 7, _, _ => exact new4_7
  | 8, _, _ => exact new4_8
  | 9, _, _ => exact new4_9
  | 10, _, _ => exact new4_10
  | 11, _, _ => exact new4_11
  | 12, _, _ => exact new4_12
  | 13, _, _ => exact new4_13
  | 14, _, _ => exact new4_14
  | 15, _, _ => exact new4_15
  | 16, _, _ => exact new4_16
  | 17, _, _ => exact new4_17
  | 18, _, _ => exact new4_18
  | 19, _, _ => exact new4_19
  | 20, _, _ => exact new4_20
  | 21, _, _ => exact new4_21
  | 22, _, _ => exact new4_22
  | 23, _, _ => exact new4_23
  | 24, _, _ => exact new4_24
  | 25, _, _ => exact new4_25
  | 26, _, _ => exact new4_26
  | 27, _, _ => exact new4_27
  | 28, _, _ => exact new4_28
  | 29, _, _ => exact new4_29
  | 30, _, _ => exact new4_30
  | 31, _, _ => exact new4_31
  | 32, _, _ => exact new4_32
  | 33, _, _ => exact new4_33
  | 34, _, _ => exact new4_34
  | 35, _, _ => exact new4_35
  | 36, _, _ => exact new4_36
  | 37, _, _ => exact new4_37
  | 38, _, _ => exact new4_38
  | 39, _, _ => exact new4_39
  | 40, _, _ => exact new4_40
  | 41, _, _ => exact new4_41
  | 42, _, _ => exact new4_42
  | 43, _, _ => exact new4_43
  | 44, _, _ => exact new4_44
  | 45, _, _ => exact new4_45
  | 46, _, _ => exact new4_46
  | 47, _, _ => exact new4_47
  | 48, _, _ => exact new4_48
  | 49, _, _ => exact new4_49
  | 50, _, _ => exact new4_50
  | 51, _, _ => exact new4_51
  | 52, _, _ => exact new4_52
  | 53, _, _ => exact new4_53
  | 54, _, _ => exact new4_54
  | 55, _, _ => exact new4_55
  | 56, _, _ => exact new4_56
  | 57, _, _ => exact new4_57
  | 58, _, _ => exact new4_58
  | 59, _, _ => exact new4_59
  | 60, _, _ => exact new4_60
  | k + 61, _, h => omega
def s4 : KSpec := fun l K => la1 l fun x => natK x fun k => (1 ≤ k ∧ k ≤ 60) ∧ K (dkT k)
theorem P4 : ∃ fn, Tryz.prog.funcs[4]? = some fn ∧ (fn.name == "runtime.NumGoroutine") = false ∧ fn.body.isNone = false := ⟨Tryz.f4, Tryz.func4, (fnsL.get Tryz.func4).1, by kernel_rfl⟩
theorem kcs4 : KCS Tryz.prog 4 s4 := by
  refine kcsF P4 fun l K hs => ?_
  obtain ⟨x, rfl, h1⟩ := la1_s hs
  obtain ⟨n, rfl, h2, h3⟩ := natK_s h1
  exact ⟨E0, ok0, rfl, 1000, 30, _, h3, new4_s n h2.1 h2.2⟩
end
end Go.K
