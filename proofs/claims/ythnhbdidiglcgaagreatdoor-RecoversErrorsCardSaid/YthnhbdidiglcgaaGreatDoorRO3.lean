/- Contracts over open numbers: volumes that do not fit, the definition's sectors. No condition. Contracts over open numbers: new disks. No condition. Volumes that fit their disk, for each number of blocks: closed runs of what RecoversErrors calls. No condition. RecoversErrors: Lost, where blocks and disk belong together: closed runs. No condition. RecoversErrors: Survey, where blocks and disk belong together: closed runs. No condition. -/
import Derived.Test.YthnhbdidiglcgaaGreatDoorKL0
set_option linter.unusedVariables false
set_option linter.unusedSimpArgs false
namespace Go.K
open Go.Ab Go.RowKit Go.Y Go.Proofs
noncomputable section
attribute [local irreducible] krun callR
def E169b : KEnv := EO0.tab [(89, s89b)]
def E169g : KEnv := EO0.tab [(89, s89g)]
theorem ok169b : @KOk gO E169b := @KOk.tab gO EO0 okO0 _ ⟨kcs89b, trivial⟩
theorem ok169g : @KOk gO E169g := @KOk.tab gO EO0 okO0 _ ⟨kcs89g, trivial⟩
def run169b (z : Int) (k : Nat) (v : KV) : Prop := @callR gO E169b (@krun gO E169b 32) 0 169 [.int .i64 z, dk k] .e 0 0 fun r _ _ _ => r = v
def run169g (N k : Nat) (v : KV) : Prop := @callR gO E169g (@krun gO E169g 32) 0 169 [.int .i64 (.ofNat N), dk k] .e 0 0 fun r _ _ _ => r = v
theorem run169b_eq (z : Int) (k : Nat) (v : KV) : run169b z k v = ((z < Int.ofNat 1 ∨ Int.ofNat 4096 < z) ∧ (((KV.int IntKind.i64 z).cons (((KV.int IntKind.i64 (Int.ofNat k)).cons ((KV.int IntKind.i64 (Int.ofNat 0)).cons ((KV.ro true true Shape.sc 0 1 (KV.ar 1 KV.nilp ((KV.ref true (Shape.arr 64 Shape.sc) (KV.ar 64 KV.nilp KV.te)).tn KV.te KV.te KV.te KV.te))).cons KV.nl))).cons KV.nl)).cons ((KV.int IntKind.i64 (Int.ofNat 1)).cons KV.nl)).tup = v) := by kernel_rfl
theorem run169g_eq (N k : Nat) (v : KV) : run169g N k v = ((1 ≤ N ∧ N ≤ 4096) ∧ alt (!eqI (Int.ofNat k) (Int.ofNat (C.sec N))) ((((KV.int IntKind.i64 (Int.ofNat N)).cons (((KV.int IntKind.i64 (Int.ofNat k)).cons ((KV.int IntKind.i64 (Int.ofNat 0)).cons ((KV.ro true true Shape.sc 0 1 (KV.ar 1 KV.nilp ((KV.ref true (Shape.arr 64 Shape.sc) (KV.ar 64 KV.nilp KV.te)).tn KV.te KV.te KV.te KV.te))).cons KV.nl))).cons KV.nl)).cons ((KV.int IntKind.i64 (Int.ofNat 1)).cons KV.nl)).tup = v) ((((KV.int IntKind.i64 (Int.ofNat N)).cons (((KV.int IntKind.i64 (Int.ofNat k)).cons ((KV.int IntKind.i64 (Int.ofNat 0)).cons ((KV.ro true true Shape.sc 0 1 (KV.ar 1 KV.nilp ((KV.ref true (Shape.arr 64 Shape.sc) (KV.ar 64 KV.nilp KV.te)).tn KV.te KV.te KV.te KV.te))).cons KV.nl))).cons KV.nl)).cons ((KV.int IntKind.i64 (Int.ofNat 0)).cons KV.nl)).tup = v)) := by kernel_rfl
/-- Blocks and sectors that do not belong together. -/
def C.bad (z : Int) (k : Nat) : Prop := z < 1 ∨ 4096 < z ∨ ∃ N : Nat, z = .ofNat N ∧ C.sec N ≠ k
def e1 : KV := .tup (.cons .unk (.cons (.int .i64 (.ofNat 1)) .nl))
def s169 : KSpec := fun l K => lb2 l fun x d => onInt (fun kk z => chk (ikEq kk .i64) 311 (onCons (fun a b => chk (kvb b dkR) 313 (natK a fun k => C.bad z k ∧ K e1)) (BadN 314) d)) (BadN 312) x
theorem P169 : ∃ fn, Tryz.prog.funcs[169]? = some fn ∧ (fn.name == "runtime.NumGoroutine") = false ∧ fn.body.isNone = false := ⟨Tryz.f169, Tryz.func169, (fnsL.get Tryz.func169).1, by kernel_rfl⟩
theorem imp_e1 (a : KV) : Imp (KV.tup (.cons a (.cons (.int .i64 (.ofNat 1)) .nl))).v e1.v := Imp.tupL (Imp.consL (fun _ _ _ => trivial) fun _ _ h => h)
theorem kcs169 : @KCS gO Tryz.prog 169 s169 := by
  refine @kcsE gO Tryz.prog 169 s169 P169 fun l K hs => ?_
  obtain ⟨x, d, rfl, h1⟩ := lb2_s hs
  rcases onInt_inv h1 with ⟨kk, z, rfl, h2⟩ | ⟨_, h2⟩
  · obtain ⟨h3, h4⟩ := chk_inv h2
    obtain rfl := ikEq_eq h3
    rcases onCons_inv h4 with ⟨a, b, rfl, h5⟩ | ⟨_, h5⟩
    · obtain ⟨h6, h7⟩ := chk_inv h5
      obtain rfl := kvb_s h6
      obtain ⟨k, rfl, h8, h9⟩ := natK_s h7
      have hb : (z < 1 ∨ 4096 < z) ∨ ∃ N : Nat, z = .ofNat N ∧ C.sec N ≠ k ∧ 1 ≤ N ∧ N ≤ 4096 := by
        rcases h8 with h | h | ⟨N, rfl, h⟩
        · exact .inl (.inl h)
        · exact .inl (.inr h)
        · by_cases q : 1 ≤ N ∧ N ≤ 4096
          · exact .inr ⟨N, rfl, h, q.1, q.2⟩
          · left
            have : Int.ofNat N = (N : Int) := rfl
            omega
      rcases hb with hb | ⟨N, rfl, hb, q1, q2⟩
      · refine ⟨E169b, ok169b, rfl, 32, _, _, h9, rfl, imp_e1 (.cons (.int .i64 z) (.cons (dk k) .nl)), ?_⟩
        show run169b z k _
        rw [run169b_eq]
        exact ⟨hb, rfl⟩
      · refine ⟨E169g, ok169g, rfl, 32, _, _, h9, rfl, imp_e1 (.cons (.int .i64 (.ofNat N)) (.cons (dk k) .nl)), ?_⟩
        show run169g N k _
        rw [run169g_eq]
        refine ⟨⟨q1, q2⟩, alt_iff.2 ⟨fun _ => rfl, fun h => ?_⟩⟩
        rw [notF, eqI_nat, beqT] at h
        exact absurd h.symm hb
    · exact h5.elim
  · exact h2.elim
/-! ### The definition's -/
theorem div_e (a b : Nat) : Nat.div a b = a / b := rfl
def run62 (l N : Nat) (v : KV) : Prop := @callR gO EO0 (@krun gO EO0 40) 0 62 [.int .i64 (.ofNat N), .int .i64 (.ofNat l)] .e 0 0 fun r _ _ _ => r = v
theorem run56_0_eq (N : Nat) (v : KV) : run62 0 N v = (cnd ((N.add 3).blt 9223372036854775808) (cnd (((N.add 3).div 4).blt 9223372036854775808) (KV.int IntKind.i64 (Int.ofNat ((N.add 3).div 4)) = v))) := by kernel_rfl
theorem run56_1_eq (N : Nat) (v : KV) : run62 1 N v = (cnd ((N.add 3).blt 9223372036854775808) (cnd (((N.add 3).div 4).blt 9223372036854775808) (alt (eqI (Int.ofNat ((N.add 3).div 4)) (Int.ofNat 1)) (KV.int IntKind.i64 (Int.ofNat 0) = v) (cnd ((((N.add 3).div 4).add 3).blt 9223372036854775808) (cnd (((((N.add 3).div 4).add 3).div 4).blt 9223372036854775808) (KV.int IntKind.i64 (Int.ofNat ((((N.add 3).div 4).add 3).div 4)) = v)))))) := by kernel_rfl
theorem run56_2_eq (N : Nat) (v : KV) : run62 2 N v = (cnd ((N.add 3).blt 9223372036854775808) (cnd (((N.add 3).div 4).blt 9223372036854775808) (alt (eqI (Int.ofNat ((N.add 3).div 4)) (Int.ofNat 1)) (KV.int IntKind.i64 (Int.ofNat 0) = v) (cnd ((((N.add 3).div 4).add 3).blt 9223372036854775808) (cnd (((((N.add 3).div 4).add 3).div 4).blt 9223372036854775808) (alt (eqI (Int.ofNat ((((N.add 3).div 4).add 3).div 4)) (Int.ofNat 1)) (KV.int IntKind.i64 (Int.ofNat 0) = v) (cnd ((((((N.add 3).div 4).add 3).div 4).add 3).blt 9223372036854775808) (cnd (((((((N.add 3).div 4).add 3).div 4).add 3).div 4).blt 9223372036854775808) (KV.int IntKind.i64 (Int.ofNat ((((((N.add 3).div 4).add 3).div 4).add 3).div 4)) = v))))))))) := by kernel_rfl
theorem run56_3_eq (N : Nat) (v : KV) : run62 3 N v = (cnd ((N.add 3).blt 9223372036854775808) (cnd (((N.add 3).div 4).blt 9223372036854775808) (alt (eqI (Int.ofNat ((N.add 3).div 4)) (Int.ofNat 1)) (KV.int IntKind.i64 (Int.ofNat 0) = v) (cnd ((((N.add 3).div 4).add 3).blt 9223372036854775808) (cnd (((((N.add 3).div 4).add 3).div 4).blt 9223372036854775808) (alt (eqI (Int.ofNat ((((N.add 3).div 4).add 3).div 4)) (Int.ofNat 1)) (KV.int IntKind.i64 (Int.ofNat 0) = v) (cnd ((((((N.add 3).div 4).add 3).div 4).add 3).blt 9223372036854775808) (cnd (((((((N.add 3).div 4).add 3).div 4).add 3).div 4).blt 9223372036854775808) (alt (eqI (Int.ofNat ((((((N.add 3).div 4).add 3).div 4).add 3).div 4)) (Int.ofNat 1)) (KV.int IntKind.i64 (Int.ofNat 0) = v) (cnd ((((((((N.add 3).div 4).add 3).div 4).add 3).div 4).add 3).blt 9223372036854775808) (cnd (((((((((N.add 3).div 4).add 3).div 4).add 3).div 4).add 3).div 4).blt 9223372036854775808) (KV.int IntKind.i64 (Int.ofNat ((((((((N.add 3).div 4).add 3).div 4).add 3).div 4).add 3).div 4)) = v)))))))))))) := by kernel_rfl
theorem run56_4_eq (N : Nat) (v : KV) : run62 4 N v = (cnd ((N.add 3).blt 9223372036854775808) (cnd (((N.add 3).div 4).blt 9223372036854775808) (alt (eqI (Int.ofNat ((N.add 3).div 4)) (Int.ofNat 1)) (KV.int IntKind.i64 (Int.ofNat 0) = v) (cnd ((((N.add 3).div 4).add 3).blt 9223372036854775808) (cnd (((((N.add 3).div 4).add 3).div 4).blt 9223372036854775808) (alt (eqI (Int.ofNat ((((N.add 3).div 4).add 3).div 4)) (Int.ofNat 1)) (KV.int IntKind.i64 (Int.ofNat 0) = v) (cnd ((((((N.add 3).div 4).add 3).div 4).add 3).blt 9223372036854775808) (cnd (((((((N.add 3).div 4).add 3).div 4).add 3).div 4).blt 9223372036854775808) (alt (eqI (Int.ofNat ((((((N.add 3).div 4).add 3).div 4).add 3).div 4)) (Int.ofNat 1)) (KV.int IntKind.i64 (Int.ofNat 0) = v) (cnd ((((((((N.add 3).div 4).add 3).div 4).add 3).div 4).add 3).blt 9223372036854775808) (cnd (((((((((N.add 3).div 4).add 3).div 4).add 3).div 4).add 3).div 4).blt 9223372036854775808) (alt (eqI (Int.ofNat ((((((((N.add 3).div 4).add 3).div 4).add 3).div 4).add 3).div 4)) (Int.ofNat 1)) (KV.int IntKind.i64 (Int.ofNat 0) = v) (cnd ((((((((((N.add 3).div 4).add 3).div 4).add 3).div 4).add 3).div 4).add 3).blt 9223372036854775808) (cnd (((((((((((N.add 3).div 4).add 3).div 4).add 3).div 4).add 3).div 4).add 3).div 4).blt 9223372036854775808) (KV.int IntKind.i64 (Int.ofNat ((((((((((N.add 3).div 4).add 3).div 4).add 3).div 4).add 3).div 4).add 3).div 4)) = v))))))))))))))) := by kernel_rfl
theorem run56_5_eq (N : Nat) (v : KV) : run62 5 N v = (cnd ((N.add 3).blt 9223372036854775808) (cnd (((N.add 3).div 4).blt 9223372036854775808) (alt (eqI (Int.ofNat ((N.add 3).div 4)) (Int.ofNat 1)) (KV.int IntKind.i64 (Int.ofNat 0) = v) (cnd ((((N.add 3).div 4).add 3).blt 9223372036854775808) (cnd (((((N.add 3).div 4).add 3).div 4).blt 9223372036854775808) (alt (eqI (Int.ofNat ((((N.add 3).div 4).add 3).div 4)) (Int.ofNat 1)) (KV.int IntKind.i64 (Int.ofNat 0) = v) (cnd ((((((N.add 3).div 4).add 3).div 4).add 3).blt 9223372036854775808) (cnd (((((((N.add 3).div 4).add 3).div 4).add 3).div 4).blt 9223372036854775808) (alt (eqI (Int.ofNat ((((((N.add 3).div 4).add 3).div 4).add 3).div 4)) (Int.ofNat 1)) (KV.int IntKind.i64 (Int.ofNat 0) = v) (cnd ((((((((N.add 3).div 4).add 3).div 4).add 3).div 4).add 3).blt 9223372036854775808) (cnd (((((((((N.add 3).div 4).add 3).div 4).add 3).div 4).add 3).div 4).blt 9223372036854775808) (alt (eqI (Int.ofNat ((((((((N.add 3).div 4).add 3).div 4).add 3).div 4).add 3).div 4)) (Int.ofNat 1)) (KV.int IntKind.i64 (Int.ofNat 0) = v) (cnd ((((((((((N.add 3).div 4).add 3).div 4).add 3).div 4).add 3).div 4).add 3).blt 9223372036854775808) (cnd (((((((((((N.add 3).div 4).add 3).div 4).add 3).div 4).add 3).div 4).add 3).div 4).blt 9223372036854775808) (alt (eqI (Int.ofNat ((((((((((N.add 3).div 4).add 3).div 4).add 3).div 4).add 3).div 4).add 3).div 4)) (Int.ofNat 1)) (KV.int IntKind.i64 (Int.ofNat 0) = v) (cnd ((((((((((((N.add 3).div 4).add 3).div 4).add 3).div 4).add 3).div 4).add 3).div 4).add 3).blt 9223372036854775808) (cnd (((((((((((((N.add 3).div 4).add 3).div 4).add 3).div 4).add 3).div 4).add 3).div 4).add 3).div 4).blt 9223372036854775808) (KV.int IntKind.i64 (Int.ofNat ((((((((((((N.add 3).div 4).add 3).div 4).add 3).div 4).add 3).div 4).add 3).div 4).add 3).div 4)) = v)))))))))))))))))) := by kernel_rfl
theorem run56_6_eq (N : Nat) (v : KV) : run62 6 N v = (cnd ((N.add 3).blt 9223372036854775808) (cnd (((N.add 3).div 4).blt 9223372036854775808) (alt (eqI (Int.ofNat ((N.add 3).div 4)) (Int.ofNat 1)) (KV.int IntKind.i64 (Int.ofNat 0) = v) (cnd ((((N.add 3).div 4).add 3).blt 9223372036854775808) (cnd (((((N.add 3).div 4).add 3).div 4).blt 9223372036854775808) (alt (eqI (Int.ofNat ((((N.add 3).div 4).add 3).div 4)) (Int.ofNat 1)) (KV.int IntKind.i64 (Int.ofNat 0) = v) (cnd ((((((N.add 3).div 4).add 3).div 4).add 3).blt 9223372036854775808) (cnd (((((((N.add 3).div 4).add 3).div 4).add 3).div 4).blt 9223372036854775808) (alt (eqI (Int.ofNat ((((((N.add 3).div 4).add 3).div 4).add 3).div 4)) (Int.ofNat 1)) (KV.int IntKind.i64 (Int.ofNat 0) = v) (cnd ((((((((N.add 3).div 4).add 3).div 4).add 3).div 4).add 3).blt 9223372036854775808) (cnd (((((((((N.add 3).div 4).add 3).div 4).add 3).div 4).add 3).div 4).blt 9223372036854775808) (alt (eqI (Int.ofNat ((((((((N.add 3).div 4).add 3).div 4).add 3).div 4).add 3).div 4)) (Int.ofNat 1)) (KV.int IntKind.i64 (Int.ofNat 0) = v) (cnd ((((((((((N.add 3).div 4).add 3).div 4).add 3).div 4).add 3).div 4).add 3).blt 9223372036854775808) (cnd (((((((((((N.add 3).div 4).add 3).div 4).add 3).div 4).add 3).div 4).add 3).div 4).blt 9223372036854775808) (alt (eqI (Int.ofNat ((((((((((N.add 3).div 4).add 3).div 4).add 3).div 4).add 3).div 4).add 3).div 4)) (Int.ofNat 1)) (KV.int IntKind.i64 (Int.ofNat 0) = v) (cnd ((((((((((((N.add 3).div 4).add 3).div 4).add 3).div 4).add 3).div 4).add 3).div 4).add 3).blt 9223372036854775808) (cnd (((((((((((((N.add 3).div 4).add 3).div 4).add 3).div 4).add 3).div 4).add 3).div 4).add 3).div 4).blt 9223372036854775808) (alt (eqI (Int.ofNat ((((((((((((N.add 3).div 4).add 3).div 4).add 3).div 4).add 3).div 4).add 3).div 4).add 3).div 4)) (Int.ofNat 1)) (KV.int IntKind.i64 (Int.ofNat 0) = v) (cnd ((((((((((((((N.add 3).div 4).add 3).div 4).add 3).div 4).add 3).div 4).add 3).div 4).add 3).div 4).add 3).blt 9223372036854775808) (cnd (((((((((((((((N.add 3).div 4).add 3).div 4).add 3).div 4).add 3).div 4).add 3).div 4).add 3).div 4).add 3).div 4).blt 9223372036854775808) (KV.int IntKind.i64 (Int.ofNat ((((((((((((((N.add 3).div 4).add 3).div 4).add 3).div 4).add 3).div 4).add 3).div 4).add 3).div 4).add 3).div 4)) = v))))))))))))))))))))) := by kernel_rfl
theorem run56_0 {N : Nat} (h : N ≤ 4294967296) (hn : C.no1 N 0) : run62 0 N (.int .i64 (.ofNat (C.cnt N 0))) := by
  rw [run56_0_eq]
  have e0 : C.cnt N 0 = (N + 3) / 4 := rfl
  generalize C.cnt N 0 = c0 at *
  simp only [alt_iff, cnd_iff, eqI_nat, ltI_nat, beqT, beqF, bltT, bltF, notT, notF, Nat.add_eq, Nat.mul_eq, div_e, ← e0]
  repeat' first | apply And.intro | intro _
  all_goals first | trivial | omega | (exfalso; omega) | (apply int_eq; omega)
theorem run56_1 {N : Nat} (h : N ≤ 4294967296) (hn : C.no1 N 1) : run62 1 N (.int .i64 (.ofNat (C.cnt N 1))) := by
  rw [run56_1_eq]
  have n0 := hn 0 (by omega)
  have e0 : C.cnt N 0 = (N + 3) / 4 := rfl
  have e1 : C.cnt N 1 = (C.cnt N 0 + 3) / 4 := rfl
  generalize C.cnt N 0 = c0 at *
  generalize C.cnt N 1 = c1 at *
  simp only [alt_iff, cnd_iff, eqI_nat, ltI_nat, beqT, beqF, bltT, bltF, notT, notF, Nat.add_eq, Nat.mul_eq, div_e, ← e0, ← e1]
  repeat' first | apply And.intro | intro _
  all_goals first | trivial | omega | (exfalso; omega) | (apply int_eq; omega)
theorem run56_2 {N : Nat} (h : N ≤ 4294967296) (hn : C.no1 N 2) : run62 2 N (.int .i64 (.ofNat (C.cnt N 2))) := by
  rw [run56_2_eq]
  have n0 := hn 0 (by omega)
  have n1 := hn 1 (by omega)
  have e0 : C.cnt N 0 = (N + 3) / 4 := rfl
  have e1 : C.cnt N 1 = (C.cnt N 0 + 3) / 4 := rfl
  have e2 : C.cnt N 2 = (C.cnt N 1 + 3) / 4 := rfl
  generalize C.cnt N 0 = c0 at *
  generalize C.cnt N 1 = c1 at *
  generalize C.cnt N 2 = c2 at *
  simp only [alt_iff, cnd_iff, eqI_nat, ltI_nat, beqT, beqF, bltT, bltF, notT, notF, Nat.add_eq, Nat.mul_eq, div_e, ← e0, ← e1, ← e2]
  repeat' first | apply And.intro | intro _
  all_goals first | trivial | omega | (exfalso; omega) | (apply int_eq; omega)
theorem run56_3 {N : Nat} (h : N ≤ 4294967296) (hn : C.no1 N 3) : run62 3 N (.int .i64 (.ofNat (C.cnt N 3))) := by
  rw [run56_3_eq]
  have n0 := hn 0 (by omega)
  have n1 := hn 1 (by omega)
  have n2 := hn 2 (by omega)
  have e0 : C.cnt N 0 = (N + 3) / 4 := rfl
  have e1 : C.cnt N 1 = (C.cnt N 0 + 3) / 4 := rfl
  have e2 : C.cnt N 2 = (C.cnt N 1 + 3) / 4 := rfl
  have e3 : C.cnt N 3 = (C.cnt N 2 + 3) / 4 := rfl
  generalize C.cnt N 0 = c0 at *
  generalize C.cnt N 1 = c1 at *
  generalize C.cnt N 2 = c2 at *
  generalize C.cnt N 3 = c3 at *
  simp only [alt_iff, cnd_iff, eqI_nat, ltI_nat, beqT, beqF, bltT, bltF, notT, notF, Nat.add_eq, Nat.mul_eq, div_e, ← e0, ← e1, ← e2, ← e3]
  repeat' first | apply And.intro | intro _
  all_goals first | trivial | omega | (exfalso; omega) | (apply int_eq; omega)
theorem run56_4 {N : Nat} (h : N ≤ 4294967296) (hn : C.no1 N 4) : run62 4 N (.int .i64 (.ofNat (C.cnt N 4))) := by
  rw [run56_4_eq]
  have n0 := hn 0 (by omega)
  have n1 := hn 1 (by omega)
  have n2 := hn 2 (by omega)
  have n3 := hn 3 (by omega)
  have e0 : C.cnt N 0 = (N + 3) / 4 := rfl
  have e1 : C.cnt N 1 = (C.cnt N 0 + 3) / 4 := rfl
  have e2 : C.cnt N 2 = (C.cnt N 1 + 3) / 4 := rfl
  have e3 : C.cnt N 3 = (C.cnt N 2 + 3) / 4 := rfl
  have e4 : C.cnt N 4 = (C.cnt N 3 + 3) / 4 := rfl
  generalize C.cnt N 0 = c0 at *
  generalize C.cnt N 1 = c1 at *
  generalize C.cnt N 2 = c2 at *
  generalize C.cnt N 3 = c3 at *
  generalize C.cnt N 4 = c4 at *
  simp only [alt_iff, cnd_iff, eqI_nat, ltI_nat, beqT, beqF, bltT, bltF, notT, notF, Nat.add_eq, Nat.mul_eq, div_e, ← e0, ← e1, ← e2, ← e3, ← e4]
  repeat' first | apply And.intro | intro _
  all_goals first | trivial | omega | (exfalso; omega) | (apply int_eq; omega)
theorem run56_5 {N : Nat} (h : N ≤ 4294967296) (hn : C.no1 N 5) : run62 5 N (.int .i64 (.ofNat (C.cnt N 5))) := by
  rw [run56_5_eq]
  have n0 := hn 0 (by omega)
  have n1 := hn 1 (by omega)
  have n2 := hn 2 (by omega)
  have n3 := hn 3 (by omega)
  have n4 := hn 4 (by omega)
  have e0 : C.cnt N 0 = (N + 3) / 4 := rfl
  have e1 : C.cnt N 1 = (C.cnt N 0 + 3) / 4 := rfl
  have e2 : C.cnt N 2 = (C.cnt N 1 + 3) / 4 := rfl
  have e3 : C.cnt N 3 = (C.cnt N 2 + 3) / 4 := rfl
  have e4 : C.cnt N 4 = (C.cnt N 3 + 3) / 4 := rfl
  have e5 : C.cnt N 5 = (C.cnt N 4 + 3) / 4 := rfl
  generalize C.cnt N 0 = c0 at *
  generalize C.cnt N 1 = c1 at *
  generalize C.cnt N 2 = c2 at *
  generalize C.cnt N 3 = c3 at *
  generalize C.cnt N 4 = c4 at *
  generalize C.cnt N 5 = c5 at *
  simp only [alt_iff, cnd_iff, eqI_nat, ltI_nat, beqT, beqF, bltT, bltF, notT, notF, Nat.add_eq, Nat.mul_eq, div_e, ← e0, ← e1, ← e2, ← e3, ← e4, ← e5]
  repeat' first | apply And.intro | intro _
  all_goals first | trivial | omega | (exfalso; omega) | (apply int_eq; omega)
theorem run56_6 {N : Nat} (h : N ≤ 4294967296) (hn : C.no1 N 6) : run62 6 N (.int .i64 (.ofNat (C.cnt N 6))) := by
  rw [run56_6_eq]
  have n0 := hn 0 (by omega)
  have n1 := hn 1 (by omega)
  have n2 := hn 2 (by omega)
  have n3 := hn 3 (by omega)
  have n4 := hn 4 (by omega)
  have n5 := hn 5 (by omega)
  have e0 : C.cnt N 0 = (N + 3) / 4 := rfl
  have e1 : C.cnt N 1 = (C.cnt N 0 + 3) / 4 := rfl
  have e2 : C.cnt N 2 = (C.cnt N 1 + 3) / 4 := rfl
  have e3 : C.cnt N 3 = (C.cnt N 2 + 3) / 4 := rfl
  have e4 : C.cnt N 4 = (C.cnt N 3 + 3) / 4 := rfl
  have e5 : C.cnt N 5 = (C.cnt N 4 + 3) / 4 := rfl
  have e6 : C.cnt N 6 = (C.cnt N 5 + 3) / 4 := rfl
  generalize C.cnt N 0 = c0 at *
  generalize C.cnt N 1 = c1 at *
  generalize C.cnt N 2 = c2 at *
  generalize C.cnt N 3 = c3 at *
  generalize C.cnt N 4 = c4 at *
  generalize C.cnt N 5 = c5 at *
  generalize C.cnt N 6 = c6 at *
  simp only [alt_iff, cnd_iff, eqI_nat, ltI_nat, beqT, beqF, bltT, bltF, notT, notF, Nat.add_eq, Nat.mul_eq, div_e, ← e0, ← e1, ← e2, ← e3, ← e4, ← e5, ← e6]
  repeat' first | apply And.intro | intro _
  all_goals first | trivial | omega | (exfalso; omega) | (apply int_eq; omega)
def s62 : KSpec := fun l K => lb2 l fun x y => natK x fun n => natK y fun l => chk (Nat.blt l 7) 310 ((n ≤ 4294967296 ∧ C.no1 n l) ∧ K (.int .i64 (.ofNat (C.cnt n l))))
theorem P62 : ∃ fn, Tryz.prog.funcs[62]? = some fn ∧ (fn.name == "runtime.NumGoroutine") = false ∧ fn.body.isNone = false := ⟨Tryz.f62, Tryz.func62, (fnsL.get Tryz.func62).1, by kernel_rfl⟩
theorem kcs62 : @KCS gO Tryz.prog 62 s62 := by
  refine @kcsQ gO EO0 okO0 62 s62 P62 fun l K hs => ?_
  obtain ⟨x, y, rfl, h1⟩ := lb2_s hs
  obtain ⟨n, rfl, h2⟩ := natK_s h1
  obtain ⟨l, rfl, h3⟩ := natK_s h2
  obtain ⟨h4, ⟨h5, h6⟩, h7⟩ := chk_inv h3
  rw [Nat.blt_eq] at h4
  refine ⟨40, _, _, h7, rfl, fun _ _ h => h, ?_⟩
  show run62 l n _
  match l, h4 with
  | 0, _ => exact run56_0 h5 h6
  | 1, _ => exact run56_1 h5 h6
  | 2, _ => exact run56_2 h5 h6
  | 3, _ => exact run56_3 h5 h6
  | 4, _ => exact run56_4 h5 h6
  | 5, _ => exact run56_5 h5 h6
  | 6, _ => exact run56_6 h5 h6
  | l + 7, h => omega
def E37 : KEnv := EO0.tab [(62, s62)]
theorem ok37 : @KOk gO E37 := @KOk.tab gO EO0 okO0 _ ⟨kcs62, trivial⟩
def run37 (N : Nat) (v : KV) : Prop := @callR gO E37 (@krun gO E37 22) 0 37 [.int .i64 (.ofNat N)] .e 0 0 fun r _ _ _ => r = v
set_option maxRecDepth 100000 in
theorem run37_eq (N : Nat) (v : KV) : run37 N v = ((N ≤ 4294967296 ∧ C.no1 N 0) ∧ alt (!eqI (Int.ofNat (C.cnt N 0)) (Int.ofNat 1)) ((N ≤ 4294967296 ∧ C.no1 N (Nat.add 0 1)) ∧ alt (!eqI (Int.ofNat (C.cnt N 1)) (Int.ofNat 1)) ((N ≤ 4294967296 ∧ C.no1 N ((Nat.add 0 1).add 1)) ∧ alt (!eqI (Int.ofNat (C.cnt N 2)) (Int.ofNat 1)) ((N ≤ 4294967296 ∧ C.no1 N (((Nat.add 0 1).add 1).add 1)) ∧ alt (!eqI (Int.ofNat (C.cnt N 3)) (Int.ofNat 1)) ((N ≤ 4294967296 ∧ C.no1 N ((((Nat.add 0 1).add 1).add 1).add 1)) ∧ alt (!eqI (Int.ofNat (C.cnt N 4)) (Int.ofNat 1)) ((N ≤ 4294967296 ∧ C.no1 N (((((Nat.add 0 1).add 1).add 1).add 1).add 1)) ∧ alt (!eqI (Int.ofNat (C.cnt N 5)) (Int.ofNat 1)) ((N ≤ 4294967296 ∧ C.no1 N ((((((Nat.add 0 1).add 1).add 1).add 1).add 1).add 1)) ∧ alt (!eqI (Int.ofNat (C.cnt N 6)) (Int.ofNat 1)) (BadN (310 : Nat)) (cnd ((Nat.mul 2 N).blt 9223372036854775808) ((N ≤ 4294967296 ∧ C.no1 N 0) ∧ cnd ((Nat.mul 2 (C.cnt N 0)).blt 9223372036854775808) (cnd (((Nat.mul 2 N).add (Nat.mul 2 (C.cnt N 0))).blt 9223372036854775808) ((N ≤ 4294967296 ∧ C.no1 N (Nat.add 0 1)) ∧ cnd ((Nat.mul 2 (C.cnt N 1)).blt 9223372036854775808) (cnd ((((Nat.mul 2 N).add (Nat.mul 2 (C.cnt N 0))).add (Nat.mul 2 (C.cnt N 1))).blt 9223372036854775808) ((N ≤ 4294967296 ∧ C.no1 N ((Nat.add 0 1).add 1)) ∧ cnd ((Nat.mul 2 (C.cnt N 2)).blt 9223372036854775808) (cnd (((((Nat.mul 2 N).add (Nat.mul 2 (C.cnt N 0))).add (Nat.mul 2 (C.cnt N 1))).add (Nat.mul 2 (C.cnt N 2))).blt 9223372036854775808) ((N ≤ 4294967296 ∧ C.no1 N (((Nat.add 0 1).add 1).add 1)) ∧ cnd ((Nat.mul 2 (C.cnt N 3)).blt 9223372036854775808) (cnd ((((((Nat.mul 2 N).add (Nat.mul 2 (C.cnt N 0))).add (Nat.mul 2 (C.cnt N 1))).add (Nat.mul 2 (C.cnt N 2))).add (Nat.mul 2 (C.cnt N 3))).blt 9223372036854775808) ((N ≤ 4294967296 ∧ C.no1 N ((((Nat.add 0 1).add 1).add 1).add 1)) ∧ cnd ((Nat.mul 2 (C.cnt N 4)).blt 9223372036854775808) (cnd (((((((Nat.mul 2 N).add (Nat.mul 2 (C.cnt N 0))).add (Nat.mul 2 (C.cnt N 1))).add (Nat.mul 2 (C.cnt N 2))).add (Nat.mul 2 (C.cnt N 3))).add (Nat.mul 2 (C.cnt N 4))).blt 9223372036854775808) ((N ≤ 4294967296 ∧ C.no1 N (((((Nat.add 0 1).add 1).add 1).add 1).add 1)) ∧ cnd ((Nat.mul 2 (C.cnt N 5)).blt 9223372036854775808) (cnd ((((((((Nat.mul 2 N).add (Nat.mul 2 (C.cnt N 0))).add (Nat.mul 2 (C.cnt N 1))).add (Nat.mul 2 (C.cnt N 2))).add (Nat.mul 2 (C.cnt N 3))).add (Nat.mul 2 (C.cnt N 4))).add (Nat.mul 2 (C.cnt N 5))).blt 9223372036854775808) ((N ≤ 4294967296 ∧ C.no1 N ((((((Nat.add 0 1).add 1).add 1).add 1).add 1).add 1)) ∧ cnd ((Nat.mul 2 (C.cnt N 6)).blt 9223372036854775808) (cnd (((((((((Nat.mul 2 N).add (Nat.mul 2 (C.cnt N 0))).add (Nat.mul 2 (C.cnt N 1))).add (Nat.mul 2 (C.cnt N 2))).add (Nat.mul 2 (C.cnt N 3))).add (Nat.mul 2 (C.cnt N 4))).add (Nat.mul 2 (C.cnt N 5))).add (Nat.mul 2 (C.cnt N 6))).blt 9223372036854775808) (KV.int IntKind.i64 (Int.ofNat ((((((((Nat.mul 2 N).add (Nat.mul 2 (C.cnt N 0))).add (Nat.mul 2 (C.cnt N 1))).add (Nat.mul 2 (C.cnt N 2))).add (Nat.mul 2 (C.cnt N 3))).add (Nat.mul 2 (C.cnt N 4))).add (Nat.mul 2 (C.cnt N 5))).add (Nat.mul 2 (C.cnt N 6)))) = v))))))))))))))))) (cnd ((Nat.mul 2 N).blt 9223372036854775808) ((N ≤ 4294967296 ∧ C.no1 N 0) ∧ cnd ((Nat.mul 2 (C.cnt N 0)).blt 9223372036854775808) (cnd (((Nat.mul 2 N).add (Nat.mul 2 (C.cnt N 0))).blt 9223372036854775808) ((N ≤ 4294967296 ∧ C.no1 N (Nat.add 0 1)) ∧ cnd ((Nat.mul 2 (C.cnt N 1)).blt 9223372036854775808) (cnd ((((Nat.mul 2 N).add (Nat.mul 2 (C.cnt N 0))).add (Nat.mul 2 (C.cnt N 1))).blt 9223372036854775808) ((N ≤ 4294967296 ∧ C.no1 N ((Nat.add 0 1).add 1)) ∧ cnd ((Nat.mul 2 (C.cnt N 2)).blt 9223372036854775808) (cnd (((((Nat.mul 2 N).add (Nat.mul 2 (C.cnt N 0))).add (Nat.mul 2 (C.cnt N 1))).add (Nat.mul 2 (C.cnt N 2))).blt 9223372036854775808) ((N ≤ 4294967296 ∧ C.no1 N (((Nat.add 0 1).add 1).add 1)) ∧ cnd ((Nat.mul 2 (C.cnt N 3)).blt 9223372036854775808) (cnd ((((((Nat.mul 2 N).add (Nat.mul 2 (C.cnt N 0))).add (Nat.mul 2 (C.cnt N 1))).add (Nat.mul 2 (C.cnt N 2))).add (Nat.mul 2 (C.cnt N 3))).blt 9223372036854775808) ((N ≤ 4294967296 ∧ C.no1 N ((((Nat.add 0 1).add 1).add 1).add 1)) ∧ cnd ((Nat.mul 2 (C.cnt N 4)).blt 9223372036854775808) (cnd (((((((Nat.mul 2 N).add (Nat.mul 2 (C.cnt N 0))).add (Nat.mul 2 (C.cnt N 1))).add (Nat.mul 2 (C.cnt N 2))).add (Nat.mul 2 (C.cnt N 3))).add (Nat.mul 2 (C.cnt N 4))).blt 9223372036854775808) ((N ≤ 4294967296 ∧ C.no1 N (((((Nat.add 0 1).add 1).add 1).add 1).add 1)) ∧ cnd ((Nat.mul 2 (C.cnt N 5)).blt 9223372036854775808) (cnd ((((((((Nat.mul 2 N).add (Nat.mul 2 (C.cnt N 0))).add (Nat.mul 2 (C.cnt N 1))).add (Nat.mul 2 (C.cnt N 2))).add (Nat.mul 2 (C.cnt N 3))).add (Nat.mul 2 (C.cnt N 4))).add (Nat.mul 2 (C.cnt N 5))).blt 9223372036854775808) (KV.int IntKind.i64 (Int.ofNat (((((((Nat.mul 2 N).add (Nat.mul 2 (C.cnt N 0))).add (Nat.mul 2 (C.cnt N 1))).add (Nat.mul 2 (C.cnt N 2))).add (Nat.mul 2 (C.cnt N 3))).add (Nat.mul 2 (C.cnt N 4))).add (Nat.mul 2 (C.cnt N 5)))) = v))))))))))))))) (cnd ((Nat.mul 2 N).blt 9223372036854775808) ((N ≤ 4294967296 ∧ C.no1 N 0) ∧ cnd ((Nat.mul 2 (C.cnt N 0)).blt 9223372036854775808) (cnd (((Nat.mul 2 N).add (Nat.mul 2 (C.cnt N 0))).blt 9223372036854775808) ((N ≤ 4294967296 ∧ C.no1 N (Nat.add 0 1)) ∧ cnd ((Nat.mul 2 (C.cnt N 1)).blt 9223372036854775808) (cnd ((((Nat.mul 2 N).add (Nat.mul 2 (C.cnt N 0))).add (Nat.mul 2 (C.cnt N 1))).blt 9223372036854775808) ((N ≤ 4294967296 ∧ C.no1 N ((Nat.add 0 1).add 1)) ∧ cnd ((Nat.mul 2 (C.cnt N 2)).blt 9223372036854775808) (cnd (((((Nat.mul 2 N).add (Nat.mul 2 (C.cnt N 0))).add (Nat.mul 2 (C.cnt N 1))).add (Nat.mul 2 (C.cnt N 2))).blt 9223372036854775808) ((N ≤ 4294967296 ∧ C.no1 N (((Nat.add 0 1).add 1).add 1)) ∧ cnd ((Nat.mul 2 (C.cnt N 3)).blt 9223372036854775808) (cnd ((((((Nat.mul 2 N).add (Nat.mul 2 (C.cnt N 0))).add (Nat.mul 2 (C.cnt N 1))).add (Nat.mul 2 (C.cnt N 2))).add (Nat.mul 2 (C.cnt N 3))).blt 9223372036854775808) ((N ≤ 4294967296 ∧ C.no1 N ((((Nat.add 0 1).add 1).add 1).add 1)) ∧ cnd ((Nat.mul 2 (C.cnt N 4)).blt 9223372036854775808) (cnd (((((((Nat.mul 2 N).add (Nat.mul 2 (C.cnt N 0))).add (Nat.mul 2 (C.cnt N 1))).add (Nat.mul 2 (C.cnt N 2))).add (Nat.mul 2 (C.cnt N 3))).add (Nat.mul 2 (C.cnt N 4))).blt 9223372036854775808) (KV.int IntKind.i64 (Int.ofNat ((((((Nat.mul 2 N).add (Nat.mul 2 (C.cnt N 0))).add (Nat.mul 2 (C.cnt N 1))).add (Nat.mul 2 (C.cnt N 2))).add (Nat.mul 2 (C.cnt N 3))).add (Nat.mul 2 (C.cnt N 4)))) = v))))))))))))) (cnd ((Nat.mul 2 N).blt 9223372036854775808) ((N ≤ 4294967296 ∧ C.no1 N 0) ∧ cnd ((Nat.mul 2 (C.cnt N 0)).blt 9223372036854775808) (cnd (((Nat.mul 2 N).add (Nat.mul 2 (C.cnt N 0))).blt 9223372036854775808) ((N ≤ 4294967296 ∧ C.no1 N (Nat.add 0 1)) ∧ cnd ((Nat.mul 2 (C.cnt N 1)).blt 9223372036854775808) (cnd ((((Nat.mul 2 N).add (Nat.mul 2 (C.cnt N 0))).add (Nat.mul 2 (C.cnt N 1))).blt 9223372036854775808) ((N ≤ 4294967296 ∧ C.no1 N ((Nat.add 0 1).add 1)) ∧ cnd ((Nat.mul 2 (C.cnt N 2)).blt 9223372036854775808) (cnd (((((Nat.mul 2 N).add (Nat.mul 2 (C.cnt N 0))).add (Nat.mul 2 (C.cnt N 1))).add (Nat.mul 2 (C.cnt N 2))).blt 9223372036854775808) ((N ≤ 4294967296 ∧ C.no1 N (((Nat.add 0 1).add 1).add 1)) ∧ cnd ((Nat.mul 2 (C.cnt N 3)).blt 9223372036854775808) (cnd ((((((Nat.mul 2 N).add (Nat.mul 2 (C.cnt N 0))).add (Nat.mul 2 (C.cnt N 1))).add (Nat.mul 2 (C.cnt N 2))).add (Nat.mul 2 (C.cnt N 3))).blt 9223372036854775808) (KV.int IntKind.i64 (Int.ofNat (((((Nat.mul 2 N).add (Nat.mul 2 (C.cnt N 0))).add (Nat.mul 2 (C.cnt N 1))).add (Nat.mul 2 (C.cnt N 2))).add (Nat.mul 2 (C.cnt N 3)))) = v))))))))))) (cnd ((Nat.mul 2 N).blt 9223372036854775808) ((N ≤ 4294967296 ∧ C.no1 N 0) ∧ cnd ((Nat.mul 2 (C.cnt N 0)).blt 9223372036854775808) (cnd (((Nat.mul 2 N).add (Nat.mul 2 (C.cnt N 0))).blt 9223372036854775808) ((N ≤ 4294967296 ∧ C.no1 N (Nat.add 0 1)) ∧ cnd ((Nat.mul 2 (C.cnt N 1)).blt 9223372036854775808) (cnd ((((Nat.mul 2 N).add (Nat.mul 2 (C.cnt N 0))).add (Nat.mul 2 (C.cnt N 1))).blt 9223372036854775808) ((N ≤ 4294967296 ∧ C.no1 N ((Nat.add 0 1).add 1)) ∧ cnd ((Nat.mul 2 (C.cnt N 2)).blt 9223372036854775808) (cnd (((((Nat.mul 2 N).add (Nat.mul 2 (C.cnt N 0))).add (Nat.mul 2 (C.cnt N 1))).add (Nat.mul 2 (C.cnt N 2))).blt 9223372036854775808) (KV.int IntKind.i64 (Int.ofNat ((((Nat.mul 2 N).add (Nat.mul 2 (C.cnt N 0))).add (Nat.mul 2 (C.cnt N 1))).add (Nat.mul 2 (C.cnt N 2)))) = v))))))))) (cnd ((Nat.mul 2 N).blt 9223372036854775808) ((N ≤ 4294967296 ∧ C.no1 N 0) ∧ cnd ((Nat.mul 2 (C.cnt N 0)).blt 9223372036854775808) (cnd (((Nat.mul 2 N).add (Nat.mul 2 (C.cnt N 0))).blt 9223372036854775808) ((N ≤ 4294967296 ∧ C.no1 N (Nat.add 0 1)) ∧ cnd ((Nat.mul 2 (C.cnt N 1)).blt 9223372036854775808) (cnd ((((Nat.mul 2 N).add (Nat.mul 2 (C.cnt N 0))).add (Nat.mul 2 (C.cnt N 1))).blt 9223372036854775808) (KV.int IntKind.i64 (Int.ofNat (((Nat.mul 2 N).add (Nat.mul 2 (C.cnt N 0))).add (Nat.mul 2 (C.cnt N 1)))) = v))))))) (cnd ((Nat.mul 2 N).blt 9223372036854775808) ((N ≤ 4294967296 ∧ C.no1 N 0) ∧ cnd ((Nat.mul 2 (C.cnt N 0)).blt 9223372036854775808) (cnd (((Nat.mul 2 N).add (Nat.mul 2 (C.cnt N 0))).blt 9223372036854775808) (KV.int IntKind.i64 (Int.ofNat ((Nat.mul 2 N).add (Nat.mul 2 (C.cnt N 0)))) = v))))) := by kernel_rfl
theorem no1_s {n l : Nat} (h : C.no1 n l) (h1 : C.cnt n l ≠ 1) : C.no1 n (l + 1) := fun j hj => by
  rcases Nat.lt_or_ge j l with h2 | h2
  · exact h j h2
  · obtain rfl : j = l := by omega
    exact h1
theorem no1_0 (N : Nat) : C.no1 N 0 := fun j hj => by omega
section
attribute [local irreducible] C.no1
set_option maxRecDepth 100000 in
theorem run37_g {N : Nat} (h1 : 1 ≤ N) (h2 : N ≤ 4096) : run37 N (.int .i64 (.ofNat (C.sec N))) := by
  rw [run37_eq]
  have hN : N ≤ 4294967296 := by omega
  have z0 : C.no1 N 0 := no1_0 N
  have z1 := fun h : ¬ C.cnt N 0 = 1 => no1_s z0 h
  have z2 := fun (g : ¬ C.cnt N 0 = 1) (h : ¬ C.cnt N 1 = 1) => no1_s (z1 g) h
  have z3 := fun (g : ¬ C.cnt N 0 = 1) (h : ¬ C.cnt N 1 = 1) (i : ¬ C.cnt N 2 = 1) => no1_s (z2 g h) i
  have z4 := fun (g : ¬ C.cnt N 0 = 1) (h : ¬ C.cnt N 1 = 1) (i : ¬ C.cnt N 2 = 1) (j : ¬ C.cnt N 3 = 1) => no1_s (z3 g h i) j
  have z5 := fun (g : ¬ C.cnt N 0 = 1) (h : ¬ C.cnt N 1 = 1) (i : ¬ C.cnt N 2 = 1) (j : ¬ C.cnt N 3 = 1) (k : ¬ C.cnt N 4 = 1) => no1_s (z4 g h i j) k
  have hs : C.sec N = 2 * N + C.sl 5 (C.cnt N 0) := rfl
  have a1 : 4 * C.cnt N 0 ≤ N + 3 ∧ N ≤ 4 * C.cnt N 0 := ab_s N
  have a2 : 4 * C.cnt N 1 ≤ C.cnt N 0 + 3 ∧ C.cnt N 0 ≤ 4 * C.cnt N 1 := ab_s _
  have a3 : 4 * C.cnt N 2 ≤ C.cnt N 1 + 3 ∧ C.cnt N 1 ≤ 4 * C.cnt N 2 := ab_s _
  have a4 : 4 * C.cnt N 3 ≤ C.cnt N 2 + 3 ∧ C.cnt N 2 ≤ 4 * C.cnt N 3 := ab_s _
  have a5 : 4 * C.cnt N 4 ≤ C.cnt N 3 + 3 ∧ C.cnt N 3 ≤ 4 * C.cnt N 4 := ab_s _
  have a6 : 4 * C.cnt N 5 ≤ C.cnt N 4 + 3 ∧ C.cnt N 4 ≤ 4 * C.cnt N 5 := ab_s _
  have p1 := sl_1' 4 (C.cnt N 0)
  have q1 : ¬ C.cnt N 0 = 1 → C.sl 5 (C.cnt N 0) = 2 * C.cnt N 0 + C.sl 4 (C.cnt N 1) := sl_n' 4 (C.cnt N 0)
  have p2 := sl_1' 3 (C.cnt N 1)
  have q2 : ¬ C.cnt N 1 = 1 → C.sl 4 (C.cnt N 1) = 2 * C.cnt N 1 + C.sl 3 (C.cnt N 2) := sl_n' 3 (C.cnt N 1)
  have p3 := sl_1' 2 (C.cnt N 2)
  have q3 : ¬ C.cnt N 2 = 1 → C.sl 3 (C.cnt N 2) = 2 * C.cnt N 2 + C.sl 2 (C.cnt N 3) := sl_n' 2 (C.cnt N 2)
  have p4 := sl_1' 1 (C.cnt N 3)
  have q4 : ¬ C.cnt N 3 = 1 → C.sl 2 (C.cnt N 3) = 2 * C.cnt N 3 + C.sl 1 (C.cnt N 4) := sl_n' 1 (C.cnt N 3)
  have p5 := sl_1' 0 (C.cnt N 4)
  have q5 : ¬ C.cnt N 4 = 1 → C.sl 1 (C.cnt N 4) = 2 * C.cnt N 4 + C.sl 0 (C.cnt N 5) := sl_n' 0 (C.cnt N 4)
  have p6 := sl_0 (C.cnt N 5)
  generalize C.sec N = sN at *
  simp only [alt_iff, cnd_iff, eqI_nat, ltI_nat, beqT, beqF, bltT, bltF, notT, notF, Nat.add_eq, Nat.mul_eq, Nat.zero_add, Nat.reduceAdd]
  generalize C.cnt N 0 = c1 at *
  generalize C.cnt N 1 = c2 at *
  generalize C.cnt N 2 = c3 at *
  generalize C.cnt N 3 = c4 at *
  generalize C.cnt N 4 = c5 at *
  generalize C.cnt N 5 = c6 at *
  generalize C.sl 5 c1 = s1 at *
  generalize C.sl 4 c2 = s2 at *
  generalize C.sl 3 c3 = s3 at *
  generalize C.sl 2 c4 = s34 at *
  generalize C.sl 1 c5 = s5 at *
  generalize C.sl 0 c6 = s6 at *
  repeat' first | apply And.intro | intro _
  all_goals first | trivial | omega | (exfalso; omega) | assumption | (exact z1 (by assumption)) | (exact z2 (by assumption) (by assumption)) | (exact z3 (by assumption) (by assumption) (by assumption)) | (exact z4 (by assumption) (by assumption) (by assumption) (by assumption)) | (exact z5 (by assumption) (by assumption) (by assumption) (by assumption) (by assumption)) | (apply int_eq; omega)
end
def s37 : KSpec := fun l K => la1 l fun x => natK x fun n => (1 ≤ n ∧ n ≤ 4096) ∧ K (.int .i64 (.ofNat (C.sec n)))
theorem P37 : ∃ fn, Tryz.prog.funcs[37]? = some fn ∧ (fn.name == "runtime.NumGoroutine") = false ∧ fn.body.isNone = false := ⟨Tryz.f37, Tryz.func37, (fnsL.get Tryz.func37).1, by kernel_rfl⟩
theorem kcs37 : @KCS gO Tryz.prog 37 s37 := by
  refine @kcsQ gO E37 ok37 37 s37 P37 fun l K hs => ?_
  obtain ⟨x, rfl, h1⟩ := la1_s hs
  obtain ⟨n, rfl, h2, h3⟩ := natK_s h1
  exact ⟨22, _, _, h3, rfl, fun _ _ h => h, run37_g h2.1 h2.2⟩
end
end Go.K
set_option linter.unusedVariables false
set_option linter.unusedSimpArgs false
namespace Go.K
open Go.Ab Go.RowKit Go.Y Go.Proofs
noncomputable section
attribute [local irreducible] krun callR
def dkT (k : Nat) : KV := .tup (.cons (dk k) (.cons (.int .i64 (.ofNat 0)) .nl))
def new34 (k : Nat) : Prop := callR E0 (krun E0 1000) 0 34 [.int .i64 (.ofNat k)] .e 0 0 fun r zm _ _ => tK (fzB zm 30 r (dkT k))
theorem new4_1 : new34 1 := of_eq_true (by kernel_rfl)
theorem new4_2 : new34 2 := of_eq_true (by kernel_rfl)
theorem new4_3 : new34 3 := of_eq_true (by kernel_rfl)
theorem new4_4 : new34 4 := of_eq_true (by kernel_rfl)
theorem new4_5 : new34 5 := of_eq_true (by kernel_rfl)
theorem new4_6 : new34 6 := of_eq_true (by kernel_rfl)
theorem new4_7 : new34 7 := of_eq_true (by kernel_rfl)
theorem new4_8 : new34 8 := of_eq_true (by kernel_rfl)
theorem new4_9 : new34 9 := of_eq_true (by kernel_rfl)
theorem new4_10 : new34 10 := of_eq_true (by kernel_rfl)
theorem new4_11 : new34 11 := of_eq_true (by kernel_rfl)
theorem new4_12 : new34 12 := of_eq_true (by kernel_rfl)
theorem new4_13 : new34 13 := of_eq_true (by kernel_rfl)
theorem new4_14 : new34 14 := of_eq_true (by kernel_rfl)
theorem new4_15 : new34 15 := of_eq_true (by kernel_rfl)
theorem new4_16 : new34 16 := of_eq_true (by kernel_rfl)
theorem new4_17 : new34 17 := of_eq_true (by kernel_rfl)
theorem new4_18 : new34 18 := of_eq_true (by kernel_rfl)
theorem new4_19 : new34 19 := of_eq_true (by kernel_rfl)
theorem new4_20 : new34 20 := of_eq_true (by kernel_rfl)
theorem new4_21 : new34 21 := of_eq_true (by kernel_rfl)
theorem new4_22 : new34 22 := of_eq_true (by kernel_rfl)
theorem new4_23 : new34 23 := of_eq_true (by kernel_rfl)
theorem new4_24 : new34 24 := of_eq_true (by kernel_rfl)
theorem new4_25 : new34 25 := of_eq_true (by kernel_rfl)
theorem new4_26 : new34 26 := of_eq_true (by kernel_rfl)
theorem new4_27 : new34 27 := of_eq_true (by kernel_rfl)
theorem new4_28 : new34 28 := of_eq_true (by kernel_rfl)
theorem new4_29 : new34 29 := of_eq_true (by kernel_rfl)
theorem new4_30 : new34 30 := of_eq_true (by kernel_rfl)
theorem new4_31 : new34 31 := of_eq_true (by kernel_rfl)
theorem new4_32 : new34 32 := of_eq_true (by kernel_rfl)
theorem new4_33 : new34 33 := of_eq_true (by kernel_rfl)
theorem new4_34 : new34 34 := of_eq_true (by kernel_rfl)
theorem new4_35 : new34 35 := of_eq_true (by kernel_rfl)
theorem new4_36 : new34 36 := of_eq_true (by kernel_rfl)
theorem new4_37 : new34 37 := of_eq_true (by kernel_rfl)
theorem new4_38 : new34 38 := of_eq_true (by kernel_rfl)
theorem new4_39 : new34 39 := of_eq_true (by kernel_rfl)
theorem new4_40 : new34 40 := of_eq_true (by kernel_rfl)
theorem new4_41 : new34 41 := of_eq_true (by kernel_rfl)
theorem new4_42 : new34 42 := of_eq_true (by kernel_rfl)
theorem new4_43 : new34 43 := of_eq_true (by kernel_rfl)
theorem new4_44 : new34 44 := of_eq_true (by kernel_rfl)
theorem new4_45 : new34 45 := of_eq_true (by kernel_rfl)
theorem new4_46 : new34 46 := of_eq_true (by kernel_rfl)
theorem new4_47 : new34 47 := of_eq_true (by kernel_rfl)
theorem new4_48 : new34 48 := of_eq_true (by kernel_rfl)
theorem new4_49 : new34 49 := of_eq_true (by kernel_rfl)
theorem new4_50 : new34 50 := of_eq_true (by kernel_rfl)
theorem new4_51 : new34 51 := of_eq_true (by kernel_rfl)
theorem new4_52 : new34 52 := of_eq_true (by kernel_rfl)
theorem new4_53 : new34 53 := of_eq_true (by kernel_rfl)
theorem new4_54 : new34 54 := of_eq_true (by kernel_rfl)
theorem new4_55 : new34 55 := of_eq_true (by kernel_rfl)
theorem new4_56 : new34 56 := of_eq_true (by kernel_rfl)
theorem new4_57 : new34 57 := of_eq_true (by kernel_rfl)
theorem new4_58 : new34 58 := of_eq_true (by kernel_rfl)
theorem new4_59 : new34 59 := of_eq_true (by kernel_rfl)
theorem new4_60 : new34 60 := of_eq_true (by kernel_rfl)
theorem new34_s (k : Nat) (h1 : 1 ≤ k) (h2 : k ≤ 60) : new34 k := by
  match k, h1, h2 with
  | 0, h, _ => omega
  | 1, _, _ => exact new4_1
  | 2, _, _ => exact new4_2
  | 3, _, _ => exact new4_3
  | 4, _, _ => exact new4_4
  | 5, _, _ => exact new4_5
  | 6, _, _ => exact new4_6
  | 7, _, _ => exact new4_7
  | 8, _, _ => exact new4_8
  | 9, _, _ => exact new4_9
  | 10, _, _ => exact new4_10
  | 11, _, _ => exact new4_11
  | 12, _, _ => exact new4_12
  | 13, _, _ => exact new4_13
  | 14, _, _ => exact new4_14
  | 15, _, _ => exact new4_15
  | 16, _, _ => exact new4_16
  | 17, _, _ => exact new4_17
  | 18, _, _ => exact new4_18
  | 19, _, _ => exact new4_19
  | 20, _, _ => exact new4_20
  | 21, _, _ => exact new4_21
  | 22, _, _ => exact new4_22
  | 23, _, _ => exact new4_23
  | 24, _, _ => exact new4_24
  | 25, _, _ => exact new4_25
  | 26, _, _ => exact new4_26
  | 27, _, _ => exact new4_27
  | 28, _, _ => exact new4_28
  | 29, _, _ => exact new4_29
  | 30, _, _ => exact new4_30
  | 31, _, _ => exact new4_31
  | 32, _, _ => exact new4_32
  | 33, _, _ => exact new4_33
  | 34, _, _ => exact new4_34
  | 35, _, _ => exact new4_35
  | 36, _, _ => exact new4_36
  | 37, _, _ => exact new4_37
  | 38, _, _ => exact new4_38
  | 39, _, _ => exact new4_39
  | 40, _, _ => exact new4_40
  | 41, _, _ => exact new4_41
  | 42, _, _ => exact new4_42
  | 43, _, _ => exact new4_43
  | 44, _, _ => exact new4_44
  | 45, _, _ => exact new4_45
  | 46, _, _ => exact new4_46
  | 47, _, _ => exact new4_47
  | 48, _, _ => exact new4_48
  | 49, _, _ => exact new4_49
  | 50, _, _ => exact new4_50
  | 51, _, _ => exact new4_51
  | 52, _, _ => exact new4_52
  | 53, _, _ => exact new4_53
  | 54, _, _ => exact new4_54
  | 55, _, _ => exact new4_55
  | 56, _, _ => exact new4_56
  | 57, _, _ => exact new4_57
  | 58, _, _ => exact new4_58
  | 59, _, _ => exact new4_59
  | 60, _, _ => exact new4_60
  | k + 61, _, h => omega
def s34 : KSpec := fun l K => la1 l fun x => natK x fun k => (1 ≤ k ∧ k ≤ 60) ∧ K (dkT k)
theorem P34 : ∃ fn, Tryz.prog.funcs[34]? = some fn ∧ (fn.name == "runtime.NumGoroutine") = false ∧ fn.body.isNone = false := ⟨Tryz.f34, Tryz.func34, (fnsL.get Tryz.func34).1, by kernel_rfl⟩
theorem kcs34 : KCS Tryz.prog 34 s34 := by
  refine kcsF P34 fun l K hs => ?_
  obtain ⟨x, rfl, h1⟩ := la1_s hs
  obtain ⟨n, rfl, h2, h3⟩ := natK_s h1
  exact ⟨E0, ok0, rfl, 1000, 30, _, h3, new34_s n h2.1 h2.2⟩
end
end Go.K
set_option linter.unusedVariables false
set_option linter.unusedSimpArgs false
namespace Go.K
open Go.Ab Go.RowKit Go.Y Go.Proofs
noncomputable section
attribute [local irreducible] krun callR
def AllP (P : Nat → Nat → Nat → Prop) : List (Nat × Nat × Nat) → Prop
  | [] => True
  | x :: l => P x.1 x.2.1 x.2.2 ∧ AllP P l
theorem allP_of {P : Nat → Nat → Nat → Prop} : ∀ {l : List (Nat × Nat × Nat)}, AllP P l → ∀ {n k h : Nat}, (n, k, h) ∈ l → P n k h
  | x :: l, hp, n, k, h, hm => by
    rcases List.mem_cons.1 hm with h1 | h1
    · cases h1; exact hp.1
    · exact allP_of hp.2 h1
theorem allP_true : ∀ l : List (Nat × Nat × Nat), AllP (fun _ _ _ => True) l
  | [] => trivial
  | _ :: l => ⟨trivial, allP_true l⟩
/-- Numbers of blocks, their sectors, their levels. -/
def prs : List (Nat × Nat × Nat) := [(1, 4, 1), (2, 6, 1), (3, 8, 1), (4, 10, 1), (5, 16, 2), (6, 18, 2), (7, 20, 2), (8, 22, 2), (9, 26, 2), (10, 28, 2), (11, 30, 2), (12, 32, 2), (13, 36, 2), (14, 38, 2), (15, 40, 2), (16, 42, 2), (17, 50, 3), (18, 52, 3), (19, 54, 3), (20, 56, 3), (21, 60, 3)]
theorem prs_of {N : Nat} (h1 : 1 ≤ N) (h2 : C.sec N ≤ 60) : ∃ h, (N, C.sec N, h) ∈ prs := by
  have : N ≤ 30 := by unfold C.sec at h2; omega
  match N, h1 with
  | 0, h => omega
  | 1, _ => exact ⟨1, by decide⟩
  | 2, _ => exact ⟨1, by decide⟩
  | 3, _ => exact ⟨1, by decide⟩
  | 4, _ => exact ⟨1, by decide⟩
  | 5, _ => exact ⟨2, by decide⟩
  | 6, _ => exact ⟨2, by decide⟩
  | 7, _ => exact ⟨2, by decide⟩
  | 8, _ => exact ⟨2, by decide⟩
  | 9, _ => exact ⟨2, by decide⟩
  | 10, _ => exact ⟨2, by decide⟩
  | 11, _ => exact ⟨2, by decide⟩
  | 12, _ => exact ⟨2, by decide⟩
  | 13, _ => exact ⟨2, by decide⟩
  | 14, _ => exact ⟨2, by decide⟩
  | 15, _ => exact ⟨2, by decide⟩
  | 16, _ => exact ⟨2, by decide⟩
  | 17, _ => exact ⟨3, by decide⟩
  | 18, _ => exact ⟨3, by decide⟩
  | 19, _ => exact ⟨3, by decide⟩
  | 20, _ => exact ⟨3, by decide⟩
  | 21, _ => exact ⟨3, by decide⟩
  | 22, _ => exact absurd h2 (by decide)
  | 23, _ => exact absurd h2 (by decide)
  | 24, _ => exact absurd h2 (by decide)
  | 25, _ => exact absurd h2 (by decide)
  | 26, _ => exact absurd h2 (by decide)
  | 27, _ => exact absurd h2 (by decide)
  | 28, _ => exact absurd h2 (by decide)
  | 29, _ => exact absurd h2 (by decide)
  | 30, _ => exact absurd h2 (by decide)
  | n + 31, _ => omega
theorem prs_s : ∀ {n k h : Nat}, (n, k, h) ∈ prs → 1 ≤ n ∧ n ≤ 21 ∧ 1 ≤ k ∧ k ≤ 60 ∧ C.sec n = k := by
  intro n k h hm
  have : ∀ x ∈ prs, 1 ≤ x.1 ∧ x.1 ≤ 21 ∧ 1 ≤ x.2.1 ∧ x.2.1 ≤ 60 ∧ C.sec x.1 = x.2.1 := by decide
  exact this _ hm
/-! ### Closed -/
def secW (k : Nat) : KV := .tup (.cons (.int .i64 (.ofNat k)) (.cons (.int .i64 (.ofNat 0)) .nl))
def cell0 : KV := .cons (.ar 32 (.int .u8 (.ofNat 0)) .te) (.cons (.int .u64 (.ofNat 0)) (.cons (.int .u64 (.ofNat 0)) .nl))
def node0 : KV := .cons (.int .u8 (.ofNat 0)) (.cons (.int .u32 (.ofNat 0)) (.cons (.ar 4 (.cons (.int .u8 (.ofNat 0)) (.cons (.cons (.int .u32 (.ofNat 0)) (.cons (.int .u64 (.ofNat 0)) .nl)) (.cons (.pk .u8 32 0) .nl))) .te) (.cons (.ar 4 (.cons (.int .u8 (.ofNat 0)) (.cons (.pk .u8 32 0) .nl)) .te) .nl)))
def rootW (k : Nat) : KV := .tup (.cons node0 (.cons (.cons (.int .i64 (.ofNat (k - 2))) (.cons (.int .u8 (.ofNat 1)) .nl)) (.cons (.int .i64 (.ofNat 9)) .nl)))
def keys0 : KV := .cons (.ar 16 (.int .u8 (.ofNat 0)) .te) (.cons (.ar 32 (.int .u8 (.ofNat 0)) .te) .nl)
/-- The last of three results, of four. -/
def errQ3 (e : KV) (r : KV) : Prop := onTup (fun l => onCons (fun _ b => onCons (fun _ b => onCons (fun c d => onNl (tK (kvb c e)) (BadN 320) d) (BadN 321) b) (BadN 322) b) (BadN 324) l) (BadN 323) r
def errQ4 (e : KV) (r : KV) : Prop := onTup (fun l => onCons (fun _ b => onCons (fun _ b => onCons (fun _ b => onCons (fun c d => onNl (tK (kvb c e)) (BadN 320) d) (BadN 321) b) (BadN 322) b) (BadN 324) b) (BadN 325) l) (BadN 323) r
def q24 (n k _h : Nat) : Prop := callR E0 (krun E0 1000) 0 24 [.int .i64 (.ofNat n), dk k, cell0] .e 0 0 fun r _ _ _ => errQ (nI 9) r
def q32 (n k _h : Nat) : Prop := callR E0 (krun E0 1000) 0 32 [.int .i64 (.ofNat n), dk k, cell0] .e 0 0 fun r _ _ _ => errQ4 (nI 9) r
def q35 (n k _h : Nat) : Prop := callR E0 (krun E0 1000) 0 35 [.int .i64 (.ofNat n), dk k, cell0] .e 0 0 fun r _ _ _ => errQ3 (nI 9) r
def q25 (n k _h : Nat) : Prop := callR E0 (krun E0 1000) 0 25 [.int .i64 (.ofNat n), dk k, cell0, keys0] .e 0 0 fun r _ _ _ => errQ3 (nI 9) r
theorem q24_all : AllP q24 prs = AllP (fun _ _ _ => True) prs := by kernel_rfl
theorem q32_all : AllP q32 prs = AllP (fun _ _ _ => True) prs := by kernel_rfl
theorem q35_all : AllP q35 prs = AllP (fun _ _ _ => True) prs := by kernel_rfl
theorem q25_all : AllP q25 prs = AllP (fun _ _ _ => True) prs := by kernel_rfl
end
end Go.K
set_option linter.unusedVariables false
namespace Go.K
open Go.Ab Go.RowKit Go.Y Go.Proofs
noncomputable section
attribute [local irreducible] krun callR
/-- 0, 1, 2 .. as one number. -/
def C.upTo : Nat → Nat
  | 0 => 0
  | n + 1 => C.upTo n + n * 2 ^ (64 * n)
def w31 (n : Nat) : KV := .tup (.cons (.ro true true .sc 0 n (.pk .i64 n (C.upTo n))) (.cons (nI 0) .nl))
def q31 (n k _h : Nat) : Prop := callR E0 (krun E0 1000) 0 31 [.int .i64 (.ofNat n), dk k, cell0, keys0] .e 0 0 fun r zm _ _ => tK (fzB zm 30 r (w31 n))
theorem q31_all : AllP q31 prs = AllP (fun _ _ _ => True) prs := by kernel_rfl
end
end Go.K
set_option linter.unusedVariables false
namespace Go.K
open Go.Ab Go.RowKit Go.Y Go.Proofs
noncomputable section
attribute [local irreducible] krun callR
def prb (s f : Nat) : KV := .cons (nI s) (.cons (.int .u8 (.ofNat f)) .nl)
def treeT (x : KV) (n : Nat) : KV := @Nat.rec (fun _ => KV) .te (fun i t => kset x (enc i) t) n
def w36 (n k : Nat) : KV := .tup (.cons (.ro true true (.cons .sc (.cons .sc .nl)) 0 n (.ar n (prb 0 0) (treeT (prb (k - 2) 1) n))) (.cons (nI 0) .nl))
def q36 (n k _h : Nat) : Prop := callR E0 (krun E0 1000) 0 36 [.int .i64 (.ofNat n), dk k, cell0, keys0] .e 0 0 fun r zm _ _ => tK (fzB zm 30 r (w36 n k))
theorem q36_all : AllP q36 prs = AllP (fun _ _ _ => True) prs := by kernel_rfl
end
end Go.K
