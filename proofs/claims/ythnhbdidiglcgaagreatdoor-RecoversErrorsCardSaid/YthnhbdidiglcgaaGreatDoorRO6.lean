/- Recoveries of volumes that do not fit their disk. No condition. -/
import Derived.Test.YthnhbdidiglcgaaGreatDoorRO3
set_option linter.unusedVariables false
set_option linter.unusedSimpArgs false
namespace Go.K
open Go.Ab Go.RowKit Go.Y Go.Proofs
noncomputable section
attribute [local irreducible] krun callR
def lb4 (l : List KV) (f : KV → KV → KV → KV → Prop) : Prop := match l with
  | [x, y, z, w] => f x y z w
  | _ => BadN 258
theorem lb4_s {l : List KV} {f : KV → KV → KV → KV → Prop} (h : lb4 l f) : ∃ x y z w, l = [x, y, z, w] ∧ f x y z w := by
  unfold lb4 at h
  split at h
  · exact ⟨_, _, _, _, rfl, h⟩
  · exact h.elim
def run96b (z : Int) (k : Nat) (v : KV) : Prop := @callR gO E169b (@krun gO E169b 32) 0 96 [.int .i64 z, dk k, cell0, keys0] .e 0 0 fun r _ _ _ => r = v
def run96g (N k : Nat) (v : KV) : Prop := @callR gO E169g (@krun gO E169g 32) 0 96 [.int .i64 (.ofNat N), dk k, cell0, keys0] .e 0 0 fun r _ _ _ => r = v
set_option maxRecDepth 100000 in
theorem run96b_eq (z : Int) (k : Nat) (v : KV) : run96b z k v = ((z < Int.ofNat 1 ∨ Int.ofNat 4096 < z) ∧ (((KV.int IntKind.i64 z).cons (((KV.int IntKind.i64 (Int.ofNat k)).cons ((KV.int IntKind.i64 (Int.ofNat 0)).cons ((KV.ro true true Shape.sc 0 1 (KV.ar 1 KV.nilp ((KV.ref true (Shape.arr 64 Shape.sc) (KV.ar 64 KV.nilp KV.te)).tn KV.te KV.te KV.te KV.te))).cons KV.nl))).cons (((KV.ar 32 (KV.int IntKind.u8 (Int.ofNat 0)) KV.te).cons ((KV.int IntKind.u64 (Int.ofNat 0)).cons ((KV.int IntKind.u64 (Int.ofNat 0)).cons KV.nl))).cons (((KV.ar 16 (KV.int IntKind.u8 (Int.ofNat 0)) KV.te).cons ((KV.ar 32 (KV.int IntKind.u8 (Int.ofNat 0)) KV.te).cons KV.nl)).cons KV.nl)))).cons ((KV.int IntKind.i64 (Int.ofNat 1)).cons KV.nl)).tup = v) := by kernel_rfl
set_option maxRecDepth 100000 in
theorem run96g_eq (N k : Nat) (v : KV) : run96g N k v = ((1 ≤ N ∧ N ≤ 4096) ∧ alt (!eqI (Int.ofNat k) (Int.ofNat (C.sec N))) ((((KV.int IntKind.i64 (Int.ofNat N)).cons (((KV.int IntKind.i64 (Int.ofNat k)).cons ((KV.int IntKind.i64 (Int.ofNat 0)).cons ((KV.ro true true Shape.sc 0 1 (KV.ar 1 KV.nilp ((KV.ref true (Shape.arr 64 Shape.sc) (KV.ar 64 KV.nilp KV.te)).tn KV.te KV.te KV.te KV.te))).cons KV.nl))).cons (((KV.ar 32 (KV.int IntKind.u8 (Int.ofNat 0)) KV.te).cons ((KV.int IntKind.u64 (Int.ofNat 0)).cons ((KV.int IntKind.u64 (Int.ofNat 0)).cons KV.nl))).cons (((KV.ar 16 (KV.int IntKind.u8 (Int.ofNat 0)) KV.te).cons ((KV.ar 32 (KV.int IntKind.u8 (Int.ofNat 0)) KV.te).cons KV.nl)).cons KV.nl)))).cons ((KV.int IntKind.i64 (Int.ofNat 1)).cons KV.nl)).tup = v) ((((KV.int IntKind.i64 (Int.ofNat N)).cons (((KV.int IntKind.i64 (Int.ofNat k)).cons ((KV.int IntKind.i64 (Int.ofNat 0)).cons ((KV.ro true true Shape.sc 0 1 (KV.ar 1 KV.nilp ((KV.ref true (Shape.arr 64 Shape.sc) (KV.ar 64 KV.nilp KV.te)).tn KV.te KV.te KV.te KV.te))).cons KV.nl))).cons (((KV.ar 32 (KV.int IntKind.u8 (Int.ofNat 0)) KV.te).cons ((KV.int IntKind.u64 (Int.ofNat 0)).cons ((KV.int IntKind.u64 (Int.ofNat 0)).cons KV.nl))).cons (((KV.ar 16 (KV.int IntKind.u8 (Int.ofNat 0)) KV.te).cons ((KV.ar 32 (KV.int IntKind.u8 (Int.ofNat 0)) KV.te).cons KV.nl)).cons KV.nl)))).cons ((KV.int IntKind.i64 (Int.ofNat 0)).cons KV.nl)).tup = v)) := by kernel_rfl
def s96 : KSpec := fun l K => lb4 l fun x d c q => chk (kvb c cell0) 350 (chk (kvb q keys0) 351 (onInt (fun kk z => chk (ikEq kk .i64) 311 (onCons (fun a b => chk (kvb b dkR) 313 (natK a fun k => C.bad z k ∧ K e1)) (BadN 314) d)) (BadN 312) x))
theorem P96 : ∃ fn, Tryz.prog.funcs[96]? = some fn ∧ (fn.name == "runtime.NumGoroutine") = false ∧ fn.body.isNone = false := ⟨Tryz.f96, Tryz.func96, (fnsL.get Tryz.func96).1, by kernel_rfl⟩
theorem kcs96 : @KCS gO Tryz.prog 96 s96 := by
  refine @kcsE gO Tryz.prog 96 s96 P96 fun l K hs => ?_
  obtain ⟨x, d, c, q, rfl, h01⟩ := lb4_s hs
  obtain ⟨h02, h03⟩ := chk_inv h01
  obtain rfl := kvb_s h02
  obtain ⟨h04, h1⟩ := chk_inv h03
  obtain rfl := kvb_s h04
  rcases onInt_inv h1 with ⟨kk, z, rfl, h2⟩ | ⟨_, h2⟩
  · obtain ⟨h3, h4⟩ := chk_inv h2
    obtain rfl := ikEq_eq h3
    rcases onCons_inv h4 with ⟨a, b, rfl, h5⟩ | ⟨_, h5⟩
    · obtain ⟨h6, h7⟩ := chk_inv h5
      obtain rfl := kvb_s h6
      obtain ⟨k, rfl, h8, h9⟩ := natK_s h7
      have hb : (z < 1 ∨ 4096 < z) ∨ ∃ N : Nat, z = .ofNat N ∧ C.sec N ≠ k ∧ 1 ≤ N ∧ N ≤ 4096 := by
        rcases h8 with h | h | ⟨N, rfl, h⟩
        · exact .inl (.inl h)
        · exact .inl (.inr h)
        · by_cases q : 1 ≤ N ∧ N ≤ 4096
          · exact .inr ⟨N, rfl, h, q.1, q.2⟩
          · left
            have : Int.ofNat N = (N : Int) := rfl
            omega
      rcases hb with hb | ⟨N, rfl, hb, q1, q2⟩
      · refine ⟨E169b, ok169b, rfl, 32, _, _, h9, rfl, imp_e1 (.cons (.int .i64 z) (.cons (dk k) (.cons cell0 (.cons keys0 .nl)))), ?_⟩
        show run96b z k _
        rw [run96b_eq]
        exact ⟨hb, rfl⟩
      · refine ⟨E169g, ok169g, rfl, 32, _, _, h9, rfl, imp_e1 (.cons (.int .i64 (.ofNat N)) (.cons (dk k) (.cons cell0 (.cons keys0 .nl)))), ?_⟩
        show run96g N k _
        rw [run96g_eq]
        refine ⟨⟨q1, q2⟩, alt_iff.2 ⟨fun _ => rfl, fun h => ?_⟩⟩
        rw [notF, eqI_nat, beqT] at h
        exact absurd h.symm hb
    · exact h5.elim
  · exact h2.elim

end
end Go.K
