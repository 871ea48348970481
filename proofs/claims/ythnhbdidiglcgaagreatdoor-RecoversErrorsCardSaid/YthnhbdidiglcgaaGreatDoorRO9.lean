/- RecoversErrors: the functions that it calls, where blocks and disk belong together. No condition. RecoversErrors: whatever the arguments, it returns true. No condition. -/
import Derived.Test.YthnhbdidiglcgaaGreatDoorRO3
import Derived.Test.YthnhbdidiglcgaaGreatDoorRO8c
import Derived.Test.YthnhbdidiglcgaaGreatDoorRO7
set_option linter.unusedVariables false
set_option linter.unusedSimpArgs false
namespace Go.K
open Go.Ab Go.RowKit Go.Y Go.Proofs
noncomputable section
attribute [local irreducible] krun callR
def Good (n k : Nat) : Prop := ∃ h, (n, k, h) ∈ prs
def dkK (d : KV) (f : Nat → Prop) : Prop := onCons (fun a b => chk (kvb b dkR) 340 (natK a f)) (BadN 341) d
theorem dkK_s {d : KV} {f : Nat → Prop} (h : dkK d f) : ∃ k, d = dk k ∧ f k := by
  rcases onCons_inv h with ⟨a, b, rfl, h1⟩ | ⟨_, h1⟩
  · obtain ⟨h2, h3⟩ := chk_inv h1
    obtain rfl := kvb_s h2
    obtain ⟨k, rfl, h4⟩ := natK_s h3
    exact ⟨k, rfl, h4⟩
  · exact h1.elim
def lb3 (l : List KV) (f : KV → KV → KV → Prop) : Prop := match l with
  | [x, y, z] => f x y z
  | _ => BadN 258
theorem lb3_s {l : List KV} {f : KV → KV → KV → Prop} (h : lb3 l f) : ∃ x y z, l = [x, y, z] ∧ f x y z := by
  unfold lb3 at h
  split at h
  · exact ⟨_, _, _, rfl, h⟩
  · exact h.elim
theorem P24 : ∃ fn, Tryz.prog.funcs[24]? = some fn ∧ (fn.name == "runtime.NumGoroutine") = false ∧ fn.body.isNone = false := ⟨Tryz.f24, Tryz.func24, (fnsL.get Tryz.func24).1, by kernel_rfl⟩
def s24 : KSpec := fun l K => lb3 l fun x d c => chk (kvb c cell0) 352 (natK x fun n => dkK d fun k => Good n k ∧ K (w24))
theorem kcs24 : KCS Tryz.prog 24 s24 := by
  refine kcsF P24 fun l K hs => ?_
  obtain ⟨x, d, c, rfl, h1⟩ := lb3_s hs
  obtain ⟨h2, h3⟩ := chk_inv h1
  obtain rfl := kvb_s h2
  obtain ⟨n, rfl, h4⟩ := natK_s h3
  obtain ⟨k, rfl, ⟨h, hm⟩, h5⟩ := dkK_s h4
  exact ⟨E0, ok0, rfl, 1000, 30, _, h5, (allP_of (v24_all ▸ allP_true prs) hm : v24 n k h)⟩
theorem P32 : ∃ fn, Tryz.prog.funcs[32]? = some fn ∧ (fn.name == "runtime.NumGoroutine") = false ∧ fn.body.isNone = false := ⟨Tryz.f32, Tryz.func32, (fnsL.get Tryz.func32).1, by kernel_rfl⟩
def s32 : KSpec := fun l K => lb3 l fun x d c => chk (kvb c cell0) 352 (natK x fun n => dkK d fun k => Good n k ∧ K (w32 k))
theorem kcs32 : KCS Tryz.prog 32 s32 := by
  refine kcsF P32 fun l K hs => ?_
  obtain ⟨x, d, c, rfl, h1⟩ := lb3_s hs
  obtain ⟨h2, h3⟩ := chk_inv h1
  obtain rfl := kvb_s h2
  obtain ⟨n, rfl, h4⟩ := natK_s h3
  obtain ⟨k, rfl, ⟨h, hm⟩, h5⟩ := dkK_s h4
  exact ⟨E0, ok0, rfl, 1000, 30, _, h5, (allP_of (v32_all ▸ allP_true prs) hm : v32 n k h)⟩
theorem P35 : ∃ fn, Tryz.prog.funcs[35]? = some fn ∧ (fn.name == "runtime.NumGoroutine") = false ∧ fn.body.isNone = false := ⟨Tryz.f35, Tryz.func35, (fnsL.get Tryz.func35).1, by kernel_rfl⟩
def s35 : KSpec := fun l K => lb3 l fun x d c => chk (kvb c cell0) 352 (natK x fun n => dkK d fun k => Good n k ∧ K (w35 k))
theorem kcs35 : KCS Tryz.prog 35 s35 := by
  refine kcsF P35 fun l K hs => ?_
  obtain ⟨x, d, c, rfl, h1⟩ := lb3_s hs
  obtain ⟨h2, h3⟩ := chk_inv h1
  obtain rfl := kvb_s h2
  obtain ⟨n, rfl, h4⟩ := natK_s h3
  obtain ⟨k, rfl, ⟨h, hm⟩, h5⟩ := dkK_s h4
  exact ⟨E0, ok0, rfl, 1000, 30, _, h5, (allP_of (v35_all ▸ allP_true prs) hm : v35 n k h)⟩
theorem P25 : ∃ fn, Tryz.prog.funcs[25]? = some fn ∧ (fn.name == "runtime.NumGoroutine") = false ∧ fn.body.isNone = false := ⟨Tryz.f25, Tryz.func25, (fnsL.get Tryz.func25).1, by kernel_rfl⟩
def s25 : KSpec := fun l K => lb4 l fun x d c y => chk (kvb c cell0) 352 (chk (kvb y keys0) 353 (natK x fun n => dkK d fun k => Good n k ∧ K (w25)))
theorem kcs25 : KCS Tryz.prog 25 s25 := by
  refine kcsF P25 fun l K hs => ?_
  obtain ⟨x, d, c, y, rfl, h1⟩ := lb4_s hs
  obtain ⟨h2, h3⟩ := chk_inv h1
  obtain rfl := kvb_s h2
  obtain ⟨h2, h3⟩ := chk_inv h3
  obtain rfl := kvb_s h2
  obtain ⟨n, rfl, h4⟩ := natK_s h3
  obtain ⟨k, rfl, ⟨h, hm⟩, h5⟩ := dkK_s h4
  exact ⟨E0, ok0, rfl, 1000, 30, _, h5, (allP_of (v25_all ▸ allP_true prs) hm : v25 n k h)⟩
theorem P36 : ∃ fn, Tryz.prog.funcs[36]? = some fn ∧ (fn.name == "runtime.NumGoroutine") = false ∧ fn.body.isNone = false := ⟨Tryz.f36, Tryz.func36, (fnsL.get Tryz.func36).1, by kernel_rfl⟩
def s36 : KSpec := fun l K => lb4 l fun x d c y => chk (kvb c cell0) 352 (chk (kvb y keys0) 353 (natK x fun n => dkK d fun k => Good n k ∧ K (w36 n k)))
theorem kcs36 : KCS Tryz.prog 36 s36 := by
  refine kcsF P36 fun l K hs => ?_
  obtain ⟨x, d, c, y, rfl, h1⟩ := lb4_s hs
  obtain ⟨h2, h3⟩ := chk_inv h1
  obtain rfl := kvb_s h2
  obtain ⟨h2, h3⟩ := chk_inv h3
  obtain rfl := kvb_s h2
  obtain ⟨n, rfl, h4⟩ := natK_s h3
  obtain ⟨k, rfl, ⟨h, hm⟩, h5⟩ := dkK_s h4
  exact ⟨E0, ok0, rfl, 1000, 30, _, h5, (allP_of (q36_all ▸ allP_true prs) hm : q36 n k h)⟩
theorem P31 : ∃ fn, Tryz.prog.funcs[31]? = some fn ∧ (fn.name == "runtime.NumGoroutine") = false ∧ fn.body.isNone = false := ⟨Tryz.f31, Tryz.func31, (fnsL.get Tryz.func31).1, by kernel_rfl⟩
def s31 : KSpec := fun l K => lb4 l fun x d c y => chk (kvb c cell0) 352 (chk (kvb y keys0) 353 (natK x fun n => dkK d fun k => Good n k ∧ K (w31 n)))
theorem kcs31 : KCS Tryz.prog 31 s31 := by
  refine kcsF P31 fun l K hs => ?_
  obtain ⟨x, d, c, y, rfl, h1⟩ := lb4_s hs
  obtain ⟨h2, h3⟩ := chk_inv h1
  obtain rfl := kvb_s h2
  obtain ⟨h2, h3⟩ := chk_inv h3
  obtain rfl := kvb_s h2
  obtain ⟨n, rfl, h4⟩ := natK_s h3
  obtain ⟨k, rfl, ⟨h, hm⟩, h5⟩ := dkK_s h4
  exact ⟨E0, ok0, rfl, 1000, 30, _, h5, (allP_of (q31_all ▸ allP_true prs) hm : q31 n k h)⟩
def E6B : KEnv := EO0.tab [(34, s34), (37, s37), (28, kcon [] (.bool true)), (24, s24), (32, s32), (35, s35), (25, s25), (36, s36), (31, s31)]
theorem ok6B : @KOk gO E6B := @KOk.tab gO EO0 okO0 _ ⟨kcs34.opn, kcs37, rlives_s.opn, kcs24.opn, kcs32.opn, kcs35.opn, kcs25.opn, kcs36.opn, kcs31.opn, trivial⟩
def run6B (N S : Nat) (v : KV) : Prop := @callR gO E6B (@krun gO E6B 60) 0 6 [.int .i64 (.ofNat N), .int .u8 (.ofNat S)] .e 0 0 fun r _ _ _ => r = v
end
end Go.K
set_option linter.unusedVariables false
set_option linter.unusedSimpArgs false
namespace Go.K
open Go.Ab Go.RowKit Go.Y Go.Proofs
noncomputable section
attribute [local irreducible] krun callR
set_option maxRecDepth 100000
theorem run6B_eq (N S : Nat) (v : KV) : run6B N S v = (cnd (S.blt 9223372036854775808) (cnd ((Nat.add 1 (S % 60)).blt 9223372036854775808) ((1 ≤ Nat.add 1 (S % 60) ∧ Nat.add 1 (S % 60) ≤ 60) ∧ (∃ (h : Nat), List.Mem (N, Nat.add 1 (S % 60), h) prs) ∧ (∃ (h : Nat), List.Mem (N, Nat.add 1 (S % 60), h) prs) ∧ (∃ (h : Nat), List.Mem (N, Nat.add 1 (S % 60), h) prs) ∧ (∃ (h : Nat), List.Mem (N, Nat.add 1 (S % 60), h) prs) ∧ (∃ (h : Nat), List.Mem (N, Nat.add 1 (S % 60), h) prs) ∧ (∃ (h : Nat), List.Mem (N, Nat.add 1 (S % 60), h) prs) ∧ alt (ltI (Int.ofNat N) (Int.ofNat 1)) (KV.bool false = v) (alt (ltI (Int.ofNat 4096) (Int.ofNat N)) (KV.bool false = v) ((1 ≤ N ∧ N ≤ 4096) ∧ cnd (S.blt 9223372036854775808) (cnd ((Nat.add 1 (S % 60)).blt 9223372036854775808) (alt (!eqI (Int.ofNat (C.sec N)) (Int.ofNat (Nat.add 1 (S % 60)))) (KV.bool false = v) (alt (eqI (Int.ofNat N) (Int.ofNat N)) (alt (eqI (Int.ofNat N) (Int.ofNat N)) (KV.bool true = v) (KV.bool false = v)) (KV.bool false = v))))))))) := by kernel_rfl
section
variable {N S : Nat}
theorem run6B_s (hS : S < 256) {h : Nat} (hm : (N, 1 + S % 60, h) ∈ prs) : run6B N S (.bool true) := by
  rw [run6B_eq]
  obtain ⟨p1, p2, p3, p4, p5⟩ := prs_s hm
  have hg : ∃ h, List.Mem (N, Nat.add 1 (S % 60), h) prs := ⟨h, hm⟩
  have e : eqI (Int.ofNat N) (Int.ofNat N) = true := by rw [eqI_nat, beqT]
  refine cnd_iff.2 ⟨sz1 hS, cnd_iff.2 ⟨sz2, sz3, hg, hg, hg, hg, hg, hg, alt_iff.2 ⟨fun q => ?_, fun _ => alt_iff.2 ⟨fun q => ?_, fun _ => ⟨⟨p1, by omega⟩, cnd_iff.2 ⟨sz1 hS, cnd_iff.2 ⟨sz2, alt_iff.2 ⟨fun q => ?_, fun _ => alt_iff.2 ⟨fun _ => alt_iff.2 ⟨fun _ => rfl, fun q => ?_⟩, fun q => ?_⟩⟩⟩⟩⟩⟩⟩⟩⟩
  · rw [ltI_nat, bltT] at q; omega
  · rw [ltI_nat, bltT] at q; omega
  · rw [notT, eqI_nat, beqF] at q; exact absurd p5 q
  · rw [e] at q; cases q
  · rw [e] at q; cases q
end
def s6 : KSpec := fun l K => ∃ (z : Int) (S : Nat), l = [.int .i64 z, .int .u8 (.ofNat S)] ∧ S < 256 ∧ K (.bool true)
theorem kcs6 : @KCS gO Tryz.prog 6 s6 := by
  refine @kcsP gO Tryz.prog 6 _ P6 fun l K hs => ?_
  obtain ⟨z, S, rfl, hS, hK⟩ := hs
  have fin : ∀ {E : KEnv}, @KOk gO E → E.P = Tryz.prog → @callR gO E (@krun gO E 60) 0 6 [.int .i64 z, .int .u8 (.ofNat S)] .e 0 0 (fun r _ _ _ => r = .bool true) → ∃ E : KEnv, @KOk gO E ∧ E.P = Tryz.prog ∧ ∃ (n : Nat) (Q : KV → Prop) (w : KV), K w ∧ noRef w.v = true ∧ (∀ r : KV, Q r → Imp r.v w.v) ∧ @callR gO E (@krun gO E n) 0 6 [.int .i64 z, .int .u8 (.ofNat S)] .e 0 0 fun r _ _ _ => Q r :=
    fun hE hP h => ⟨_, hE, hP, 60, fun r => r = .bool true, _, hK, rfl, fun r hr => by rw [hr]; exact imp_refl _, h⟩
  cases z with
  | negSucc N => exact fin ok6b rfl (run6m_s hS)
  | ofNat N =>
    by_cases h1 : N < 1 ∨ 4096 < N
    · exact fin ok6b rfl (run6b_s hS h1)
    · by_cases h2 : C.sec N = 1 + S % 60
      · obtain ⟨h, hm⟩ := prs_of (N := N) (by omega) (by rw [h2]; omega)
        rw [h2] at hm
        exact fin ok6B rfl (run6B_s hS hm)
      · exact fin ok6g rfl (run6g_s hS (by omega) h2)
end
end Go.K
