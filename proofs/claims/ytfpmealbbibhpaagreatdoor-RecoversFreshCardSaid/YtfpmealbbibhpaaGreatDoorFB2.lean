/- RecoversFresh: whatever number of blocks is looked at. No condition. RecoversFresh: the law, for every number of blocks and any number. No condition. -/
import Derived.Test.YtfpmealbbibhpaaGreatDoorFB1_0
import Derived.Test.YtfpmealbbibhpaaGreatDoorFB1_1
import Derived.Test.YtfpmealbbibhpaaGreatDoorFB1_2
import Derived.Test.YtfpmealbbibhpaaGreatDoorFB1_3
set_option linter.unusedVariables false
set_option maxRecDepth 100000
namespace Go.K
open Go.Ab Go.RowKit Go.Y Go.Proofs
attribute [local irreducible] AllR runB
theorem runB_all {n : Nat} (h1 : 1 ≤ n) (h2 : n ≤ 90) : runB n := by
  rcases Nat.lt_or_ge n 19 with h3 | h1
  · exact allR_of (Eq.mpr fb_0 (allR_true 1 18)) h1 h3
  rcases Nat.lt_or_ge n 27 with h4 | h1
  · exact allR_of (Eq.mpr fb_1 (allR_true 19 8)) h1 h4
  rcases Nat.lt_or_ge n 33 with h5 | h1
  · exact allR_of (Eq.mpr fb_2 (allR_true 27 6)) h1 h5
  rcases Nat.lt_or_ge n 38 with h6 | h1
  · exact allR_of (Eq.mpr fb_3 (allR_true 33 5)) h1 h6
  rcases Nat.lt_or_ge n 42 with h7 | h1
  · exact allR_of (Eq.mpr fb_4 (allR_true 38 4)) h1 h7
  rcases Nat.lt_or_ge n 46 with h8 | h1
  · exact allR_of (Eq.mpr fb_5 (allR_true 42 4)) h1 h8
  rcases Nat.lt_or_ge n 49 with h9 | h1
  · exact allR_of (Eq.mpr fb_6 (allR_true 46 3)) h1 h9
  rcases Nat.lt_or_ge n 52 with h10 | h1
  · exact allR_of (Eq.mpr fb_7 (allR_true 49 3)) h1 h10
  rcases Nat.lt_or_ge n 55 with h11 | h1
  · exact allR_of (Eq.mpr fb_8 (allR_true 52 3)) h1 h11
  rcases Nat.lt_or_ge n 58 with h12 | h1
  · exact allR_of (Eq.mpr fb_9 (allR_true 55 3)) h1 h12
  rcases Nat.lt_or_ge n 61 with h13 | h1
  · exact allR_of (Eq.mpr fb_10 (allR_true 58 3)) h1 h13
  rcases Nat.lt_or_ge n 63 with h14 | h1
  · exact allR_of (Eq.mpr fb_11 (allR_true 61 2)) h1 h14
  rcases Nat.lt_or_ge n 65 with h15 | h1
  · exact allR_of (Eq.mpr fb_12 (allR_true 63 2)) h1 h15
  rcases Nat.lt_or_ge n 67 with h16 | h1
  · exact allR_of (Eq.mpr fb_13 (allR_true 65 2)) h1 h16
  rcases Nat.lt_or_ge n 69 with h17 | h1
  · exact allR_of (Eq.mpr fb_14 (allR_true 67 2)) h1 h17
  rcases Nat.lt_or_ge n 71 with h18 | h1
  · exact allR_of (Eq.mpr fb_15 (allR_true 69 2)) h1 h18
  rcases Nat.lt_or_ge n 73 with h19 | h1
  · exact allR_of (Eq.mpr fb_16 (allR_true 71 2)) h1 h19
  rcases Nat.lt_or_ge n 75 with h20 | h1
  · exact allR_of (Eq.mpr fb_17 (allR_true 73 2)) h1 h20
  rcases Nat.lt_or_ge n 77 with h21 | h1
  · exact allR_of (Eq.mpr fb_18 (allR_true 75 2)) h1 h21
  rcases Nat.lt_or_ge n 79 with h22 | h1
  · exact allR_of (Eq.mpr fb_19 (allR_true 77 2)) h1 h22
  rcases Nat.lt_or_ge n 81 with h23 | h1
  · exact allR_of (Eq.mpr fb_20 (allR_true 79 2)) h1 h23
  rcases Nat.lt_or_ge n 83 with h24 | h1
  · exact allR_of (Eq.mpr fb_21 (allR_true 81 2)) h1 h24
  rcases Nat.lt_or_ge n 85 with h25 | h1
  · exact allR_of (Eq.mpr fb_22 (allR_true 83 2)) h1 h25
  rcases Nat.lt_or_ge n 87 with h26 | h1
  · exact allR_of (Eq.mpr fb_23 (allR_true 85 2)) h1 h26
  rcases Nat.lt_or_ge n 89 with h27 | h1
  · exact allR_of (Eq.mpr fb_24 (allR_true 87 2)) h1 h27
  exact allR_of (Eq.mpr fb_25 (allR_true 89 2)) h1 (by omega)
end Go.K
set_option linter.unusedSimpArgs false
set_option maxRecDepth 100000
namespace Go.K
open Go.Ab Go.RowKit Go.Y Go.Proofs
noncomputable section
attribute [local irreducible] krun callR mkTr mkZm
def nB (k : Nat) : Nat := Nat.add 1 ((k % 4096).succ.sub 1 % 90)
theorem nB_lt (k : Nat) : 1 ≤ nB k ∧ nB k ≤ 90 := by
  unfold nB
  rw [Nat.add_eq]
  have := Nat.mod_lt ((k % 4096).succ.sub 1) (show 0 < 90 by decide)
  omega
def fin4 (k : Nat) (v : KV) : Prop := k < 65536 ∧ cnd (((k % 4096).succ.sub 1).blt 9223372036854775808) (cnd ((Nat.add 1 ((k % 4096).succ.sub 1 % 90)).blt 9223372036854775808) (KV.int IntKind.i64 (Int.ofNat (Nat.add 1 ((k % 4096).succ.sub 1 % 90))) = v ∧ KV.bool false = KV.bool false ∧ True))
theorem runAm_eq (k N : Nat) (v : KV) : runAm k N v = ((Int.negSucc N < Int.ofNat 1 ∨ Int.ofNat 4096 < Int.negSucc N) ∧ fin4 k v) := by kernel_rfl
theorem runAb_eq (k N : Nat) (v : KV) : runAb k N v = ((Int.ofNat N < Int.ofNat 1 ∨ Int.ofNat 4096 < Int.ofNat N) ∧ alt (ltI (Int.ofNat N) (Int.ofNat 1)) (fin4 k v) (alt (ltI (Int.ofNat 4096) (Int.ofNat N)) (fin4 k v) (BadN 402))) := by kernel_rfl
theorem runAg_eq (k N : Nat) (v : KV) : runAg k N v = ((1 ≤ N ∧ N ≤ 4096) ∧ alt (ltI (Int.ofNat N) (Int.ofNat 1)) (BadN 402) (alt (ltI (Int.ofNat 4096) (Int.ofNat N)) (BadN 402) (fin4 k v))) := by kernel_rfl
theorem fin4_s {k : Nat} (hk : k < 65536) : fin4 k (.int .i64 (.ofNat (nB k))) := by
  unfold fin4
  refine ⟨hk, cnd_iff.2 ⟨?_, cnd_iff.2 ⟨?_, rfl, rfl, trivial⟩⟩⟩
  · rw [Nat.blt_eq]
    have : (k % 4096).succ.sub 1 = k % 4096 := rfl
    rw [this]
    omega
  · rw [Nat.blt_eq]
    have := (nB_lt k).2
    unfold nB at this
    omega
theorem runAm_s {k : Nat} (hk : k < 65536) (N : Nat) : runAm k N (.int .i64 (.ofNat (nB k))) := by
  rw [runAm_eq]
  exact ⟨.inl (by simp only [Int.ofNat_eq_natCast]; omega), fin4_s hk⟩
theorem runAb_s {k N : Nat} (hk : k < 65536) (h : N < 1 ∨ 4096 < N) : runAb k N (.int .i64 (.ofNat (nB k))) := by
  rw [runAb_eq]
  refine ⟨by simp only [Int.ofNat_eq_natCast]; omega, alt_iff.2 ⟨fun _ => fin4_s hk, fun q1 => alt_iff.2 ⟨fun _ => fin4_s hk, fun q2 => ?_⟩⟩⟩
  rw [ltI_nat, bltF] at q1 q2
  omega
theorem runAg_s {k N : Nat} (hk : k < 65536) (h1 : 1 ≤ N) (h2 : N ≤ 4096) : runAg k N (.int .i64 (.ofNat (nB k))) := by
  rw [runAg_eq]
  refine ⟨⟨h1, h2⟩, alt_iff.2 ⟨fun q1 => ?_, fun _ => alt_iff.2 ⟨fun q2 => ?_, fun _ => fin4_s hk⟩⟩⟩
  · rw [ltI_nat, Nat.blt_eq] at q1; omega
  · rw [ltI_nat, Nat.blt_eq] at q2; omega
theorem c4_eq : c4 = .seq (sL c4) (.seq (sL x4a) (.seq (sL x4b) (.seq (sL x4c) x4d))) := by kernel_rfl
theorem fn4 : fnB Tryz.prog 4 = some (c4, rs4) := by kernel_rfl
theorem bd4 (x z : KV) (F : KTm → Prop) : bindA (EO0.km 4) [x, z] 0 .e F = F (mkTr [(0, x), (1, z)]) := by kernel_rfl
theorem keep4 (v : KV) : keepL m4 [(1, v), (4, .bool false)] = true := by kernel_rfl
theorem kN_s {f : KTm → KZ → Nat → Nat → Prop} {e : Exit} {tr : KTm} {zm : KZ} {nx mx : Nat} (h : kN f e tr zm nx mx) : e = .normal ∧ f tr zm nx mx := by
  obtain ⟨h1, h2⟩ := chk_inv h
  exact ⟨exB_s h1, h2⟩
theorem run4 {E : KEnv} (hE : @KOk gO E) (hP : E.P = Tryz.prog) (hm : E.km 4 = EO0.km 4) {k : Nat} {z : Int} (h : runA E k z (.int .i64 (.ofNat (nB k)))) :
    @callR gO E (@wrun gO E) 0 4 [.cons (.int .u16 (.ofNat k)) .nl, .int .i64 z] .e 0 0 fun r _ _ _ => tK (kvb r (.bool true)) := by
  have hr : @wrun gO E m4 0 x4d (mkTr [(1, .int .i64 (.ofNat (nB k))), (4, .bool false)]) (mkZm []) 40 40 (retK Tryz.prog rs4 fun r _ _ _ => tK (kvb r (.bool true))) := by
    obtain ⟨h1, h2⟩ := nB_lt k
    have h3 := runB_all h1 h2
    unfold runB st4 at h3
    exact @wrun.inst kgL gO (fun _ => rfl) EC E (by rw [hP]; rfl) _ _ _ _ _ _ _ _ (@wrun_of kgL EC m4 0 _ _ _ _ _ _ okC _ h3)
  refine @callR_of gO E 4 0 _ _ 0 0 _ c4 rs4 _ _ (by rw [hP]; exact fn4) (fun F => by rw [hm]; exact bd4 _ _ F) ?_
  rw [hP, hm, c4_eq]
  unfold runA at h
  refine @wrun.seq gO _ _ _ _ _ _ _ _ _ _ (@wrun.mono gO _ _ _ _ _ _ _ _ _ _ (@wrun_of gO _ _ _ _ _ _ _ _ _ hE _ h) fun e tr zm nx mx q => .inl ⟨(kN_s q).1, ?_⟩)
  refine @wrun.seq gO _ _ _ _ _ _ _ _ _ _ (@wrun.mono gO _ _ _ _ _ _ _ _ _ _ (@wrun_of gO _ _ _ _ _ _ _ _ _ hE _ (kN_s q).2) fun e tr zm nx mx q => .inl ⟨(kN_s q).1, ?_⟩)
  refine @wrun.seq gO _ _ _ _ _ _ _ _ _ _ (@wrun.mono gO _ _ _ _ _ _ _ _ _ _ (@wrun_of gO _ _ _ _ _ _ _ _ _ hE _ (kN_s q).2) fun e tr zm nx mx q => .inl ⟨(kN_s q).1, ?_⟩)
  exact @wrun.seq gO _ _ _ _ _ _ _ _ _ _ (@wrun.litP gO _ _ _ _ _ _ _ _ _ _ _ _ (@wrun_of gO _ _ _ _ _ _ _ _ _ hE _ (kN_s q).2) (keep4 _) (.inl ⟨rfl, hr⟩))
def s4 : KSpec := fun l K => ∃ k z, k < 65536 ∧ l = [.cons (.int .u16 (.ofNat k)) .nl, .int .i64 z] ∧ K (.bool true)
theorem kcs4 : @KCS gO Tryz.prog 4 s4 := by
  refine @kcsW gO Tryz.prog 4 s4 P4 fun l K hs => ?_
  obtain ⟨k, z, hk, rfl, h⟩ := hs
  cases z with
  | negSucc N => exact ⟨EAb, okAb, rfl, .bool true, h, rfl, run4 okAb rfl rfl (runAm_s hk N)⟩
  | ofNat N =>
    by_cases hN : 1 ≤ N ∧ N ≤ 4096
    · exact ⟨EAg, okAg, rfl, .bool true, h, rfl, run4 okAg rfl rfl (runAg_s hk hN.1 hN.2)⟩
    · exact ⟨EAb, okAb, rfl, .bool true, h, rfl, run4 okAb rfl rfl (runAb_s hk (by omega))⟩
end
end Go.K
