/- Fresh volumes of at most 90 blocks: the root, read from the disk. No condition. -/
import Derived.Test.YtfpmealbbibhpaaGreatDoorFR1
import Derived.Test.YtfpmealbbibhpaaGreatDoorFP1
set_option linter.unusedVariables false
namespace Go.K
open Go.Ab Go.RowKit Go.Y Go.Proofs
noncomputable section
attribute [local irreducible] krun callR
def recZ : KV := .cons (.int .u8 (.ofNat 0)) (.cons (.cons (.int .u32 (.ofNat 0)) (.cons (.int .u64 (.ofNat 0)) .nl)) (.cons (.pk .u8 32 0) .nl))
def entZ : KV := .cons (.int .u8 (.ofNat 0)) (.cons (.pk .u8 32 0) .nl)
def tn4 (x : KV) : KV := .tn x (.tn x .te .te .te .te) (.tn x .te .te .te .te) (.tn x .te .te .te .te) .te
def nodeF (h : Nat) : KV := .cons (.int .u8 (.ofNat h)) (.cons (.int .u32 (.ofNat 0)) (.cons (.ar 4 recZ (bsel (Nat.beq h 0) (tn4 recZ) .te)) (.cons (.ar 4 entZ (bsel (Nat.beq h 0) .te (tn4 entZ))) .nl)))
def rootF (h : Nat) : KV := .tup (.cons (nodeF h) (.cons (.cons (.int .i64 (.ofNat 0)) (.cons (.int .u8 (.ofNat 0)) .nl)) (.cons (.int .i64 (.ofNat 0)) .nl)))
def q191 (n : Nat) : Prop := callR EB (krun EB 1000) 0 191 [.cons (.int .i64 (.ofNat n)) (.cons (dskF n) .nl), celF n] .e 0 0 fun r zm _ _ => tK (fzB zm 60 r (rootF (hgtF n)))
theorem fr191_0 : AllR q191 1 30 = AllR (fun _ => True) 1 30 := by kernel_rfl
theorem fr191_1 : AllR q191 31 30 = AllR (fun _ => True) 31 30 := by kernel_rfl
theorem fr191_2 : AllR q191 61 30 = AllR (fun _ => True) 61 30 := by kernel_rfl
attribute [local irreducible] AllR q191
theorem q191_all {n : Nat} (h1 : 1 ≤ n) (h2 : n ≤ 90) : q191 n := by
  rcases Nat.lt_or_ge n 31 with h | h
  · exact allR_of (Eq.mpr fr191_0 (allR_true 1 30)) h1 h
  · rcases Nat.lt_or_ge n 61 with h' | h'
    · exact allR_of (Eq.mpr fr191_1 (allR_true 31 30)) h h'
    · exact allR_of (Eq.mpr fr191_2 (allR_true 61 30)) h' (by omega)
theorem P191 : ∃ fn, Tryz.prog.funcs[191]? = some fn ∧ (fn.name == "runtime.NumGoroutine") = false ∧ fn.body.isNone = false := ⟨Tryz.f191, Tryz.func191, (fnsL.get Tryz.func191).1, by kernel_rfl⟩
def lb2c (l : List KV) (f : KV → KV → Prop) : Prop := match l with
  | [x, y] => f x y
  | _ => BadN 420
theorem lb2c_s {l : List KV} {f : KV → KV → Prop} (h : lb2c l f) : ∃ x y, l = [x, y] ∧ f x y := by
  unfold lb2c at h
  split at h
  · exact ⟨_, _, rfl, h⟩
  · exact h.elim
def s191 : KSpec := fun l K => lb2c l fun x z => onCons (fun a b => onCons (fun y t => onNl (natK a fun n => chk (nd (nd (Nat.ble 1 n) (Nat.ble n 90)) (nd (kvb y (dskF n)) (kvb z (celF n)))) 421 (K (rootF (hgtF n)))) (BadN 423) t) (BadN 424) b) (BadN 425) x
theorem kcs191 : KCS Tryz.prog 191 s191 := by
  refine kcsF P191 fun l K hs => ?_
  obtain ⟨x, z, rfl, h0⟩ := lb2c_s hs
  rcases onCons_inv h0 with ⟨a, b, rfl, h01⟩ | ⟨_, h01⟩
  · rcases onCons_inv h01 with ⟨y, t, rfl, h02⟩ | ⟨_, h02⟩
    · rcases onNl_inv h02 with ⟨rfl, h1⟩ | ⟨_, h1⟩
      · obtain ⟨n, rfl, h2⟩ := natK_s h1
        obtain ⟨h3, h4⟩ := chk_inv h2
        simp only [nd_iff] at h3
        obtain ⟨⟨h5, h6⟩, h7, h8⟩ := h3
        obtain rfl := kvb_s h7
        obtain rfl := kvb_s h8
        have hq := q191_all (Nat.le_of_ble_eq_true h5) (Nat.le_of_ble_eq_true h6)
        unfold q191 at hq
        exact ⟨EB, okB, rfl, 1000, 60, _, h4, hq⟩
      · exact h1.elim
    · exact h02.elim
  · exact h01.elim
def s20c : KSpec := fun l K => la1 l fun x => natK x fun n => chk (nd (Nat.ble 1 n) (Nat.ble n 4096)) 422 (K (frF n))
theorem kcs20c : KCS Tryz.prog 20 s20c := kcs20g.of fun l K hs => by
  obtain ⟨x, rfl, h1⟩ := la1_s hs
  obtain ⟨n, rfl, h2⟩ := natK_s h1
  obtain ⟨h3, h4⟩ := chk_inv h2
  obtain ⟨h5, h6⟩ := nd_iff.1 h3
  exact ⟨⟨Nat.le_of_ble_eq_true h5, Nat.le_of_ble_eq_true h6⟩, h4⟩
def EC : KEnv := E0.tab [(20, s20c), (191, s191), (163, sMem tabb163), (92, sMem tab92), (89, s89c), (282, sMem tab282), (137, sMem tab137), (28, kcon [] (.bool true))]
theorem okC : KOk EC := ok0.tab ⟨kcs20c, kcs191, kcsTb163, kcsT92, kcs89c, kcsT282, kcsT137, rlives_s, trivial⟩
def st4 (n : Nat) : KTm := mkTr [(1, .int .i64 (.ofNat n)), (4, .bool false)]
def runB (n : Nat) : Prop := krun EC 1000000 m4 0 x4d (st4 n) (mkZm []) 40 40 (retK EC.P rs4 fun r _ _ _ => tK (kvb r (.bool true)))
end
end Go.K
