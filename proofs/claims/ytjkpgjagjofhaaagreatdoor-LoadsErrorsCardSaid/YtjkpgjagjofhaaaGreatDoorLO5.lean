/- Volumes that fit their disk, for each number of blocks: closed runs, and runs over an open block. No condition. The functions below those that LoadsErrors calls, where blocks and disk belong together. No condition. The functions that LoadsErrors calls, where blocks and disk belong together. No condition. LoadsErrors: whatever the arguments, it returns true. No condition. -/
import Derived.Test.YtjkpgjagjofhaaaGreatDoorLO3
import Derived.Test.YtjkpgjagjofhaaaGreatDoorLC1
set_option linter.unusedVariables false
set_option linter.unusedSimpArgs false
namespace Go.K
open Go.Ab Go.RowKit Go.Y Go.Proofs
noncomputable section
attribute [local irreducible] krun callR
def AllP (P : Nat → Nat → Nat → Prop) : List (Nat × Nat × Nat) → Prop
  | [] => True
  | x :: l => P x.1 x.2.1 x.2.2 ∧ AllP P l
theorem allP_of {P : Nat → Nat → Nat → Prop} : ∀ {l : List (Nat × Nat × Nat)}, AllP P l → ∀ {n k h : Nat}, (n, k, h) ∈ l → P n k h
  | x :: l, hp, n, k, h, hm => by
    rcases List.mem_cons.1 hm with h1 | h1
    · cases h1; exact hp.1
    · exact allP_of hp.2 h1
theorem allP_true : ∀ l : List (Nat × Nat × Nat), AllP (fun _ _ _ => True) l
  | [] => trivial
  | _ :: l => ⟨trivial, allP_true l⟩
/-- Numbers of blocks, their sectors, their levels. -/
def prs : List (Nat × Nat × Nat) := [(1, 4, 1), (2, 6, 1), (3, 8, 1), (4, 10, 1), (5, 16, 2), (6, 18, 2), (7, 20, 2), (8, 22, 2), (9, 26, 2), (10, 28, 2), (11, 30, 2), (12, 32, 2), (13, 36, 2), (14, 38, 2), (15, 40, 2), (16, 42, 2), (17, 50, 3), (18, 52, 3), (19, 54, 3), (20, 56, 3), (21, 60, 3)]
theorem prs_of {N : Nat} (h1 : 1 ≤ N) (h2 : C.sec N ≤ 60) : ∃ h, (N, C.sec N, h) ∈ prs := by
  have : N ≤ 30 := by unfold C.sec at h2; omega
  match N, h1 with
  | 0, h => omega
  | 1, _ => exact ⟨1, by decide⟩
  | 2, _ => exact ⟨1, by decide⟩
  | 3, _ => exact ⟨1, by decide⟩
  | 4, _ => exact ⟨1, by decide⟩
  | 5, _ => exact ⟨2, by decide⟩
  | 6, _ => exact ⟨2, by decide⟩
  | 7, _ => exact ⟨2, by decide⟩
  | 8, _ => exact ⟨2, by decide⟩
  | 9, _ => exact ⟨2, by decide⟩
  | 10, _ => exact ⟨2, by decide⟩
  | 11, _ => exact ⟨2, by decide⟩
  | 12, _ => exact ⟨2, by decide⟩
  | 13, _ => exact ⟨2, by decide⟩
  | 14, _ => exact ⟨2, by decide⟩
  | 15, _ => exact ⟨2, by decide⟩
  | 16, _ => exact ⟨2, by decide⟩
  | 17, _ => exact ⟨3, by decide⟩
  | 18, _ => exact ⟨3, by decide⟩
  | 19, _ => exact ⟨3, by decide⟩
  | 20, _ => exact ⟨3, by decide⟩
  | 21, _ => exact ⟨3, by decide⟩
  | 22, _ => exact absurd h2 (by decide)
  | 23, _ => exact absurd h2 (by decide)
  | 24, _ => exact absurd h2 (by decide)
  | 25, _ => exact absurd h2 (by decide)
  | 26, _ => exact absurd h2 (by decide)
  | 27, _ => exact absurd h2 (by decide)
  | 28, _ => exact absurd h2 (by decide)
  | 29, _ => exact absurd h2 (by decide)
  | 30, _ => exact absurd h2 (by decide)
  | n + 31, _ => omega
theorem prs_s : ∀ {n k h : Nat}, (n, k, h) ∈ prs → 1 ≤ n ∧ n ≤ 21 ∧ 1 ≤ k ∧ k ≤ 60 ∧ C.sec n = k := by
  intro n k h hm
  have : ∀ x ∈ prs, 1 ≤ x.1 ∧ x.1 ≤ 21 ∧ 1 ≤ x.2.1 ∧ x.2.1 ≤ 60 ∧ C.sec x.1 = x.2.1 := by decide
  exact this _ hm
/-! ### Closed -/
def secW (k : Nat) : KV := .tup (.cons (.int .i64 (.ofNat k)) (.cons (.int .i64 (.ofNat 0)) .nl))
def cell0 : KV := .cons (.ar 32 (.int .u8 (.ofNat 0)) .te) (.cons (.int .u64 (.ofNat 0)) (.cons (.int .u64 (.ofNat 0)) .nl))
def node0 : KV := .cons (.int .u8 (.ofNat 0)) (.cons (.int .u32 (.ofNat 0)) (.cons (.ar 4 (.cons (.int .u8 (.ofNat 0)) (.cons (.cons (.int .u32 (.ofNat 0)) (.cons (.int .u64 (.ofNat 0)) .nl)) (.cons (.pk .u8 32 0) .nl))) .te) (.cons (.ar 4 (.cons (.int .u8 (.ofNat 0)) (.cons (.pk .u8 32 0) .nl)) .te) .nl)))
def rootW (k : Nat) : KV := .tup (.cons node0 (.cons (.cons (.int .i64 (.ofNat (k - 2))) (.cons (.int .u8 (.ofNat 1)) .nl)) (.cons (.int .i64 (.ofNat 9)) .nl)))
def q39 (n k _h : Nat) : Prop := callR E0 (krun E0 1000) 0 39 [.int .i64 (.ofNat n)] .e 0 0 fun r _ _ _ => tK (kvb r (secW k))
def q15 (n k _h : Nat) : Prop := callR E0 (krun E0 1000) 0 15 [.cons (.int .i64 (.ofNat n)) (.cons (dk k) .nl), cell0] .e 0 0 fun r _ _ _ => tK (kvb r (rootW k))
theorem q39_all : AllP q39 prs = AllP (fun _ _ _ => True) prs := by kernel_rfl
theorem q15_all : AllP q15 prs = AllP (fun _ _ _ => True) prs := by kernel_rfl
theorem q39_s {n k h : Nat} (hm : (n, k, h) ∈ prs) : q39 n k h := allP_of (q39_all ▸ allP_true prs) hm
theorem q15_s {n k h : Nat} (hm : (n, k, h) ∈ prs) : q15 n k h := allP_of (q15_all ▸ allP_true prs) hm
/-! ### Over a block -/
def C.cndN : Nat → Nat → Prop → Prop
  | 0, _, X => X
  | h + 1, b, X => cnd ((b.div 4).blt 9223372036854775808) (C.cndN h (b.div 4) X)
theorem cndN_s {X : Prop} (hx : X) : ∀ {h b : Nat}, b < 4294967296 → C.cndN h b X
  | 0, _, _ => hx
  | h + 1, b, hb => by
    have : b.div 4 ≤ b := Nat.div_le_self b 4
    refine cnd_iff.2 ⟨?_, cndN_s hx (by omega)⟩
    rw [Nat.blt_eq]; omega
def run16 (n : Nat) (e : Nat) (b : Int) : Prop := @callR gO EO0 (@krun gO EO0 60) 0 16 [.int .i64 (.ofNat n), .int .i64 b] .e 0 0 fun r _ _ _ => errQ (nI e) r
def run20 (n : Nat) (e : Nat) (b : Int) : Prop := @callR gO EO0 (@krun gO EO0 60) 0 20 [.int .i64 (.ofNat n), .int .i64 b, .int .i64 (.ofNat 0)] .e 0 0 fun r _ _ _ => errQ (nI e) r
def g16 (b : Nat) (n _k h : Nat) : Prop := alt (leI (.ofNat n) (.ofNat b)) False (C.cndN h b True)
def b16 (b : Nat) (n _k h : Nat) : Prop := alt (leI (.ofNat n) (.ofNat b)) True (C.cndN h b False)
def g20 (b : Nat) (n _k _h : Nat) : Prop := alt (leI (.ofNat n) (.ofNat b)) False (cnd ((Nat.mul 2 b).blt 9223372036854775808) (cnd (((Nat.mul 2 b).add 0).blt 9223372036854775808) True))
def b20 (b : Nat) (n _k _h : Nat) : Prop := alt (leI (.ofNat n) (.ofNat b)) True (cnd ((Nat.mul 2 b).blt 9223372036854775808) (cnd (((Nat.mul 2 b).add 0).blt 9223372036854775808) False))
set_option maxRecDepth 100000
theorem g16_all (b : Nat) : AllP (fun n _ _ => b < n → run16 n 0 (.ofNat b)) prs = AllP (fun n k h => b < n → g16 b n k h) prs := by kernel_rfl
theorem b16_all (b : Nat) : AllP (fun n _ _ => n ≤ b → run16 n 1 (.ofNat b)) prs = AllP (fun n k h => n ≤ b → b16 b n k h) prs := by kernel_rfl
theorem m16_all (b : Nat) : AllP (fun n _ _ => run16 n 1 (.negSucc b)) prs = AllP (fun _ _ _ => True) prs := by kernel_rfl
theorem g20_all (b : Nat) : AllP (fun n _ _ => b < n → run20 n 0 (.ofNat b)) prs = AllP (fun n k h => b < n → g20 b n k h) prs := by kernel_rfl
theorem b20_all (b : Nat) : AllP (fun n _ _ => n ≤ b → run20 n 1 (.ofNat b)) prs = AllP (fun n k h => n ≤ b → b20 b n k h) prs := by kernel_rfl
theorem m20_all (b : Nat) : AllP (fun n _ _ => run20 n 1 (.negSucc b)) prs = AllP (fun _ _ _ => True) prs := by kernel_rfl
/-- A block that is there, or is not. -/
def C.blk (z : Int) (n e : Nat) : Prop := (e = 0 ∧ 0 ≤ z ∧ z < n) ∨ (e = 1 ∧ (z < 0 ∨ n ≤ z))
theorem allP_mk {P : Nat → Nat → Nat → Prop} : ∀ {l : List (Nat × Nat × Nat)}, (∀ n k h, (n, k, h) ∈ l → P n k h) → AllP P l
  | [], _ => trivial
  | x :: l, hp => ⟨hp _ _ _ (by simp), allP_mk fun n k h hm => hp n k h (by simp [hm])⟩
theorem leI_nat (a b : Nat) : leI (Int.ofNat a) (Int.ofNat b) = Nat.ble a b := rfl
theorem bleT (a b : Nat) : (Nat.ble a b = true) ↔ a ≤ b := by rw [Nat.ble_eq]
theorem bleF (a b : Nat) : (Nat.ble a b = false) ↔ ¬ a ≤ b := by rw [← Bool.not_eq_true, Nat.ble_eq]
theorem run16_s {n k h : Nat} (hm : (n, k, h) ∈ prs) {e : Nat} {z : Int} (hz : C.blk z n e) : run16 n e z := by
  rcases hz with ⟨rfl, h0, h1⟩ | ⟨rfl, h1⟩
  · cases z with
    | negSucc b => exact absurd h0 (by simp)
    | ofNat b =>
      have hb : b < n := Int.ofNat_lt.1 h1
      refine allP_of (P := fun n _ _ => b < n → run16 n 0 (.ofNat b)) ((g16_all b).symm ▸ allP_mk fun n k h hm hb => ?_) hm hb
      have := prs_s hm
      refine alt_iff.2 ⟨fun q => ?_, fun _ => cndN_s trivial (by omega)⟩
      rw [leI_nat, bleT] at q; omega
  · cases z with
    | negSucc b => exact allP_of (P := fun n _ _ => run16 n 1 (.negSucc b)) ((m16_all b).symm ▸ allP_true prs) hm
    | ofNat b =>
      have hb : n ≤ b := by
        rcases h1 with h1 | h1
        · exact absurd h1 (Int.not_lt.2 (Int.natCast_nonneg b))
        · exact Int.ofNat_le.1 h1
      refine allP_of (P := fun n _ _ => n ≤ b → run16 n 1 (.ofNat b)) ((b16_all b).symm ▸ allP_mk fun n k h hm hb => ?_) hm hb
      refine alt_iff.2 ⟨fun _ => trivial, fun q => ?_⟩
      rw [leI_nat, bleF] at q; omega
theorem run20_s {n k h : Nat} (hm : (n, k, h) ∈ prs) {e : Nat} {z : Int} (hz : C.blk z n e) : run20 n e z := by
  rcases hz with ⟨rfl, h0, h1⟩ | ⟨rfl, h1⟩
  · cases z with
    | negSucc b => exact absurd h0 (by simp)
    | ofNat b =>
      have hb : b < n := Int.ofNat_lt.1 h1
      refine allP_of (P := fun n _ _ => b < n → run20 n 0 (.ofNat b)) ((g20_all b).symm ▸ allP_mk fun n k h hm hb => ?_) hm hb
      have := prs_s hm
      refine alt_iff.2 ⟨fun q => ?_, fun _ => cnd_iff.2 ⟨?_, cnd_iff.2 ⟨?_, trivial⟩⟩⟩
      · rw [leI_nat, bleT] at q; omega
      · rw [Nat.blt_eq]; show 2 * b < _; omega
      · rw [Nat.blt_eq]; show 2 * b + 0 < _; omega
  · cases z with
    | negSucc b => exact allP_of (P := fun n _ _ => run20 n 1 (.negSucc b)) ((m20_all b).symm ▸ allP_true prs) hm
    | ofNat b =>
      have hb : n ≤ b := by
        rcases h1 with h1 | h1
        · exact absurd h1 (Int.not_lt.2 (Int.natCast_nonneg b))
        · exact Int.ofNat_le.1 h1
      refine allP_of (P := fun n _ _ => n ≤ b → run20 n 1 (.ofNat b)) ((b20_all b).symm ▸ allP_mk fun n k h hm hb => ?_) hm hb
      refine alt_iff.2 ⟨fun _ => trivial, fun q => ?_⟩
      rw [leI_nat, bleF] at q; omega
end
end Go.K
set_option linter.unusedVariables false
set_option linter.unusedSimpArgs false
namespace Go.K
open Go.Ab Go.RowKit Go.Y Go.Proofs
noncomputable section
attribute [local irreducible] krun callR
def s4k (k : Nat) : KSpec := fun l K => la1 l fun x => natK x fun m => m = k ∧ K (dkT k)
def errW (e : Nat) : KV := .tup (.cons .unk (.cons (nI e) .nl))
def Good (n k : Nat) : Prop := ∃ h, (n, k, h) ∈ prs
def intK (x : KV) (f : Int → Prop) : Prop := onInt (fun kk z => chk (ikEq kk .i64) 342 (f z)) (BadN 343) x
theorem intK_s {x : KV} {f : Int → Prop} (h : intK x f) : ∃ z, x = .int .i64 z ∧ f z := by
  rcases onInt_inv h with ⟨kk, z, rfl, h1⟩ | ⟨_, h1⟩
  · obtain ⟨h2, h3⟩ := chk_inv h1
    obtain rfl := ikEq_eq h2
    exact ⟨z, rfl, h3⟩
  · exact h1.elim
def dkK (d : KV) (f : Nat → Prop) : Prop := onCons (fun a b => chk (kvb b dkR) 340 (natK a f)) (BadN 341) d
theorem dkK_s {d : KV} {f : Nat → Prop} (h : dkK d f) : ∃ k, d = dk k ∧ f k := by
  rcases onCons_inv h with ⟨a, b, rfl, h1⟩ | ⟨_, h1⟩
  · obtain ⟨h2, h3⟩ := chk_inv h1
    obtain rfl := kvb_s h2
    obtain ⟨k, rfl, h4⟩ := natK_s h3
    exact ⟨k, rfl, h4⟩
  · exact h1.elim
def sBk (e : Nat) (x y : KV) (K : KV → Prop) : Prop := natK x fun n => intK y fun z => ((∃ k, Good n k) ∧ C.blk z n e) ∧ K (errW e)
def s16 (e : Nat) : KSpec := fun l K => lb2 l fun x y => sBk e x y K
def lb3 (l : List KV) (f : KV → KV → KV → Prop) : Prop := match l with
  | [x, y, z] => f x y z
  | _ => BadN 258
theorem lb3_s {l : List KV} {f : KV → KV → KV → Prop} (h : lb3 l f) : ∃ x y z, l = [x, y, z] ∧ f x y z := by
  unfold lb3 at h
  split at h
  · exact ⟨_, _, _, rfl, h⟩
  · exact h.elim
def s20 (e : Nat) : KSpec := fun l K => lb3 l fun x y z => chk (kvb z (.int .i64 (.ofNat 0))) 333 (sBk e x y K)
def s15 : KSpec := fun l K => lb2 l fun v c => onCons (fun x r => onCons (fun d q => onNl (chk (kvb c cell0) 344 (natK x fun n => dkK d fun k => Good n k ∧ K (rootW k))) (BadN 345) q) (BadN 346) r) (BadN 347) v
theorem sBk_s {e : Nat} {x y : KV} {K : KV → Prop} (h : sBk e x y K) : ∃ n k h z, (n, k, h) ∈ prs ∧ x = .int .i64 (.ofNat n) ∧ y = .int .i64 z ∧ C.blk z n e ∧ K (errW e) := by
  obtain ⟨n, rfl, h1⟩ := natK_s h
  obtain ⟨z, rfl, ⟨⟨k, h, hm⟩, h2⟩, h3⟩ := intK_s h1
  exact ⟨n, k, h, z, hm, rfl, rfl, h2, h3⟩
theorem P16 : ∃ fn, Tryz.prog.funcs[16]? = some fn ∧ (fn.name == "runtime.NumGoroutine") = false ∧ fn.body.isNone = false := ⟨Tryz.f16, Tryz.func16, (fnsL.get Tryz.func16).1, by kernel_rfl⟩
theorem P20 : ∃ fn, Tryz.prog.funcs[20]? = some fn ∧ (fn.name == "runtime.NumGoroutine") = false ∧ fn.body.isNone = false := ⟨Tryz.f20, Tryz.func20, (fnsL.get Tryz.func20).1, by kernel_rfl⟩
theorem P15 : ∃ fn, Tryz.prog.funcs[15]? = some fn ∧ (fn.name == "runtime.NumGoroutine") = false ∧ fn.body.isNone = false := ⟨Tryz.f15, Tryz.func15, (fnsL.get Tryz.func15).1, by kernel_rfl⟩
theorem P19 : ∃ fn, Tryz.prog.funcs[19]? = some fn ∧ (fn.name == "runtime.NumGoroutine") = false ∧ fn.body.isNone = false := ⟨Tryz.f19, Tryz.func19, (fnsL.get Tryz.func19).1, by kernel_rfl⟩
theorem kcs16 (e : Nat) : @KCS gO Tryz.prog 16 (s16 e) := by
  refine @kcsP gO Tryz.prog 16 _ P16 fun l K hs => ?_
  obtain ⟨x, y, rfl, h1⟩ := lb2_s hs
  obtain ⟨n, k, h, z, hm, rfl, rfl, h2, h3⟩ := sBk_s h1
  exact ⟨EO0, okO0, rfl, 60, errQ (nI e), _, h3, rfl, fun r hr => errQ_s hr, run16_s hm h2⟩
theorem kcs20 (e : Nat) : @KCS gO Tryz.prog 20 (s20 e) := by
  refine @kcsP gO Tryz.prog 20 _ P20 fun l K hs => ?_
  obtain ⟨x, y, w, rfl, h1⟩ := lb3_s hs
  obtain ⟨h1, h4⟩ := chk_inv h1
  obtain rfl := kvb_s h1
  obtain ⟨n, k, h, z, hm, rfl, rfl, h2, h3⟩ := sBk_s h4
  exact ⟨EO0, okO0, rfl, 60, errQ (nI e), _, h3, rfl, fun r hr => errQ_s hr, run20_s hm h2⟩
theorem kcs15 : KCS Tryz.prog 15 s15 := by
  refine kcsP P15 fun l K hs => ?_
  obtain ⟨v, c, rfl, h1⟩ := lb2_s hs
  rcases onCons_inv h1 with ⟨x, r, rfl, h2⟩ | ⟨_, h2⟩
  · rcases onCons_inv h2 with ⟨d, q, rfl, h3⟩ | ⟨_, h3⟩
    · rcases onNl_inv h3 with ⟨rfl, h4⟩ | ⟨_, h4⟩
      · obtain ⟨h5, h6⟩ := chk_inv h4
        obtain rfl := kvb_s h5
        obtain ⟨n, rfl, h7⟩ := natK_s h6
        obtain ⟨k, rfl, ⟨h, hm⟩, h9⟩ := dkK_s h7
        exact ⟨E0, ok0, rfl, 1000, fun r => tK (kvb r (rootW k)), _, h9, rfl, fun r hr => by rw [kvb_s (tK_s hr)]; exact imp_refl _, q15_s hm⟩
      · exact h4.elim
    · exact h3.elim
  · exact h2.elim
/-! ### The functions of the law -/
def zK : KV := .cons (.ar 16 (.int .u8 (.ofNat 0)) .te) (.cons (.ar 32 (.int .u8 (.ofNat 0)) .te) .nl)
def zB : KV := .ar 32 (.int .u8 (.ofNat 0)) .te
def zR : KV := .cons (.int .u8 (.ofNat 0)) (.cons (.cons (.int .u32 (.ofNat 0)) (.cons (.int .u64 (.ofNat 0)) .nl)) (.cons zB .nl))
def zN : KV := .cons (.int .u8 (.ofNat 0)) (.cons (.int .u32 (.ofNat 0)) (.cons (.ar 4 zR .te) (.cons (.ar 4 (.cons (.int .u8 (.ofNat 0)) (.cons zB .nl)) .te) .nl)))
def pb (s f e : Nat) : KV := .cons (.cons (nI s) (.cons (.int .u8 (.ofNat f)) .nl)) (.cons (nI e) .nl)
def tl (k e : Nat) : KV := @Nat.rec (fun _ => KV) (pb (k - 2) 1 9) (fun _ _ => pb 0 0 1) e
def w6 (k e : Nat) : KV := .tup (.cons .nils (tl k e))
def w7 (k e : Nat) : KV := .tup (.cons zR (tl k e))
def w8 (k e : Nat) : KV := .tup (.cons zB (tl k e))
def w9 (_k _e : Nat) : KV := .tup (.cons zN (pb 0 0 11))
def w10 (_k e : Nat) : KV := .tup (.cons zB (pb 0 0 e))
/-- A node of zeros fits. -/
def q19 (n _k _h : Nat) : Prop := callR E0 (krun E0 1000) 0 19 [.int .i64 (.ofNat n), zN] .e 0 0 fun r _ _ _ => tK (kvb r (nI 0))
theorem q19_all : AllP q19 prs = AllP (fun _ _ _ => True) prs := by kernel_rfl
theorem q19_s {n k h : Nat} (hm : (n, k, h) ∈ prs) : q19 n k h := allP_of (q19_all ▸ allP_true prs) hm
def s19 : KSpec := fun l K => lb2 l fun x c => chk (kvb c zN) 348 (natK x fun n => (∃ k, Good n k) ∧ K (nI 0))
theorem kcs19 : KCS Tryz.prog 19 s19 := by
  refine kcsP P19 fun l K hs => ?_
  obtain ⟨x, c, rfl, h1⟩ := lb2_s hs
  obtain ⟨h2, h3⟩ := chk_inv h1
  obtain rfl := kvb_s h2
  obtain ⟨n, rfl, ⟨k, h, hm⟩, h4⟩ := natK_s h3
  exact ⟨E0, ok0, rfl, 1000, fun r => tK (kvb r (nI 0)), _, h4, rfl, fun r hr => by rw [kvb_s (tK_s hr)]; exact imp_refl _, q19_s hm⟩
def tB (e : Nat) : List (Nat × KSpec) := [(39, s39g), (16, s16 e), (20, s20 e), (15, s15), (19, s19)]
def EB (e : Nat) : KEnv := EO0.tab (tB e)
theorem okB (e : Nat) : @KOk gO (EB e) := @KOk.tab gO EO0 okO0 _ ⟨kcs39g, kcs16 e, kcs20 e, kcs15.opn, kcs19.opn, trivial⟩
end
end Go.K
set_option linter.unusedVariables false
set_option linter.unusedSimpArgs false
namespace Go.K
open Go.Ab Go.RowKit Go.Y Go.Proofs
noncomputable section
attribute [local irreducible] krun callR
set_option maxRecDepth 100000
theorem tl_nr (k e : Nat) : noRef (tl k e).v = true := by cases e <;> rfl
def lb4 (l : List KV) (f : KV → KV → KV → KV → Prop) : Prop := match l with
  | [x, y, z, w] => f x y z w
  | _ => BadN 258
theorem lb4_s {l : List KV} {f : KV → KV → KV → KV → Prop} (h : lb4 l f) : ∃ x y z w, l = [x, y, z, w] ∧ f x y z w := by
  unfold lb4 at h
  split at h
  · exact ⟨_, _, _, _, rfl, h⟩
  · exact h.elim
def lb5 (l : List KV) (f : KV → KV → KV → KV → KV → Prop) : Prop := match l with
  | [x, y, z, w, v] => f x y z w v
  | _ => BadN 258
theorem lb5_s {l : List KV} {f : KV → KV → KV → KV → KV → Prop} (h : lb5 l f) : ∃ x y z w v, l = [x, y, z, w, v] ∧ f x y z w v := by
  unfold lb5 at h
  split at h
  · exact ⟨_, _, _, _, _, rfl, h⟩
  · exact h.elim
def r5_0 (n k : Nat) (b : Int) (v : KV) : Prop := @callR gO (EB 0) (@krun gO (EB 0) 60) 0 5 [nI n, dk k, cell0] .e 0 0 fun r _ _ _ => r = v
theorem r5_0_eq (n k : Nat) (b : Int) (v : KV) : r5_0 n k b v = ((1 ≤ n ∧ n ≤ 4096) ∧ alt (!eqI (Int.ofNat k) (Int.ofNat (C.sec n))) ((((KV.int IntKind.u8 (Int.ofNat 0)).cons ((KV.int IntKind.u32 (Int.ofNat 0)).cons ((KV.ar 4 ((KV.int IntKind.u8 (Int.ofNat 0)).cons (((KV.int IntKind.u32 (Int.ofNat 0)).cons ((KV.int IntKind.u64 (Int.ofNat 0)).cons KV.nl)).cons ((KV.ar 32 (KV.int IntKind.u8 (Int.ofNat 0)) KV.te).cons KV.nl))) KV.te).cons ((KV.ar 4 ((KV.int IntKind.u8 (Int.ofNat 0)).cons ((KV.ar 32 (KV.int IntKind.u8 (Int.ofNat 0)) KV.te).cons KV.nl)) KV.te).cons KV.nl)))).cons (((KV.int IntKind.i64 (Int.ofNat 0)).cons ((KV.int IntKind.u8 (Int.ofNat 0)).cons KV.nl)).cons ((KV.int IntKind.i64 (Int.ofNat 1)).cons KV.nl))).tup = v) ((∃ (h : Nat), List.Mem (n, k, h) prs) ∧ (((KV.int IntKind.u8 (Int.ofNat 0)).cons ((KV.int IntKind.u32 (Int.ofNat 0)).cons ((KV.ar 4 ((KV.int IntKind.u8 (Int.ofNat 0)).cons (((KV.int IntKind.u32 (Int.ofNat 0)).cons ((KV.int IntKind.u64 (Int.ofNat 0)).cons KV.nl)).cons ((KV.pk IntKind.u8 32 0).cons KV.nl))) KV.te).cons ((KV.ar 4 ((KV.int IntKind.u8 (Int.ofNat 0)).cons ((KV.pk IntKind.u8 32 0).cons KV.nl)) KV.te).cons KV.nl)))).cons (((KV.int IntKind.i64 (Int.ofNat (k - 2))).cons ((KV.int IntKind.u8 (Int.ofNat 1)).cons KV.nl)).cons ((KV.int IntKind.i64 (Int.ofNat 9)).cons KV.nl))).tup = v)) := by kernel_rfl
theorem r5_0_s {n k h : Nat} {b : Int} (hm : (n, k, h) ∈ prs) : r5_0 n k b ((fun k _ => rootW k) k 0) := by
  rw [r5_0_eq]
  obtain ⟨p1, p2, p3, p4, p5⟩ := prs_s hm
  refine ⟨⟨p1, by omega⟩, alt_iff.2 ⟨fun q => ?_, fun _ => ?_⟩⟩
  · rw [notT, eqI_nat, beqF] at q
    exact absurd p5.symm q
  · repeat' first | assumption | exact ⟨h, hm⟩ | exact ⟨k, h, hm⟩ | rfl | apply And.intro
def r6_0 (n k : Nat) (b : Int) (v : KV) : Prop := @callR gO (EB 0) (@krun gO (EB 0) 60) 0 6 [nI n, dk k, cell0, .int .i64 b] .e 0 0 fun r _ _ _ => r = v
theorem r6_0_eq (n k : Nat) (b : Int) (v : KV) : r6_0 n k b v = ((1 ≤ n ∧ n ≤ 4096) ∧ alt (!eqI (Int.ofNat k) (Int.ofNat (C.sec n))) ((KV.nils.cons (((KV.int IntKind.i64 (Int.ofNat 0)).cons ((KV.int IntKind.u8 (Int.ofNat 0)).cons KV.nl)).cons ((KV.int IntKind.i64 (Int.ofNat 1)).cons KV.nl))).tup = v) (((∃ (k : Nat), ∃ (h : Nat), List.Mem (n, k, h) prs) ∧ C.blk b n (0 : Nat)) ∧ (∃ (h : Nat), List.Mem (n, k, h) prs) ∧ (KV.nils.cons (((KV.int IntKind.i64 (Int.ofNat (k - 2))).cons ((KV.int IntKind.u8 (Int.ofNat 1)).cons KV.nl)).cons ((KV.int IntKind.i64 (Int.ofNat 9)).cons KV.nl))).tup = v)) := by kernel_rfl
theorem r6_0_s {n k h : Nat} {b : Int} (hm : (n, k, h) ∈ prs) (hb : C.blk b n 0) : r6_0 n k b (w6 k 0) := by
  rw [r6_0_eq]
  obtain ⟨p1, p2, p3, p4, p5⟩ := prs_s hm
  refine ⟨⟨p1, by omega⟩, alt_iff.2 ⟨fun q => ?_, fun _ => ?_⟩⟩
  · rw [notT, eqI_nat, beqF] at q
    exact absurd p5.symm q
  · repeat' first | assumption | exact ⟨h, hm⟩ | exact ⟨k, h, hm⟩ | rfl | apply And.intro
def r6_1 (n k : Nat) (b : Int) (v : KV) : Prop := @callR gO (EB 1) (@krun gO (EB 1) 60) 0 6 [nI n, dk k, cell0, .int .i64 b] .e 0 0 fun r _ _ _ => r = v
theorem r6_1_eq (n k : Nat) (b : Int) (v : KV) : r6_1 n k b v = ((1 ≤ n ∧ n ≤ 4096) ∧ alt (!eqI (Int.ofNat k) (Int.ofNat (C.sec n))) ((KV.nils.cons (((KV.int IntKind.i64 (Int.ofNat 0)).cons ((KV.int IntKind.u8 (Int.ofNat 0)).cons KV.nl)).cons ((KV.int IntKind.i64 (Int.ofNat 1)).cons KV.nl))).tup = v) (((∃ (k : Nat), ∃ (h : Nat), List.Mem (n, k, h) prs) ∧ C.blk b n (1 : Nat)) ∧ (KV.nils.cons (((KV.int IntKind.i64 (Int.ofNat 0)).cons ((KV.int IntKind.u8 (Int.ofNat 0)).cons KV.nl)).cons ((KV.int IntKind.i64 (Int.ofNat 1)).cons KV.nl))).tup = v)) := by kernel_rfl
theorem r6_1_s {n k h : Nat} {b : Int} (hm : (n, k, h) ∈ prs) (hb : C.blk b n 1) : r6_1 n k b (w6 k 1) := by
  rw [r6_1_eq]
  obtain ⟨p1, p2, p3, p4, p5⟩ := prs_s hm
  refine ⟨⟨p1, by omega⟩, alt_iff.2 ⟨fun q => ?_, fun _ => ?_⟩⟩
  · rw [notT, eqI_nat, beqF] at q
    exact absurd p5.symm q
  · repeat' first | assumption | exact ⟨h, hm⟩ | exact ⟨k, h, hm⟩ | rfl | apply And.intro
def r7_0 (n k : Nat) (b : Int) (v : KV) : Prop := @callR gO (EB 0) (@krun gO (EB 0) 60) 0 7 [nI n, dk k, cell0, .int .i64 b] .e 0 0 fun r _ _ _ => r = v
theorem r7_0_eq (n k : Nat) (b : Int) (v : KV) : r7_0 n k b v = ((1 ≤ n ∧ n ≤ 4096) ∧ alt (!eqI (Int.ofNat k) (Int.ofNat (C.sec n))) ((((KV.int IntKind.u8 (Int.ofNat 0)).cons (((KV.int IntKind.u32 (Int.ofNat 0)).cons ((KV.int IntKind.u64 (Int.ofNat 0)).cons KV.nl)).cons ((KV.ar 32 (KV.int IntKind.u8 (Int.ofNat 0)) KV.te).cons KV.nl))).cons (((KV.int IntKind.i64 (Int.ofNat 0)).cons ((KV.int IntKind.u8 (Int.ofNat 0)).cons KV.nl)).cons ((KV.int IntKind.i64 (Int.ofNat 1)).cons KV.nl))).tup = v) (((∃ (k : Nat), ∃ (h : Nat), List.Mem (n, k, h) prs) ∧ C.blk b n (0 : Nat)) ∧ (∃ (h : Nat), List.Mem (n, k, h) prs) ∧ (((KV.int IntKind.u8 (Int.ofNat 0)).cons (((KV.int IntKind.u32 (Int.ofNat 0)).cons ((KV.int IntKind.u64 (Int.ofNat 0)).cons KV.nl)).cons ((KV.ar 32 (KV.int IntKind.u8 (Int.ofNat 0)) KV.te).cons KV.nl))).cons (((KV.int IntKind.i64 (Int.ofNat (k - 2))).cons ((KV.int IntKind.u8 (Int.ofNat 1)).cons KV.nl)).cons ((KV.int IntKind.i64 (Int.ofNat 9)).cons KV.nl))).tup = v)) := by kernel_rfl
theorem r7_0_s {n k h : Nat} {b : Int} (hm : (n, k, h) ∈ prs) (hb : C.blk b n 0) : r7_0 n k b (w7 k 0) := by
  rw [r7_0_eq]
  obtain ⟨p1, p2, p3, p4, p5⟩ := prs_s hm
  refine ⟨⟨p1, by omega⟩, alt_iff.2 ⟨fun q => ?_, fun _ => ?_⟩⟩
  · rw [notT, eqI_nat, beqF] at q
    exact absurd p5.symm q
  · repeat' first | assumption | exact ⟨h, hm⟩ | exact ⟨k, h, hm⟩ | rfl | apply And.intro
def r7_1 (n k : Nat) (b : Int) (v : KV) : Prop := @callR gO (EB 1) (@krun gO (EB 1) 60) 0 7 [nI n, dk k, cell0, .int .i64 b] .e 0 0 fun r _ _ _ => r = v
theorem r7_1_eq (n k : Nat) (b : Int) (v : KV) : r7_1 n k b v = ((1 ≤ n ∧ n ≤ 4096) ∧ alt (!eqI (Int.ofNat k) (Int.ofNat (C.sec n))) ((((KV.int IntKind.u8 (Int.ofNat 0)).cons (((KV.int IntKind.u32 (Int.ofNat 0)).cons ((KV.int IntKind.u64 (Int.ofNat 0)).cons KV.nl)).cons ((KV.ar 32 (KV.int IntKind.u8 (Int.ofNat 0)) KV.te).cons KV.nl))).cons (((KV.int IntKind.i64 (Int.ofNat 0)).cons ((KV.int IntKind.u8 (Int.ofNat 0)).cons KV.nl)).cons ((KV.int IntKind.i64 (Int.ofNat 1)).cons KV.nl))).tup = v) (((∃ (k : Nat), ∃ (h : Nat), List.Mem (n, k, h) prs) ∧ C.blk b n (1 : Nat)) ∧ (((KV.int IntKind.u8 (Int.ofNat 0)).cons (((KV.int IntKind.u32 (Int.ofNat 0)).cons ((KV.int IntKind.u64 (Int.ofNat 0)).cons KV.nl)).cons ((KV.ar 32 (KV.int IntKind.u8 (Int.ofNat 0)) KV.te).cons KV.nl))).cons (((KV.int IntKind.i64 (Int.ofNat 0)).cons ((KV.int IntKind.u8 (Int.ofNat 0)).cons KV.nl)).cons ((KV.int IntKind.i64 (Int.ofNat 1)).cons KV.nl))).tup = v)) := by kernel_rfl
theorem r7_1_s {n k h : Nat} {b : Int} (hm : (n, k, h) ∈ prs) (hb : C.blk b n 1) : r7_1 n k b (w7 k 1) := by
  rw [r7_1_eq]
  obtain ⟨p1, p2, p3, p4, p5⟩ := prs_s hm
  refine ⟨⟨p1, by omega⟩, alt_iff.2 ⟨fun q => ?_, fun _ => ?_⟩⟩
  · rw [notT, eqI_nat, beqF] at q
    exact absurd p5.symm q
  · repeat' first | assumption | exact ⟨h, hm⟩ | exact ⟨k, h, hm⟩ | rfl | apply And.intro
def r8_0 (n k : Nat) (b : Int) (v : KV) : Prop := @callR gO (EB 0) (@krun gO (EB 0) 60) 0 8 [nI n, dk k, cell0, zK, .int .i64 b] .e 0 0 fun r _ _ _ => r = v
theorem r8_0_eq (n k : Nat) (b : Int) (v : KV) : r8_0 n k b v = ((1 ≤ n ∧ n ≤ 4096) ∧ alt (!eqI (Int.ofNat k) (Int.ofNat (C.sec n))) (((KV.ar 32 (KV.int IntKind.u8 (Int.ofNat 0)) KV.te).cons (((KV.int IntKind.i64 (Int.ofNat 0)).cons ((KV.int IntKind.u8 (Int.ofNat 0)).cons KV.nl)).cons ((KV.int IntKind.i64 (Int.ofNat 1)).cons KV.nl))).tup = v) (((∃ (k : Nat), ∃ (h : Nat), List.Mem (n, k, h) prs) ∧ C.blk b n (0 : Nat)) ∧ (∃ (h : Nat), List.Mem (n, k, h) prs) ∧ ((KV.ar 32 (KV.int IntKind.u8 (Int.ofNat 0)) KV.te).cons (((KV.int IntKind.i64 (Int.ofNat (k - 2))).cons ((KV.int IntKind.u8 (Int.ofNat 1)).cons KV.nl)).cons ((KV.int IntKind.i64 (Int.ofNat 9)).cons KV.nl))).tup = v)) := by kernel_rfl
theorem r8_0_s {n k h : Nat} {b : Int} (hm : (n, k, h) ∈ prs) (hb : C.blk b n 0) : r8_0 n k b (w8 k 0) := by
  rw [r8_0_eq]
  obtain ⟨p1, p2, p3, p4, p5⟩ := prs_s hm
  refine ⟨⟨p1, by omega⟩, alt_iff.2 ⟨fun q => ?_, fun _ => ?_⟩⟩
  · rw [notT, eqI_nat, beqF] at q
    exact absurd p5.symm q
  · repeat' first | assumption | exact ⟨h, hm⟩ | exact ⟨k, h, hm⟩ | rfl | apply And.intro
def r8_1 (n k : Nat) (b : Int) (v : KV) : Prop := @callR gO (EB 1) (@krun gO (EB 1) 60) 0 8 [nI n, dk k, cell0, zK, .int .i64 b] .e 0 0 fun r _ _ _ => r = v
theorem r8_1_eq (n k : Nat) (b : Int) (v : KV) : r8_1 n k b v = ((1 ≤ n ∧ n ≤ 4096) ∧ alt (!eqI (Int.ofNat k) (Int.ofNat (C.sec n))) (((KV.ar 32 (KV.int IntKind.u8 (Int.ofNat 0)) KV.te).cons (((KV.int IntKind.i64 (Int.ofNat 0)).cons ((KV.int IntKind.u8 (Int.ofNat 0)).cons KV.nl)).cons ((KV.int IntKind.i64 (Int.ofNat 1)).cons KV.nl))).tup = v) (((∃ (k : Nat), ∃ (h : Nat), List.Mem (n, k, h) prs) ∧ C.blk b n (1 : Nat)) ∧ ((KV.ar 32 (KV.int IntKind.u8 (Int.ofNat 0)) KV.te).cons (((KV.int IntKind.i64 (Int.ofNat 0)).cons ((KV.int IntKind.u8 (Int.ofNat 0)).cons KV.nl)).cons ((KV.int IntKind.i64 (Int.ofNat 1)).cons KV.nl))).tup = v)) := by kernel_rfl
theorem r8_1_s {n k h : Nat} {b : Int} (hm : (n, k, h) ∈ prs) (hb : C.blk b n 1) : r8_1 n k b (w8 k 1) := by
  rw [r8_1_eq]
  obtain ⟨p1, p2, p3, p4, p5⟩ := prs_s hm
  refine ⟨⟨p1, by omega⟩, alt_iff.2 ⟨fun q => ?_, fun _ => ?_⟩⟩
  · rw [notT, eqI_nat, beqF] at q
    exact absurd p5.symm q
  · repeat' first | assumption | exact ⟨h, hm⟩ | exact ⟨k, h, hm⟩ | rfl | apply And.intro
def r9_0 (n k : Nat) (b : Int) (v : KV) : Prop := @callR gO (EB 0) (@krun gO (EB 0) 60) 0 9 [nI n, dk k, zN, nI 0] .e 0 0 fun r _ _ _ => r = v
theorem r9_0_eq (n k : Nat) (b : Int) (v : KV) : r9_0 n k b v = ((1 ≤ n ∧ n ≤ 4096) ∧ alt (!eqI (Int.ofNat k) (Int.ofNat (C.sec n))) ((((KV.int IntKind.u8 (Int.ofNat 0)).cons ((KV.int IntKind.u32 (Int.ofNat 0)).cons ((KV.ar 4 ((KV.int IntKind.u8 (Int.ofNat 0)).cons (((KV.int IntKind.u32 (Int.ofNat 0)).cons ((KV.int IntKind.u64 (Int.ofNat 0)).cons KV.nl)).cons ((KV.ar 32 (KV.int IntKind.u8 (Int.ofNat 0)) KV.te).cons KV.nl))) KV.te).cons ((KV.ar 4 ((KV.int IntKind.u8 (Int.ofNat 0)).cons ((KV.ar 32 (KV.int IntKind.u8 (Int.ofNat 0)) KV.te).cons KV.nl)) KV.te).cons KV.nl)))).cons (((KV.int IntKind.i64 (Int.ofNat 0)).cons ((KV.int IntKind.u8 (Int.ofNat 0)).cons KV.nl)).cons ((KV.int IntKind.i64 (Int.ofNat 1)).cons KV.nl))).tup = v) ((∃ (k : Nat), ∃ (h : Nat), List.Mem (n, k, h) prs) ∧ (((KV.int IntKind.u8 (Int.ofNat 0)).cons ((KV.int IntKind.u32 (Int.ofNat 0)).cons ((KV.ar 4 ((KV.int IntKind.u8 (Int.ofNat 0)).cons (((KV.int IntKind.u32 (Int.ofNat 0)).cons ((KV.int IntKind.u64 (Int.ofNat 0)).cons KV.nl)).cons ((KV.ar 32 (KV.int IntKind.u8 (Int.ofNat 0)) KV.te).cons KV.nl))) KV.te).cons ((KV.ar 4 ((KV.int IntKind.u8 (Int.ofNat 0)).cons ((KV.ar 32 (KV.int IntKind.u8 (Int.ofNat 0)) KV.te).cons KV.nl)) KV.te).cons KV.nl)))).cons (((KV.int IntKind.i64 (Int.ofNat 0)).cons ((KV.int IntKind.u8 (Int.ofNat 0)).cons KV.nl)).cons ((KV.int IntKind.i64 (Int.ofNat 11)).cons KV.nl))).tup = v)) := by kernel_rfl
theorem r9_0_s {n k h : Nat} {b : Int} (hm : (n, k, h) ∈ prs) : r9_0 n k b (w9 k 0) := by
  rw [r9_0_eq]
  obtain ⟨p1, p2, p3, p4, p5⟩ := prs_s hm
  refine ⟨⟨p1, by omega⟩, alt_iff.2 ⟨fun q => ?_, fun _ => ?_⟩⟩
  · rw [notT, eqI_nat, beqF] at q
    exact absurd p5.symm q
  · repeat' first | assumption | exact ⟨h, hm⟩ | exact ⟨k, h, hm⟩ | rfl | apply And.intro
def r10_0 (n k : Nat) (b : Int) (v : KV) : Prop := @callR gO (EB 0) (@krun gO (EB 0) 60) 0 10 [nI n, dk k, zK, .int .i64 b, zR] .e 0 0 fun r _ _ _ => r = v
theorem r10_0_eq (n k : Nat) (b : Int) (v : KV) : r10_0 n k b v = ((1 ≤ n ∧ n ≤ 4096) ∧ alt (!eqI (Int.ofNat k) (Int.ofNat (C.sec n))) (((KV.ar 32 (KV.int IntKind.u8 (Int.ofNat 0)) KV.te).cons (((KV.int IntKind.i64 (Int.ofNat 0)).cons ((KV.int IntKind.u8 (Int.ofNat 0)).cons KV.nl)).cons ((KV.int IntKind.i64 (Int.ofNat 1)).cons KV.nl))).tup = v) (((∃ (k : Nat), ∃ (h : Nat), List.Mem (n, k, h) prs) ∧ C.blk b n (0 : Nat)) ∧ ((KV.ar 32 (KV.int IntKind.u8 (Int.ofNat 0)) KV.te).cons (((KV.int IntKind.i64 (Int.ofNat 0)).cons ((KV.int IntKind.u8 (Int.ofNat 0)).cons KV.nl)).cons ((KV.int IntKind.i64 (Int.ofNat 0)).cons KV.nl))).tup = v)) := by kernel_rfl
theorem r10_0_s {n k h : Nat} {b : Int} (hm : (n, k, h) ∈ prs) (hb : C.blk b n 0) : r10_0 n k b (w10 k 0) := by
  rw [r10_0_eq]
  obtain ⟨p1, p2, p3, p4, p5⟩ := prs_s hm
  refine ⟨⟨p1, by omega⟩, alt_iff.2 ⟨fun q => ?_, fun _ => ?_⟩⟩
  · rw [notT, eqI_nat, beqF] at q
    exact absurd p5.symm q
  · repeat' first | assumption | exact ⟨h, hm⟩ | exact ⟨k, h, hm⟩ | rfl | apply And.intro
def r10_1 (n k : Nat) (b : Int) (v : KV) : Prop := @callR gO (EB 1) (@krun gO (EB 1) 60) 0 10 [nI n, dk k, zK, .int .i64 b, zR] .e 0 0 fun r _ _ _ => r = v
theorem r10_1_eq (n k : Nat) (b : Int) (v : KV) : r10_1 n k b v = ((1 ≤ n ∧ n ≤ 4096) ∧ alt (!eqI (Int.ofNat k) (Int.ofNat (C.sec n))) (((KV.ar 32 (KV.int IntKind.u8 (Int.ofNat 0)) KV.te).cons (((KV.int IntKind.i64 (Int.ofNat 0)).cons ((KV.int IntKind.u8 (Int.ofNat 0)).cons KV.nl)).cons ((KV.int IntKind.i64 (Int.ofNat 1)).cons KV.nl))).tup = v) (((∃ (k : Nat), ∃ (h : Nat), List.Mem (n, k, h) prs) ∧ C.blk b n (1 : Nat)) ∧ ((KV.ar 32 (KV.int IntKind.u8 (Int.ofNat 0)) KV.te).cons (((KV.int IntKind.i64 (Int.ofNat 0)).cons ((KV.int IntKind.u8 (Int.ofNat 0)).cons KV.nl)).cons ((KV.int IntKind.i64 (Int.ofNat 1)).cons KV.nl))).tup = v)) := by kernel_rfl
theorem r10_1_s {n k h : Nat} {b : Int} (hm : (n, k, h) ∈ prs) (hb : C.blk b n 1) : r10_1 n k b (w10 k 1) := by
  rw [r10_1_eq]
  obtain ⟨p1, p2, p3, p4, p5⟩ := prs_s hm
  refine ⟨⟨p1, by omega⟩, alt_iff.2 ⟨fun q => ?_, fun _ => ?_⟩⟩
  · rw [notT, eqI_nat, beqF] at q
    exact absurd p5.symm q
  · repeat' first | assumption | exact ⟨h, hm⟩ | exact ⟨k, h, hm⟩ | rfl | apply And.intro
def s5 : KSpec := fun l K => lb3 l fun x d c => natK x fun n => dkK d fun k => chk (kvb c cell0) 344 (Good n k ∧ K (rootW k))
def s6 (e : Nat) : KSpec := fun l K => lb4 l fun x d c b => natK x fun n => dkK d fun k => chk (kvb c cell0) 344 (intK b fun z => (Good n k ∧ C.blk z n e) ∧ K (w6 k e))
def s7 (e : Nat) : KSpec := fun l K => lb4 l fun x d c b => natK x fun n => dkK d fun k => chk (kvb c cell0) 344 (intK b fun z => (Good n k ∧ C.blk z n e) ∧ K (w7 k e))
def s8 (e : Nat) : KSpec := fun l K => lb5 l fun x d c g b => natK x fun n => dkK d fun k => chk (nd (kvb c cell0) (kvb g zK)) 344 (intK b fun z => (Good n k ∧ C.blk z n e) ∧ K (w8 k e))
def s9 : KSpec := fun l K => lb4 l fun x d c b => natK x fun n => dkK d fun k => chk (nd (kvb c zN) (kvb b (nI 0))) 344 (Good n k ∧ K (w9 k 0))
def s10 (e : Nat) : KSpec := fun l K => lb5 l fun x d g b r => natK x fun n => dkK d fun k => chk (nd (kvb g zK) (kvb r zR)) 344 (intK b fun z => (Good n k ∧ C.blk z n e) ∧ K (w10 k e))
theorem blk_e {z : Int} {n e : Nat} (h : C.blk z n e) : e = 0 ∨ e = 1 := h.imp (fun h => h.1) fun h => h.1
theorem P5 : ∃ fn, Tryz.prog.funcs[5]? = some fn ∧ (fn.name == "runtime.NumGoroutine") = false ∧ fn.body.isNone = false := ⟨Tryz.f5, Tryz.func5, (fnsL.get Tryz.func5).1, by kernel_rfl⟩
theorem P6 : ∃ fn, Tryz.prog.funcs[6]? = some fn ∧ (fn.name == "runtime.NumGoroutine") = false ∧ fn.body.isNone = false := ⟨Tryz.f6, Tryz.func6, (fnsL.get Tryz.func6).1, by kernel_rfl⟩
theorem P7 : ∃ fn, Tryz.prog.funcs[7]? = some fn ∧ (fn.name == "runtime.NumGoroutine") = false ∧ fn.body.isNone = false := ⟨Tryz.f7, Tryz.func7, (fnsL.get Tryz.func7).1, by kernel_rfl⟩
theorem P8 : ∃ fn, Tryz.prog.funcs[8]? = some fn ∧ (fn.name == "runtime.NumGoroutine") = false ∧ fn.body.isNone = false := ⟨Tryz.f8, Tryz.func8, (fnsL.get Tryz.func8).1, by kernel_rfl⟩
theorem P9 : ∃ fn, Tryz.prog.funcs[9]? = some fn ∧ (fn.name == "runtime.NumGoroutine") = false ∧ fn.body.isNone = false := ⟨Tryz.f9, Tryz.func9, (fnsL.get Tryz.func9).1, by kernel_rfl⟩
theorem P10 : ∃ fn, Tryz.prog.funcs[10]? = some fn ∧ (fn.name == "runtime.NumGoroutine") = false ∧ fn.body.isNone = false := ⟨Tryz.f10, Tryz.func10, (fnsL.get Tryz.func10).1, by kernel_rfl⟩
theorem kcs5 : @KCS gO Tryz.prog 5 s5 := by
  refine @kcsP gO Tryz.prog 5 _ P5 fun l K hs => ?_
  obtain ⟨x, d, c, rfl, h1⟩ := lb3_s hs
  obtain ⟨n, rfl, h2⟩ := natK_s h1
  obtain ⟨k, rfl, h3⟩ := dkK_s h2
  obtain ⟨h4, h5⟩ := chk_inv h3
  obtain rfl := kvb_s h4
  obtain ⟨⟨h, hm⟩, h6⟩ := h5
  exact ⟨EB 0, okB 0, rfl, 60, fun r => r = rootW k, _, h6, rfl, fun r hr => by rw [hr]; exact imp_refl _, r5_0_s (b := 0) hm⟩
theorem kcs6 (e : Nat) : @KCS gO Tryz.prog 6 (s6 e) := by
  refine @kcsP gO Tryz.prog 6 _ P6 fun l K hs => ?_
  obtain ⟨x, d, c, b, rfl, h1⟩ := lb4_s hs
  obtain ⟨n, rfl, h2⟩ := natK_s h1
  obtain ⟨k, rfl, h3⟩ := dkK_s h2
  obtain ⟨h4, h5⟩ := chk_inv h3
  obtain rfl := kvb_s h4
  obtain ⟨z, rfl, ⟨⟨h, hm⟩, hb⟩, h6⟩ := intK_s h5
  rcases blk_e hb with rfl | rfl
  · exact ⟨EB 0, okB 0, rfl, 60, fun r => r = w6 k 0, _, h6, tl_nr k 0, fun r hr => by rw [hr]; exact imp_refl _, r6_0_s hm hb⟩
  · exact ⟨EB 1, okB 1, rfl, 60, fun r => r = w6 k 1, _, h6, tl_nr k 1, fun r hr => by rw [hr]; exact imp_refl _, r6_1_s hm hb⟩
theorem kcs7 (e : Nat) : @KCS gO Tryz.prog 7 (s7 e) := by
  refine @kcsP gO Tryz.prog 7 _ P7 fun l K hs => ?_
  obtain ⟨x, d, c, b, rfl, h1⟩ := lb4_s hs
  obtain ⟨n, rfl, h2⟩ := natK_s h1
  obtain ⟨k, rfl, h3⟩ := dkK_s h2
  obtain ⟨h4, h5⟩ := chk_inv h3
  obtain rfl := kvb_s h4
  obtain ⟨z, rfl, ⟨⟨h, hm⟩, hb⟩, h6⟩ := intK_s h5
  rcases blk_e hb with rfl | rfl
  · exact ⟨EB 0, okB 0, rfl, 60, fun r => r = w7 k 0, _, h6, tl_nr k 0, fun r hr => by rw [hr]; exact imp_refl _, r7_0_s hm hb⟩
  · exact ⟨EB 1, okB 1, rfl, 60, fun r => r = w7 k 1, _, h6, tl_nr k 1, fun r hr => by rw [hr]; exact imp_refl _, r7_1_s hm hb⟩
theorem kcs8 (e : Nat) : @KCS gO Tryz.prog 8 (s8 e) := by
  refine @kcsP gO Tryz.prog 8 _ P8 fun l K hs => ?_
  obtain ⟨x, d, c, g, b, rfl, h1⟩ := lb5_s hs
  obtain ⟨n, rfl, h2⟩ := natK_s h1
  obtain ⟨k, rfl, h3⟩ := dkK_s h2
  obtain ⟨h4, h5⟩ := chk_inv h3
  obtain ⟨h4, h7⟩ := nd_iff.1 h4
  obtain rfl := kvb_s h4
  obtain rfl := kvb_s h7
  obtain ⟨z, rfl, ⟨⟨h, hm⟩, hb⟩, h6⟩ := intK_s h5
  rcases blk_e hb with rfl | rfl
  · exact ⟨EB 0, okB 0, rfl, 60, fun r => r = w8 k 0, _, h6, tl_nr k 0, fun r hr => by rw [hr]; exact imp_refl _, r8_0_s hm hb⟩
  · exact ⟨EB 1, okB 1, rfl, 60, fun r => r = w8 k 1, _, h6, tl_nr k 1, fun r hr => by rw [hr]; exact imp_refl _, r8_1_s hm hb⟩
theorem kcs9 : @KCS gO Tryz.prog 9 s9 := by
  refine @kcsP gO Tryz.prog 9 _ P9 fun l K hs => ?_
  obtain ⟨x, d, c, b, rfl, h1⟩ := lb4_s hs
  obtain ⟨n, rfl, h2⟩ := natK_s h1
  obtain ⟨k, rfl, h3⟩ := dkK_s h2
  obtain ⟨h4, h5⟩ := chk_inv h3
  obtain ⟨h4, h7⟩ := nd_iff.1 h4
  obtain rfl := kvb_s h4
  obtain rfl := kvb_s h7
  obtain ⟨⟨h, hm⟩, h6⟩ := h5
  exact ⟨EB 0, okB 0, rfl, 60, fun r => r = w9 k 0, _, h6, rfl, fun r hr => by rw [hr]; exact imp_refl _, r9_0_s (b := 0) hm⟩
theorem kcs10 (e : Nat) : @KCS gO Tryz.prog 10 (s10 e) := by
  refine @kcsP gO Tryz.prog 10 _ P10 fun l K hs => ?_
  obtain ⟨x, d, g, b, r, rfl, h1⟩ := lb5_s hs
  obtain ⟨n, rfl, h2⟩ := natK_s h1
  obtain ⟨k, rfl, h3⟩ := dkK_s h2
  obtain ⟨h4, h5⟩ := chk_inv h3
  obtain ⟨h4, h7⟩ := nd_iff.1 h4
  obtain rfl := kvb_s h4
  obtain rfl := kvb_s h7
  obtain ⟨z, rfl, ⟨⟨h, hm⟩, hb⟩, h6⟩ := intK_s h5
  rcases blk_e hb with rfl | rfl
  · exact ⟨EB 0, okB 0, rfl, 60, fun r => r = w10 k 0, _, h6, rfl, fun r hr => by rw [hr]; exact imp_refl _, r10_0_s hm hb⟩
  · exact ⟨EB 1, okB 1, rfl, 60, fun r => r = w10 k 1, _, h6, rfl, fun r hr => by rw [hr]; exact imp_refl _, r10_1_s hm hb⟩
end
end Go.K
set_option linter.unusedVariables false
set_option linter.unusedSimpArgs false
namespace Go.K
open Go.Ab Go.RowKit Go.Y Go.Proofs
noncomputable section
attribute [local irreducible] krun callR
def E3b : KEnv := EO0.tab [(4, s4), (39, s39b), (11, s11), (12, kcon [] (.bool true))]
def E3g : KEnv := EO0.tab [(4, s4), (39, s39g), (11, s11), (12, kcon [] (.bool true)), (15, sDead), (16, sDead), (20, sDead), (19, sDead)]
def E3B (e : Nat) : KEnv := EO0.tab [(4, s4), (11, s11), (12, kcon [] (.bool true)), (5, s5), (6, s6 e), (7, s7 e), (8, s8 e), (9, s9), (10, s10 e)]
theorem ok3b : @KOk gO E3b := @KOk.tab gO EO0 okO0 _ ⟨kcs4.opn, kcs39b, kcs11, lives_s.opn, trivial⟩
theorem ok3g : @KOk gO E3g := @KOk.tab gO EO0 okO0 _ ⟨kcs4.opn, kcs39g, kcs11, lives_s.opn, @sDead_s gO _ _ P15, @sDead_s gO _ _ P16, @sDead_s gO _ _ P20, @sDead_s gO _ _ P19, trivial⟩
theorem ok3B (e : Nat) : @KOk gO (E3B e) := @KOk.tab gO EO0 okO0 _ ⟨kcs4.opn, kcs11, lives_s.opn, kcs5, kcs6 e, kcs7 e, kcs8 e, kcs9, kcs10 e, trivial⟩
set_option maxRecDepth 100000
def run3b (N S : Nat) (b : Int) (v : KV) : Prop := @callR gO E3b (@krun gO E3b 60) 0 3 [.int .i64 (.ofNat N), .int .u8 (.ofNat S), .int .i64 b] .e 0 0 fun r _ _ _ => r = v
theorem run3b_eq (N S : Nat) (b : Int) (v : KV) : run3b N S b v = (cnd (S.blt 9223372036854775808) (cnd ((Nat.add 1 (S % 60)).blt 9223372036854775808) ((1 ≤ Nat.add 1 (S % 60) ∧ Nat.add 1 (S % 60) ≤ 60) ∧ (Int.ofNat N < Int.ofNat 1 ∨ Int.ofNat 4096 < Int.ofNat N) ∧ (Int.ofNat N < Int.ofNat 1 ∨ Int.ofNat 4096 < Int.ofNat N) ∧ (Int.ofNat N < Int.ofNat 1 ∨ Int.ofNat 4096 < Int.ofNat N) ∧ (Int.ofNat N < Int.ofNat 1 ∨ Int.ofNat 4096 < Int.ofNat N) ∧ (Int.ofNat N < Int.ofNat 1 ∨ Int.ofNat 4096 < Int.ofNat N) ∧ (Int.ofNat N < Int.ofNat 1 ∨ Int.ofNat 4096 < Int.ofNat N) ∧ alt (ltI (Int.ofNat N) (Int.ofNat 1)) (KV.bool true = v) (alt (ltI (Int.ofNat 4096) (Int.ofNat N)) (KV.bool true = v) ((1 ≤ N ∧ N ≤ 4096) ∧ cnd (S.blt 9223372036854775808) (cnd ((Nat.add 1 (S % 60)).blt 9223372036854775808) (alt (!eqI (Int.ofNat (C.sec N)) (Int.ofNat (Nat.add 1 (S % 60)))) (KV.bool true = v) (KV.bool false = v)))))))) := by kernel_rfl
def run3m (N S : Nat) (b : Int) (v : KV) : Prop := @callR gO E3b (@krun gO E3b 60) 0 3 [.int .i64 (.negSucc N), .int .u8 (.ofNat S), .int .i64 b] .e 0 0 fun r _ _ _ => r = v
theorem run3m_eq (N S : Nat) (b : Int) (v : KV) : run3m N S b v = (cnd (S.blt 9223372036854775808) (cnd ((Nat.add 1 (S % 60)).blt 9223372036854775808) ((1 ≤ Nat.add 1 (S % 60) ∧ Nat.add 1 (S % 60) ≤ 60) ∧ (Int.negSucc N < Int.ofNat 1 ∨ Int.ofNat 4096 < Int.negSucc N) ∧ (Int.negSucc N < Int.ofNat 1 ∨ Int.ofNat 4096 < Int.negSucc N) ∧ (Int.negSucc N < Int.ofNat 1 ∨ Int.ofNat 4096 < Int.negSucc N) ∧ (Int.negSucc N < Int.ofNat 1 ∨ Int.ofNat 4096 < Int.negSucc N) ∧ (Int.negSucc N < Int.ofNat 1 ∨ Int.ofNat 4096 < Int.negSucc N) ∧ (Int.negSucc N < Int.ofNat 1 ∨ Int.ofNat 4096 < Int.negSucc N) ∧ KV.bool true = v))) := by kernel_rfl
def run3g (N S : Nat) (b : Int) (v : KV) : Prop := @callR gO E3g (@krun gO E3g 60) 0 3 [.int .i64 (.ofNat N), .int .u8 (.ofNat S), .int .i64 b] .e 0 0 fun r _ _ _ => r = v
theorem run3g_eq (N S : Nat) (b : Int) (v : KV) : run3g N S b v = (cnd (S.blt 9223372036854775808) (cnd ((Nat.add 1 (S % 60)).blt 9223372036854775808) ((1 ≤ Nat.add 1 (S % 60) ∧ Nat.add 1 (S % 60) ≤ 60) ∧ (1 ≤ N ∧ N ≤ 4096) ∧ alt (!eqI (Int.ofNat (Nat.add 1 (S % 60))) (Int.ofNat (C.sec N))) ((1 ≤ N ∧ N ≤ 4096) ∧ alt (!eqI (Int.ofNat (Nat.add 1 (S % 60))) (Int.ofNat (C.sec N))) ((1 ≤ N ∧ N ≤ 4096) ∧ alt (!eqI (Int.ofNat (Nat.add 1 (S % 60))) (Int.ofNat (C.sec N))) ((1 ≤ N ∧ N ≤ 4096) ∧ alt (!eqI (Int.ofNat (Nat.add 1 (S % 60))) (Int.ofNat (C.sec N))) ((1 ≤ N ∧ N ≤ 4096) ∧ alt (!eqI (Int.ofNat (Nat.add 1 (S % 60))) (Int.ofNat (C.sec N))) ((1 ≤ N ∧ N ≤ 4096) ∧ alt (!eqI (Int.ofNat (Nat.add 1 (S % 60))) (Int.ofNat (C.sec N))) (alt (ltI (Int.ofNat N) (Int.ofNat 1)) (KV.bool true = v) (alt (ltI (Int.ofNat 4096) (Int.ofNat N)) (KV.bool true = v) ((1 ≤ N ∧ N ≤ 4096) ∧ cnd (S.blt 9223372036854775808) (cnd ((Nat.add 1 (S % 60)).blt 9223372036854775808) (alt (!eqI (Int.ofNat (C.sec N)) (Int.ofNat (Nat.add 1 (S % 60)))) (KV.bool true = v) (KV.bool false = v)))))) False) False) False) False) False) False))) := by kernel_rfl
def run3B0 (N S : Nat) (b : Int) (v : KV) : Prop := @callR gO (E3B 0) (@krun gO (E3B 0) 60) 0 3 [.int .i64 (.ofNat N), .int .u8 (.ofNat S), .int .i64 b] .e 0 0 fun r _ _ _ => r = v
theorem run3B0_eq (N S : Nat) (b : Int) (v : KV) : run3B0 N S b v = (cnd (S.blt 9223372036854775808) (cnd ((Nat.add 1 (S % 60)).blt 9223372036854775808) ((1 ≤ Nat.add 1 (S % 60) ∧ Nat.add 1 (S % 60) ≤ 60) ∧ (∃ (h : Nat), List.Mem (N, Nat.add 1 (S % 60), h) prs) ∧ ((∃ (h : Nat), List.Mem (N, Nat.add 1 (S % 60), h) prs) ∧ C.blk b N (0 : Nat)) ∧ ((∃ (h : Nat), List.Mem (N, Nat.add 1 (S % 60), h) prs) ∧ C.blk b N (0 : Nat)) ∧ ((∃ (h : Nat), List.Mem (N, Nat.add 1 (S % 60), h) prs) ∧ C.blk b N (0 : Nat)) ∧ (∃ (h : Nat), List.Mem (N, Nat.add 1 (S % 60), h) prs) ∧ ((∃ (h : Nat), List.Mem (N, Nat.add 1 (S % 60), h) prs) ∧ C.blk b N (0 : Nat)) ∧ alt (ltI (Int.ofNat N) (Int.ofNat 1)) (KV.bool false = v) (alt (ltI (Int.ofNat 4096) (Int.ofNat N)) (KV.bool false = v) ((1 ≤ N ∧ N ≤ 4096) ∧ cnd (S.blt 9223372036854775808) (cnd ((Nat.add 1 (S % 60)).blt 9223372036854775808) (alt (!eqI (Int.ofNat (C.sec N)) (Int.ofNat (Nat.add 1 (S % 60)))) (KV.bool false = v) (alt (ltI b (Int.ofNat 0)) (KV.bool false = v) (alt (leI (Int.ofNat N) b) (KV.bool false = v) (KV.bool true = v)))))))))) := by kernel_rfl
def run3B1 (N S : Nat) (b : Int) (v : KV) : Prop := @callR gO (E3B 1) (@krun gO (E3B 1) 60) 0 3 [.int .i64 (.ofNat N), .int .u8 (.ofNat S), .int .i64 b] .e 0 0 fun r _ _ _ => r = v
theorem run3B1_eq (N S : Nat) (b : Int) (v : KV) : run3B1 N S b v = (cnd (S.blt 9223372036854775808) (cnd ((Nat.add 1 (S % 60)).blt 9223372036854775808) ((1 ≤ Nat.add 1 (S % 60) ∧ Nat.add 1 (S % 60) ≤ 60) ∧ (∃ (h : Nat), List.Mem (N, Nat.add 1 (S % 60), h) prs) ∧ ((∃ (h : Nat), List.Mem (N, Nat.add 1 (S % 60), h) prs) ∧ C.blk b N (1 : Nat)) ∧ ((∃ (h : Nat), List.Mem (N, Nat.add 1 (S % 60), h) prs) ∧ C.blk b N (1 : Nat)) ∧ ((∃ (h : Nat), List.Mem (N, Nat.add 1 (S % 60), h) prs) ∧ C.blk b N (1 : Nat)) ∧ (∃ (h : Nat), List.Mem (N, Nat.add 1 (S % 60), h) prs) ∧ ((∃ (h : Nat), List.Mem (N, Nat.add 1 (S % 60), h) prs) ∧ C.blk b N (1 : Nat)) ∧ alt (ltI (Int.ofNat N) (Int.ofNat 1)) (KV.bool false = v) (alt (ltI (Int.ofNat 4096) (Int.ofNat N)) (KV.bool false = v) ((1 ≤ N ∧ N ≤ 4096) ∧ cnd (S.blt 9223372036854775808) (cnd ((Nat.add 1 (S % 60)).blt 9223372036854775808) (alt (!eqI (Int.ofNat (C.sec N)) (Int.ofNat (Nat.add 1 (S % 60)))) (KV.bool false = v) (alt (ltI b (Int.ofNat 0)) (KV.bool true = v) (alt (leI (Int.ofNat N) b) (KV.bool true = v) (KV.bool false = v)))))))))) := by kernel_rfl
section
variable {N S : Nat} {b : Int}
theorem sz1 (hS : S < 256) : S.blt 9223372036854775808 = true := by rw [Nat.blt_eq]; omega
theorem sz2 : (Nat.add 1 (S % 60)).blt 9223372036854775808 = true := by rw [Nat.blt_eq]; show 1 + S % 60 < _; omega
theorem sz3 : 1 ≤ Nat.add 1 (S % 60) ∧ Nat.add 1 (S % 60) ≤ 60 := by show 1 ≤ 1 + S % 60 ∧ 1 + S % 60 ≤ 60; omega
theorem run3m_s (hS : S < 256) : run3m N S b (.bool true) := by
  rw [run3m_eq]
  have h : Int.negSucc N < Int.ofNat 1 ∨ Int.ofNat 4096 < Int.negSucc N := .inl (Int.lt_of_lt_of_le (Int.negSucc_lt_zero N) (by decide))
  exact cnd_iff.2 ⟨sz1 hS, cnd_iff.2 ⟨sz2, sz3, h, h, h, h, h, h, rfl⟩⟩
theorem run3b_s (hS : S < 256) (hn : N < 1 ∨ 4096 < N) : run3b N S b (.bool true) := by
  rw [run3b_eq]
  have h : Int.ofNat N < Int.ofNat 1 ∨ Int.ofNat 4096 < Int.ofNat N := hn.imp Int.ofNat_lt.2 Int.ofNat_lt.2
  refine cnd_iff.2 ⟨sz1 hS, cnd_iff.2 ⟨sz2, sz3, h, h, h, h, h, h, alt_iff.2 ⟨fun _ => rfl, fun q1 => alt_iff.2 ⟨fun _ => rfl, fun q2 => ?_⟩⟩⟩⟩
  rw [ltI_nat, bltF] at q1 q2
  omega
theorem run3g_s (hS : S < 256) (h1 : 1 ≤ N ∧ N ≤ 4096) (h2 : C.sec N ≠ 1 + S % 60) : run3g N S b (.bool true) := by
  rw [run3g_eq]
  have hk : (!eqI (Int.ofNat (Nat.add 1 (S % 60))) (Int.ofNat (C.sec N))) = true := by
    rw [notT, eqI_nat, beqF]; exact fun h => h2 h.symm
  have no : ∀ {p : Prop}, (!eqI (Int.ofNat (Nat.add 1 (S % 60))) (Int.ofNat (C.sec N))) = false → p := fun h => by rw [hk] at h; cases h
  refine cnd_iff.2 ⟨sz1 hS, cnd_iff.2 ⟨sz2, sz3, h1, alt_iff.2 ⟨fun _ => ⟨h1, alt_iff.2 ⟨fun _ => ⟨h1, alt_iff.2 ⟨fun _ => ⟨h1, alt_iff.2 ⟨fun _ => ⟨h1, alt_iff.2 ⟨fun _ => ⟨h1, alt_iff.2 ⟨fun _ => ?_, no⟩⟩, no⟩⟩, no⟩⟩, no⟩⟩, no⟩⟩, no⟩⟩⟩
  refine alt_iff.2 ⟨fun _ => rfl, fun _ => alt_iff.2 ⟨fun _ => rfl, fun _ => ⟨h1, cnd_iff.2 ⟨sz1 hS, cnd_iff.2 ⟨sz2, alt_iff.2 ⟨fun _ => rfl, fun q => ?_⟩⟩⟩⟩⟩⟩
  rw [notF, eqI_nat, beqT] at q
  exact absurd q h2
theorem run3B0_s (hS : S < 256) {h : Nat} (hm : (N, 1 + S % 60, h) ∈ prs) (hb : C.blk b N 0) : run3B0 N S b (.bool true) := by
  rw [run3B0_eq]
  obtain ⟨p1, p2, p3, p4, p5⟩ := prs_s hm
  have hg : ∃ h, List.Mem (N, Nat.add 1 (S % 60), h) prs := ⟨h, hm⟩
  refine cnd_iff.2 ⟨sz1 hS, cnd_iff.2 ⟨sz2, sz3, hg, ⟨hg, hb⟩, ⟨hg, hb⟩, ⟨hg, hb⟩, hg, ⟨hg, hb⟩, alt_iff.2 ⟨fun q => ?_, fun _ => alt_iff.2 ⟨fun q => ?_, fun _ => ⟨⟨p1, by omega⟩, cnd_iff.2 ⟨sz1 hS, cnd_iff.2 ⟨sz2, alt_iff.2 ⟨fun q => ?_, fun _ => alt_iff.2 ⟨fun q => ?_, fun _ => alt_iff.2 ⟨fun q => ?_, fun _ => rfl⟩⟩⟩⟩⟩⟩⟩⟩⟩⟩
  · rw [ltI_nat, bltT] at q; omega
  · rw [ltI_nat, bltT] at q; omega
  · rw [notT, eqI_nat, beqF] at q; exact absurd p5 q
  · rcases hb with ⟨_, h0, h1⟩ | ⟨h, _⟩
    · rw [ltI_eq, decide_eq_true_eq] at q
      exact absurd q (Int.not_lt.2 h0)
    · cases h
  · rcases hb with ⟨_, h0, h1⟩ | ⟨h, _⟩
    · rw [leI_eq, decide_eq_true_eq] at q
      exact absurd q (Int.not_le.2 h1)
    · cases h
theorem run3B1_s (hS : S < 256) {h : Nat} (hm : (N, 1 + S % 60, h) ∈ prs) (hb : C.blk b N 1) : run3B1 N S b (.bool true) := by
  rw [run3B1_eq]
  obtain ⟨p1, p2, p3, p4, p5⟩ := prs_s hm
  have hg : ∃ h, List.Mem (N, Nat.add 1 (S % 60), h) prs := ⟨h, hm⟩
  refine cnd_iff.2 ⟨sz1 hS, cnd_iff.2 ⟨sz2, sz3, hg, ⟨hg, hb⟩, ⟨hg, hb⟩, ⟨hg, hb⟩, hg, ⟨hg, hb⟩, alt_iff.2 ⟨fun q => ?_, fun _ => alt_iff.2 ⟨fun q => ?_, fun _ => ⟨⟨p1, by omega⟩, cnd_iff.2 ⟨sz1 hS, cnd_iff.2 ⟨sz2, alt_iff.2 ⟨fun q => ?_, fun _ => alt_iff.2 ⟨fun _ => rfl, fun q1 => alt_iff.2 ⟨fun _ => rfl, fun q2 => ?_⟩⟩⟩⟩⟩⟩⟩⟩⟩⟩
  · rw [ltI_nat, bltT] at q; omega
  · rw [ltI_nat, bltT] at q; omega
  · rw [notT, eqI_nat, beqF] at q; exact absurd p5 q
  · rcases hb with ⟨h, _⟩ | ⟨_, h1⟩
    · cases h
    · rw [ltI_eq, decide_eq_false_iff_not] at q1
      rw [leI_eq, decide_eq_false_iff_not] at q2
      rcases h1 with h1 | h1
      · exact absurd h1 q1
      · exact absurd h1 q2
end
theorem P3 : ∃ fn, Tryz.prog.funcs[3]? = some fn ∧ (fn.name == "runtime.NumGoroutine") = false ∧ fn.body.isNone = false := ⟨Tryz.f3, Tryz.func3, (fnsL.get Tryz.func3).1, by kernel_rfl⟩
def s3 : KSpec := fun l K => ∃ (z : Int) (S : Nat) (b : Int), l = [.int .i64 z, .int .u8 (.ofNat S), .int .i64 b] ∧ S < 256 ∧ K (.bool true)
theorem kcs3 : @KCS gO Tryz.prog 3 s3 := by
  refine @kcsP gO Tryz.prog 3 _ P3 fun l K hs => ?_
  obtain ⟨z, S, b, rfl, hS, hK⟩ := hs
  have fin : ∀ {E : KEnv}, @KOk gO E → E.P = Tryz.prog → @callR gO E (@krun gO E 60) 0 3 [.int .i64 z, .int .u8 (.ofNat S), .int .i64 b] .e 0 0 (fun r _ _ _ => r = .bool true) → ∃ E : KEnv, @KOk gO E ∧ E.P = Tryz.prog ∧ ∃ (n : Nat) (Q : KV → Prop) (w : KV), K w ∧ noRef w.v = true ∧ (∀ r : KV, Q r → Imp r.v w.v) ∧ @callR gO E (@krun gO E n) 0 3 [.int .i64 z, .int .u8 (.ofNat S), .int .i64 b] .e 0 0 fun r _ _ _ => Q r :=
    fun hE hP h => ⟨_, hE, hP, 60, fun r => r = .bool true, _, hK, rfl, fun r hr => by rw [hr]; exact imp_refl _, h⟩
  cases z with
  | negSucc N => exact fin ok3b rfl (run3m_s hS)
  | ofNat N =>
    by_cases h1 : N < 1 ∨ 4096 < N
    · exact fin ok3b rfl (run3b_s hS h1)
    · by_cases h2 : C.sec N = 1 + S % 60
      · obtain ⟨h, hm⟩ := prs_of (N := N) (by omega) (by rw [h2]; omega)
        rw [h2] at hm
        by_cases h3 : 0 ≤ b ∧ b < N
        · exact fin (ok3B 0) rfl (run3B0_s hS hm (.inl ⟨rfl, h3.1, h3.2⟩))
        · refine fin (ok3B 1) rfl (run3B1_s hS hm (.inr ⟨rfl, ?_⟩))
          omega
      · exact fin ok3g rfl (run3g_s hS (by omega) h2)
end
end Go.K
