/- The program's AES as a contract of the run. No condition. The reference's AES as a contract of the run. No condition. -/
import Derived.Test.YthnhbdidiglcgaaGreatDoorAE3
import Derived.Test.YthnhbdidiglcgaaGreatDoorMC
set_option linter.unusedVariables false
set_option linter.unusedSimpArgs false
namespace Go.K
open Go.Ab Go.RowKit Go.Y Go.Proofs
noncomputable section
attribute [local irreducible] krun callR
theorem u8K_s {x : KV} {f : Nat → Prop} {a b c : Nat} (h : onInt (fun k z => chk (ikEq k .u8) a (@Int.rec (fun _ => Prop) (fun n => f n) (fun _ => BadN b) z)) (BadN c) x) : ∃ n, x = .int .u8 (.ofNat n) ∧ f n := by
  rcases onInt_inv h with ⟨k, z, rfl, h1⟩ | ⟨_, h1⟩
  · obtain ⟨h2, h3⟩ := chk_inv h1
    obtain rfl := ikEq_eq h2
    cases z with
    | ofNat n => exact ⟨n, rfl, h3⟩
    | negSucc n => exact (show BadN _ from h3).elim
  · exact h1.elim
theorem kcsSubO : KCS Tryz.prog 314 sSubO := by
  refine ⟨kcsSub.1, fun l K hs => ?_⟩
  obtain ⟨x, rfl, h1⟩ := la1_s hs
  obtain ⟨n, rfl, h2, h3⟩ := u8K_s h1
  obtain ⟨v, h4, h5⟩ := kcsSub.2 [.int .u8 (.ofNat n)] K (by
    show chk (ikEq .u8 .u8) 253 (chk (Nat.blt n 256) 254 (forceN (pkr .u8 sbN n) fun r => K (.int .u8 (.ofNat r))))
    rw [show Nat.blt n 256 = true by rw [Nat.blt_eq]; exact h2, forceN_eq]
    exact h3)
  exact ⟨v, h4, h5⟩
theorem kcsMulO : KCS Tryz.prog 329 sMulO := by
  refine ⟨kcsMul.1, fun l K hs => ?_⟩
  obtain ⟨x, y, rfl, h1⟩ := lb2_s hs
  obtain ⟨m, rfl, h2⟩ := u8K_s h1
  obtain ⟨n, rfl, h3⟩ := u8K_s h2
  obtain ⟨h4, h5, h6⟩ := chk_inv h3
  have hm : m < 4 := by rwa [Nat.blt_eq] at h4
  obtain ⟨v, h7, h8⟩ := kcsMul.2 [.int .u8 (.ofNat m), .int .u8 (.ofNat n)] K (by
    show chk (ikEq .u8 .u8) 253 (chk (Nat.blt m 256) 254 (chk (ikEq .u8 .u8) 253 (chk (Nat.blt n 256) 254 (chk (Nat.blt m 4) 259 (forceN (pkr .u8 mtN (Nat.add (Nat.mul 256 m) n)) fun r => K (.int .u8 (.ofNat r)))))))
    rw [show Nat.blt n 256 = true by rw [Nat.blt_eq]; exact h5, show Nat.blt m 256 = true by rw [Nat.blt_eq]; omega, h4, forceN_eq]
    exact h6)
  exact ⟨v, h7, h8⟩
theorem okS : @KOk gO ES := @KOk.tab gO EO0 okO0 _ ⟨kcsSubO.opn, kcsMulO.opn, trivial⟩
def sEnc : KSpec := fun l K => lb2 l fun s b => onAr (fun n d t => chk (Nat.beq n 11) 420 (chk (keysOk (.ar 11 d t) 11) 421 (onPk (fun kd m x => chk (nd (ikEq kd .u8) (Nat.beq m 16)) 422 (encP (.ar 11 d t) x fun z => K (.pk .u8 16 z))) (BadN 423) b))) (BadN 424) s
theorem P302 : ∃ fn, Tryz.prog.funcs[302]? = some fn ∧ (fn.name == "runtime.NumGoroutine") = false ∧ fn.body.isNone = false := ⟨Tryz.f302, Tryz.func302, (fnsL.get Tryz.func302).1, by kernel_rfl⟩
theorem args_imp {a b a' b' : V} (h1 : Imp a a') (h2 : Imp b b') : ∀ C m, R C (mkL [a, b]) m → R C (mkL [a', b']) m := fun C m h => R.cons_map (fun m h => h1 C m h) (fun m h => R.cons_map (fun m h => h2 C m h) (fun m h => h) h) h
theorem noRef_pk (k : IntKind) (n x : Nat) : noRef (KV.pk k n x).v = true := by
  rw [v_pk]
  show ((List.range n).all fun i => noRef (.int k (pkg k x i))) = true
  rw [List.all_eq_true]; intro i _; rfl
theorem kcsEnc : @KCS gO Tryz.prog 302 sEnc := by
  refine @kcsA gO Tryz.prog 302 sEnc P302 fun l K hs => ?_
  obtain ⟨s, b, rfl, h1⟩ := lb2_s hs
  rcases onAr_inv h1 with ⟨n, d, t, rfl, h2⟩ | ⟨_, h2⟩
  · obtain ⟨h3, h4⟩ := chk_inv h2
    obtain rfl := beqE h3
    obtain ⟨h5, h6⟩ := chk_inv h4
    rcases onPk_inv h6 with ⟨kd, m, x, rfl, h7⟩ | ⟨_, h7⟩
    · obtain ⟨h8, h9⟩ := chk_inv h7
      obtain ⟨h10, h11⟩ := nd_iff.1 h8
      obtain rfl := ikEq_eq h10
      obtain rfl := beqE h11
      obtain ⟨z, h12, h13⟩ := encP_s h9
      refine ⟨ES, okS, rfl, 200, fun r => r = by16 (C.enc (byN x) (gOf (.ar 11 d t))), _, [schO (gOf (.ar 11 d t)), by16 (byN x)], h12, noRef_pk _ _ _, fun r hr => by rw [hr]; exact by16_imp h13, ?_, run302_s _ _⟩
      exact args_imp (imp_sch h5) (imp_by16 fun i _ => rfl)
    · exact h7.elim
  · exact h2.elim
end
end Go.K
namespace Go.K
open Go.Ab Go.RowKit Go.Y Go.Proofs
noncomputable section
attribute [local irreducible] krun callR
def run325 (n : Nat) (v : KV) : Prop := @callR gO EO0 (@krun gO EO0 40) 0 325 [.int .u8 (.ofNat n)] .e 0 0 fun r _ _ _ => r = v
theorem run325_eq (n : Nat) (v : KV) : run325 n v = alt (ltI (.ofNat 127) (.ofNat n)) (KV.int .u8 (xorI .u8 (shlI .u8 (.ofNat n) 1) (.ofNat 27)) = v) (KV.int .u8 (shlI .u8 (.ofNat n) 1) = v) := by kernel_rfl
theorem run325_s (n : Nat) : run325 n (.int .u8 (.ofNat (C.dbl n))) := by
  rw [run325_eq]
  refine alt_iff.2 ⟨fun h => ?_, fun h => ?_⟩
  · have h : Nat.blt 127 n = true := h
    unfold C.dbl
    rw [h]
    rfl
  · have h : Nat.blt 127 n = false := h
    unfold C.dbl
    rw [h]
    rfl
theorem P325 : ∃ fn, Tryz.prog.funcs[325]? = some fn ∧ (fn.name == "runtime.NumGoroutine") = false ∧ fn.body.isNone = false := ⟨Tryz.f325, Tryz.func325, (fnsL.get Tryz.func325).1, by kernel_rfl⟩
theorem P312 : ∃ fn, Tryz.prog.funcs[312]? = some fn ∧ (fn.name == "runtime.NumGoroutine") = false ∧ fn.body.isNone = false := ⟨Tryz.f312, Tryz.func312, (fnsL.get Tryz.func312).1, by kernel_rfl⟩
theorem kcsDblO : @KCS gO Tryz.prog 325 sDblO := by
  refine @kcsQ gO EO0 okO0 325 sDblO P325 fun l K hs => ?_
  obtain ⟨x, rfl, h1⟩ := la1_s hs
  obtain ⟨n, rfl, _, h3⟩ := u8K_s h1
  exact ⟨40, _, _, h3, rfl, fun _ _ h => h, run325_s n⟩
theorem okSR : @KOk gO ESR := @KOk.tab gO EO0 okO0 _ ⟨kcsDblO, kcsTab.opn, trivial⟩
theorem rotR_lt (x : Nat → Nat) (i : Nat) : C.rotR x i < 256 := pkr_lt .u8 _ _
theorem rndR_lt (f g : Nat → Nat) : ∀ k i, C.rndR f g k i < 256
  | 0, i => x8_lt _ _
  | k + 1, i => x8_lt _ _
theorem ix_s {x : Nat} {X : Prop} (h : x < 256) (hx : X) : C.ix x X := by
  refine cnd_iff.2 ⟨?_, hx⟩
  show (Nat.ble 0 x && Nat.blt x 256) = true
  rw [Bool.and_eq_true, Nat.ble_eq, Nat.blt_eq]
  exact ⟨Nat.zero_le _, h⟩
theorem ixs_s {x : Nat → Nat} {X : Prop} (h : ∀ i, x i < 256) (hx : X) : ∀ n, C.ixs x n X
  | 0 => hx
  | n + 1 => ix_s (by rw [fx_eq]; exact h _) (ixs_s h hx n)
theorem rds_s {f g : Nat → Nat} {X : Prop} (hx : X) : ∀ n, C.rds f g X n
  | 0 => ixs_s (rndR_lt _ _ _) hx _
  | n + 1 => ixs_s (rndR_lt _ _ _) (con_s (fun t => by rw [fx_eq]; exact rotR_lt _ _) (rds_s hx n) _ _) _
theorem run312_s (f g : Nat → Nat) : run312 f g (by16 (C.encR f g)) := by
  rw [run312_eq]
  exact rds_s rfl 9
theorem by4_v (f : Nat → Nat) : (by4 f).v = .arr 4 fun i => (trN f 4).atv (enc i) (.int .u8 (.ofNat 0)) := rfl
theorem imp_by4 {x : Nat} {f : Nat → Nat} (h : ∀ i, i < 4 → pkr .u8 x i = f i) : Imp (KV.pk .u8 4 x).v (by4 f).v := by
  rw [v_pk, by4_v]
  exact Imp.arrE fun i hi => by rw [trN_at, if_pos hi, pkg_u8, h i hi]
theorem wdT_at (g : Nat → Nat) (z : V) : ∀ n i, (wdT g n).atv (enc i) z = if i < n then (by4 fun j => g (4 * i + j)).v else z
  | 0, i => by rw [if_neg (by omega)]; rfl
  | n + 1, i => by
    show (kset (by4 fun j => g (4 * n + j)) (enc n) (wdT g n)).atv (enc i) z = _
    rw [kset_at, wdT_at g z n i]
    by_cases h : i = n
    · subst h; rw [if_pos rfl, if_pos (by omega)]
    · rw [if_neg h]
      by_cases h2 : i < n
      · rw [if_pos h2, if_pos (by omega)]
      · rw [if_neg h2, if_neg (by omega)]
def wdOk (s : KV) (k : Nat) : Bool := match kidx k s with
  | .pk kd n _ => nd (ikEq kd .u8) (Nat.beq n 4)
  | _ => false
def wdsOk (s : KV) : Nat → Bool
  | 0 => true
  | n + 1 => nd (wdsOk s n) (wdOk s n)
theorem wdsOk_s {s : KV} : ∀ {n : Nat}, wdsOk s n = true → ∀ k, k < n → kidx k s = .pk .u8 4 (keyN s k)
  | 0, _, k, hk => by omega
  | n + 1, h, k, hk => by
    obtain ⟨h1, h2⟩ := nd_iff.1 (show nd (wdsOk s n) (wdOk s n) = true from h)
    rcases Nat.lt_or_ge k n with h3 | h3
    · exact wdsOk_s h1 k h3
    · obtain rfl : k = n := by omega
      unfold wdOk at h2
      unfold keyN
      split at h2
      · rename_i kd n x hx
        obtain ⟨q1, q2⟩ := nd_iff.1 h2
        obtain rfl := ikEq_eq q1
        obtain rfl := beqE q2
        rw [hx]
      · cases h2
def wOf (s : KV) (j : Nat) : Nat := pkr .u8 (keyN s (j / 4)) (j % 4)
theorem imp_wd {d t : KV} (h : wdsOk (.ar 44 d t) 44 = true) : Imp (KV.ar 44 d t).v (wdO (wOf (.ar 44 d t))).v := by
  have h0 := wdsOk_s h
  show Imp (V.arr 44 fun i => t.atv (enc i) d.v) (V.arr 44 fun i => (wdT (wOf (.ar 44 d t)) 44).atv (enc i) (KV.ar 4 (.int .u8 (.ofNat 0)) .te).v)
  refine Imp.arr fun i hi => ?_
  rw [wdT_at, if_pos hi]
  have h1 : t.atv (enc i) d.v = (KV.pk .u8 4 (keyN (.ar 44 d t) i)).v := by
    rw [← h0 i hi, kidx_v]; rfl
  rw [h1]
  refine imp_by4 fun j hj => ?_
  show _ = pkr .u8 (keyN _ ((4 * i + j) / 4)) ((4 * i + j) % 4)
  rw [show (4 * i + j) / 4 = i by omega, show (4 * i + j) % 4 = j by omega]
def kyP (s : KV) (k : Nat) (K : Nat → Prop) : Prop := pkK (fun i => wOf s (16 * k + i)) 16 K
def rndPR (x N : Nat) (K : Nat → Prop) : Prop := pkK (C.rotR (byN x)) 16 fun y => pkK (fun i => C.x8 (C.mixR (byN y) i) (byN N i)) 16 K
def rdsPR (s : KV) (n : Nat) (x : Nat) (K : Nat → Prop) : Prop := @Nat.rec (fun _ => (Nat → Prop) → Prop) (fun K => K x) (fun n ih K => ih fun x => kyP s (Nat.succ n) fun N => rndPR x N K) n K
def encPR (s : KV) (b : Nat) (K : Nat → Prop) : Prop := kyP s 0 fun N => pkK (fun i => C.x8 (byN b i) (byN N i)) 16 fun x => rdsPR s 9 x fun x => kyP s 10 fun N => pkK (fun i => C.x8 (C.rotR (byN x) i) (byN N i)) 16 K
theorem wOf_lt (s : KV) (j : Nat) : wOf s j < 256 := pkr_lt .u8 _ _
theorem ky_at (s : KV) (k i : Nat) (hi : i < 16) : byN (pkA (fun i => wOf s (16 * k + i)) 16) i = wOf s (16 * k + i) := pkr_pkA (h := fun i => wOf s (16 * k + i)) (fun i => wOf_lt _ _) hi
theorem rotR_cg {x y : Nat → Nat} (h : ∀ i, i < 16 → x i = y i) {i : Nat} (hi : i < 16) : C.rotR x i = C.rotR y i := by
  unfold C.rotR
  rw [fx_eq, fx_eq, h _ (by omega)]
theorem mixR_cg {x y : Nat → Nat} (h : ∀ i, i < 16 → x i = y i) {i : Nat} (hi : i < 16) : C.mixR x i = C.mixR y i := by
  unfold C.mixR
  simp only [fx_eq]
  rw [h _ (show 4 * (i / 4) < 16 by omega), h _ (show 4 * (i / 4) + 1 < 16 by omega), h _ (show 4 * (i / 4) + 2 < 16 by omega), h _ (show 4 * (i / 4) + 3 < 16 by omega)]
theorem rdsPR_s (s : KV) (f : Nat → Nat) (x : Nat) (hx : ∀ i, i < 16 → byN x i = C.rndR f (wOf s) 0 i) : ∀ (n : Nat) (K : Nat → Prop), rdsPR s n x K → ∃ y, K y ∧ ∀ i, i < 16 → byN y i = C.rndR f (wOf s) n i
  | 0, K, h => ⟨x, h, hx⟩
  | n + 1, K, h => by
    obtain ⟨y, h1, h2⟩ := rdsPR_s s f x hx n _ (show rdsPR s n x (fun x => kyP s (Nat.succ n) fun N => rndPR x N K) from h)
    unfold kyP rndPR at h1
    rw [pkK_eq, pkK_eq, pkK_eq] at h1
    refine ⟨_, h1, fun i hi => ?_⟩
    show pkr .u8 _ i = _
    rw [pkr_pkA (fun i => x8_lt _ _) hi]
    show C.x8 (C.mixR (byN (pkA (C.rotR (byN y)) 16)) i) (byN (pkA (fun i => wOf s (16 * (n + 1) + i)) 16) i) = C.x8 (C.mixR (C.rotR (C.rndR f (wOf s) n)) i) (wOf s (16 * (n + 1) + i))
    rw [ky_at s (n + 1) i hi, mixR_cg (y := C.rotR (C.rndR f (wOf s) n)) (fun j hj => ?_) hi]
    show pkr .u8 _ j = _
    rw [pkr_pkA (h := C.rotR (byN y)) (fun i => rotR_lt _ _) hj]
    exact rotR_cg h2 hj
theorem encPR_s {s : KV} {b : Nat} {K : Nat → Prop} (h : encPR s b K) : ∃ z, K z ∧ ∀ i, i < 16 → pkr .u8 z i = C.encR (byN b) (wOf s) i := by
  unfold encPR kyP at h
  rw [pkK_eq, pkK_eq] at h
  obtain ⟨y, h1, h2⟩ := rdsPR_s s (byN b) _ (fun i hi => by
    show pkr .u8 _ i = _
    rw [pkr_pkA (fun i => x8_lt _ _) hi]
    show C.x8 (byN b i) _ = C.x8 (byN b i) (wOf s i)
    have := ky_at s 0 i hi
    rw [this, Nat.mul_zero, Nat.zero_add]) 9 _ h
  rw [pkK_eq, pkK_eq] at h1
  refine ⟨_, h1, fun i hi => ?_⟩
  rw [pkr_pkA (fun i => x8_lt _ _) hi]
  show C.x8 (C.rotR (byN y) i) _ = C.x8 (C.rotR (C.rndR (byN b) (wOf s) 9) i) (wOf s (160 + i))
  rw [rotR_cg h2 hi]
  have := ky_at s 10 i hi
  rw [this]
def sEncR : KSpec := fun l K => lb2 l fun s b => onAr (fun n d t => chk (Nat.beq n 44) 430 (chk (wdsOk (.ar 44 d t) 44) 431 (onPk (fun kd m x => chk (nd (ikEq kd .u8) (Nat.beq m 16)) 432 (encPR (.ar 44 d t) x fun z => K (.pk .u8 16 z))) (BadN 433) b))) (BadN 434) s
theorem kcsEncR : @KCS gO Tryz.prog 312 sEncR := by
  refine @kcsA gO Tryz.prog 312 sEncR P312 fun l K hs => ?_
  obtain ⟨s, b, rfl, h1⟩ := lb2_s hs
  rcases onAr_inv h1 with ⟨n, d, t, rfl, h2⟩ | ⟨_, h2⟩
  · obtain ⟨h3, h4⟩ := chk_inv h2
    obtain rfl := beqE h3
    obtain ⟨h5, h6⟩ := chk_inv h4
    rcases onPk_inv h6 with ⟨kd, m, x, rfl, h7⟩ | ⟨_, h7⟩
    · obtain ⟨h8, h9⟩ := chk_inv h7
      obtain ⟨h10, h11⟩ := nd_iff.1 h8
      obtain rfl := ikEq_eq h10
      obtain rfl := beqE h11
      obtain ⟨z, h12, h13⟩ := encPR_s h9
      refine ⟨ESR, okSR, rfl, 200, fun r => r = by16 (C.encR (byN x) (wOf (.ar 44 d t))), _, [wdO (wOf (.ar 44 d t)), by16 (byN x)], h12, noRef_pk _ _ _, fun r hr => by rw [hr]; exact by16_imp h13, ?_, run312_s _ _⟩
      exact args_imp (imp_wd h5) (imp_by16 fun i _ => rfl)
    · exact h7.elim
  · exact h2.elim
end
end Go.K
