/- Contracts over arguments that are known in another form; bytes, packed. No condition. -/
import Derived.Test.YtfpmealbbibhpaaGreatDoorK19
set_option linter.unusedVariables false
set_option linter.unusedSimpArgs false
set_option linter.constructorNameAsVariable false
namespace Go.K
open Go.Ab Go.RowKit Go.Y
noncomputable section
theorem kcsA [KGl] {P : Program} {fid : FuncId} {s : KSpec} (hf : ∃ fn, P.funcs[fid]? = some fn ∧ (fn.name == "runtime.NumGoroutine") = false ∧ fn.body.isNone = false)
    (h : ∀ l K, s l K → ∃ E : KEnv, KOk E ∧ E.P = P ∧ ∃ (n : Nat) (Q : KV → Prop) (w : KV) (l' : List KV), K w ∧ noRef w.v = true ∧ (∀ r : KV, Q r → Imp r.v w.v) ∧ (∀ C m, R C (mkL (l.map KV.v)) m → R C (mkL (l'.map KV.v)) m) ∧ callR E (krun E n) 0 fid l' .e 0 0 fun r _ _ _ => Q r) : KCS P fid s := by
  refine ⟨hf, fun l K hs => ?_⟩
  obtain ⟨E, hE, rfl, n, Q, w, l', h1, h2, h3, h5, h4⟩ := h l K hs
  have hc : CSoundG E.P fid { pre := fun l0 => @decide (l0 = l'.map KV.v) (Classical.propDecidable _), res := fun _ => w.v, fresh := true } := by
    have hme : MB (am (.e : KZ)) 0 := by rw [am_e]; exact emptyB 0
    refine ⟨hf, fun C l0 vals hok hg hargs hpre => ?_⟩
    have hl : l0 = l'.map KV.v := @of_decide_eq_true _ (Classical.propDecidable _) hpre
    subst hl
    obtain ⟨_, r, zm', nx', mx', q1, q2, q3⟩ := callR_s (B := C.w.heap.size) (krun_ok hE n) hE h4 hme (Nat.le_refl 0)
    have hz : GR C.w.heap.size (nx' + mx') C.pur (fun _ => none) (am .e) 0 :=
      ⟨⟨Nat.le_refl _, hok, (fun _ _ h => (by cases h)), (fun _ _ h => (by cases h)), (fun _ _ _ _ _ h => (by cases h)), (fun _ _ _ h => (by cases h)), hg⟩, (fun id b hb => by rw [am_e] at hb; cases hb), fun _ _ _ h => h⟩
    refine (q3 (nx' + mx') C.pur (fun _ => none) vals (by omega) (by omega) hz hargs).mono ?_
    rintro e w' ⟨val, he, C', M', hw, hR, _, hc⟩
    subst hw
    exact ⟨hc.kp.below, val, he, R.noref _ h2 (h3 r q1 _ _ hR)⟩
  refine ⟨w, h1, fun B μ nx mx l0 hl0 => ?_⟩
  exact con_call (B := B) (μ := μ) (nx := nx) (mx := mx) hE.gn hc rfl (fun C M vals hs hm hr => h5 _ _ (hl0 C M vals hs hm hr)) (by rw [unL_mkL']; exact @decide_eq_true _ (Classical.propDecidable _) rfl)
def pkA (h : Nat → Nat) : Nat → Nat
  | 0 => 0
  | n + 1 => pkA h n + h n * 256 ^ n
theorem pkA_lt {h : Nat → Nat} (hh : ∀ i, h i < 256) : ∀ n, pkA h n < 256 ^ n
  | 0 => Nat.zero_lt_one
  | n + 1 => by
    have := pkA_lt hh n
    have h1 := hh n
    show pkA h n + h n * 256 ^ n < 256 ^ (n + 1)
    rw [Nat.pow_succ]
    have : h n * 256 ^ n ≤ 255 * 256 ^ n := Nat.mul_le_mul_right _ (by omega)
    omega
theorem pkr_u8 (x i : Nat) : pkr .u8 x i = x / 256 ^ i % 256 := by
  show Nat.mod (Nat.shiftRight x (Nat.mul (wd .u8) i)) (Nat.pow 2 (wd .u8)) = _
  show (x >>> (8 * i)) % 2 ^ 8 = _
  rw [Nat.shiftRight_eq_div_pow, Nat.pow_mul]
theorem pkA_dv {h : Nat → Nat} (hh : ∀ i, h i < 256) : ∀ n i, i < n → pkA h n / 256 ^ i % 256 = h i
  | 0, i, hi => by omega
  | n + 1, i, hi => by
    show (pkA h n + h n * 256 ^ n) / 256 ^ i % 256 = h i
    rcases Nat.lt_or_ge i n with h1 | h1
    · have e : h n * 256 ^ n = 256 ^ i * (256 * (h n * 256 ^ (n - i - 1))) := by
        have : 256 ^ n = 256 ^ i * (256 * 256 ^ (n - i - 1)) := by
          rw [← Nat.pow_succ', ← Nat.pow_add]; congr 1; omega
        rw [this]
        simp only [Nat.mul_left_comm, Nat.mul_assoc, Nat.mul_comm]
      rw [e, Nat.add_mul_div_left _ _ (Nat.pow_pos (by decide)), Nat.add_mul_mod_self_left]
      exact pkA_dv hh n i h1
    · obtain rfl : i = n := by omega
      rw [Nat.add_mul_div_right _ _ (Nat.pow_pos (by decide)), Nat.div_eq_of_lt (pkA_lt hh i), Nat.zero_add]
      exact Nat.mod_eq_of_lt (hh i)
theorem pkr_pkA {h : Nat → Nat} (hh : ∀ i, h i < 256) {n i : Nat} (hi : i < n) : pkr .u8 (pkA h n) i = h i := by rw [pkr_u8]; exact pkA_dv hh n i hi
def pkK (h : Nat → Nat) (n : Nat) (K : Nat → Prop) : Prop := @Nat.rec (fun _ => (Nat → Prop) → Prop) (fun K => K 0) (fun n ih K => ih fun acc => forceN (Nat.add acc (Nat.mul (h n) (Nat.pow 256 n))) K) n K
theorem pkK_eq (h : Nat → Nat) : ∀ (n : Nat) (K : Nat → Prop), pkK h n K = K (pkA h n)
  | 0, K => rfl
  | n + 1, K => by
    show pkK h n (fun acc => forceN (Nat.add acc (Nat.mul (h n) (Nat.pow 256 n))) K) = _
    rw [pkK_eq h n, forceN_eq]; rfl
end
end Go.K
