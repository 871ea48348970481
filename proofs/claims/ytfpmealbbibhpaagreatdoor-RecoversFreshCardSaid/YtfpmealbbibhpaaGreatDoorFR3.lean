/- Fresh volumes, of every number of blocks. No condition. -/
import Derived.Test.YtfpmealbbibhpaaGreatDoorFR2_0
import Derived.Test.YtfpmealbbibhpaaGreatDoorFR2_2
import Derived.Test.YtfpmealbbibhpaaGreatDoorFR2_4
import Derived.Test.YtfpmealbbibhpaaGreatDoorFR2_6
set_option linter.unusedVariables false
namespace Go.K
open Go.Ab Go.RowKit Go.Y Go.Proofs
attribute [local irreducible] AllR q20
theorem q20_all {n : Nat} (h1 : 1 ≤ n) (h2 : n ≤ 4096) : q20 n := by
  have key : ∀ k, k < 32 → ∀ n, 1 + 128 * k ≤ n → n < 1 + 128 * k + 128 → q20 n
    | 0, _, n, h1, h2 => allR_of (Eq.mpr fr_0 (allR_true 1 128)) h1 h2
    | 1, _, n, h1, h2 => allR_of (Eq.mpr fr_1 (allR_true 129 128)) h1 h2
    | 2, _, n, h1, h2 => allR_of (Eq.mpr fr_2 (allR_true 257 128)) h1 h2
    | 3, _, n, h1, h2 => allR_of (Eq.mpr fr_3 (allR_true 385 128)) h1 h2
    | 4, _, n, h1, h2 => allR_of (Eq.mpr fr_4 (allR_true 513 128)) h1 h2
    | 5, _, n, h1, h2 => allR_of (Eq.mpr fr_5 (allR_true 641 128)) h1 h2
    | 6, _, n, h1, h2 => allR_of (Eq.mpr fr_6 (allR_true 769 128)) h1 h2
    | 7, _, n, h1, h2 => allR_of (Eq.mpr fr_7 (allR_true 897 128)) h1 h2
    | 8, _, n, h1, h2 => allR_of (Eq.mpr fr_8 (allR_true 1025 128)) h1 h2
    | 9, _, n, h1, h2 => allR_of (Eq.mpr fr_9 (allR_true 1153 128)) h1 h2
    | 10, _, n, h1, h2 => allR_of (Eq.mpr fr_10 (allR_true 1281 128)) h1 h2
    | 11, _, n, h1, h2 => allR_of (Eq.mpr fr_11 (allR_true 1409 128)) h1 h2
    | 12, _, n, h1, h2 => allR_of (Eq.mpr fr_12 (allR_true 1537 128)) h1 h2
    | 13, _, n, h1, h2 => allR_of (Eq.mpr fr_13 (allR_true 1665 128)) h1 h2
    | 14, _, n, h1, h2 => allR_of (Eq.mpr fr_14 (allR_true 1793 128)) h1 h2
    | 15, _, n, h1, h2 => allR_of (Eq.mpr fr_15 (allR_true 1921 128)) h1 h2
    | 16, _, n, h1, h2 => allR_of (Eq.mpr fr_16 (allR_true 2049 128)) h1 h2
    | 17, _, n, h1, h2 => allR_of (Eq.mpr fr_17 (allR_true 2177 128)) h1 h2
    | 18, _, n, h1, h2 => allR_of (Eq.mpr fr_18 (allR_true 2305 128)) h1 h2
    | 19, _, n, h1, h2 => allR_of (Eq.mpr fr_19 (allR_true 2433 128)) h1 h2
    | 20, _, n, h1, h2 => allR_of (Eq.mpr fr_20 (allR_true 2561 128)) h1 h2
    | 21, _, n, h1, h2 => allR_of (Eq.mpr fr_21 (allR_true 2689 128)) h1 h2
    | 22, _, n, h1, h2 => allR_of (Eq.mpr fr_22 (allR_true 2817 128)) h1 h2
    | 23, _, n, h1, h2 => allR_of (Eq.mpr fr_23 (allR_true 2945 128)) h1 h2
    | 24, _, n, h1, h2 => allR_of (Eq.mpr fr_24 (allR_true 3073 128)) h1 h2
    | 25, _, n, h1, h2 => allR_of (Eq.mpr fr_25 (allR_true 3201 128)) h1 h2
    | 26, _, n, h1, h2 => allR_of (Eq.mpr fr_26 (allR_true 3329 128)) h1 h2
    | 27, _, n, h1, h2 => allR_of (Eq.mpr fr_27 (allR_true 3457 128)) h1 h2
    | 28, _, n, h1, h2 => allR_of (Eq.mpr fr_28 (allR_true 3585 128)) h1 h2
    | 29, _, n, h1, h2 => allR_of (Eq.mpr fr_29 (allR_true 3713 128)) h1 h2
    | 30, _, n, h1, h2 => allR_of (Eq.mpr fr_30 (allR_true 3841 128)) h1 h2
    | 31, _, n, h1, h2 => allR_of (Eq.mpr fr_31 (allR_true 3969 128)) h1 h2
    | k + 32, h, _, _, _ => absurd h (by omega)
  exact key ((n - 1) / 128) (by omega) n (by omega) (by omega)
end Go.K
