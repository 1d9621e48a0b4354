/- The printed nanbox functions answer as the closed forms say, where there are enough rounds. -/
import Derived.Test.YtkefekdphkclmaaPC9
import Derived.Test.YtkefekdphkclmaaNbBox
set_option linter.unusedVariables false
set_option linter.unusedSimpArgs false
namespace Go.Proofs.Ytkefekdphkclmaa.Nb
open Go.RowKit Go.Proofs.Ytkefekdphkclmaa.PC

theorem odd_ref (a : Int) (h₀ : 0 ≤ a) (h₁ : a < 18446744073709551616) : backstitchref3_Odd.f a = some (odd a) := by
  unfold backstitchref3_Odd.f
  rw [odd_f a h₀ h₁, wrap_u64, Int.tmod_eq_emod_of_nonneg (by omega)]
  by_cases h : a / 4503599627370496 % 2048 = 2047
  · rw [if_pos h]; simp [h]
    rw [Bool.eq_iff_iff]; simp
  · rw [if_neg h]; simp [h]
end Go.Proofs.Ytkefekdphkclmaa.Nb
