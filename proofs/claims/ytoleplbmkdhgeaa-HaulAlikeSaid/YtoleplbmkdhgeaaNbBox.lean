/- The printed nanbox functions answer as the closed forms say, where there are enough rounds. -/
import Derived.Test.YtoleplbmkdhgeaaPQ10
import Derived.Test.YtoleplbmkdhgeaaNbPure
set_option linter.unusedVariables false
set_option linter.unusedSimpArgs false
namespace Go.Proofs.Ytoleplbmkdhgeaa.Nb
open Go.RowKit Go.Proofs.Ytoleplbmkdhgeaa.PQ

theorem spoilt_f (a : Int) (h₀ : 0 ≤ a) (h₁ : a < 18446744073709551616) : nanbox_spoilt.f a = some (odd a) := by
  unfold nanbox_spoilt.f odd; rw [and63 a h₀ h₁]
theorem box_f (k : Nat) (kd n : Int) (hk : 2 ≤ k) : nanbox_Box.f k kd n = some (bx kd n) := by
  obtain ⟨k, rfl⟩ : ∃ m, k = m + 2 := ⟨k - 2, by omega⟩
  have hb : (if kd < 0 then nanbox_Box.j0 (k + 2) true kd n else nanbox_Box.j0 (k + 2) (decide (kd > 6)) kd n) = nanbox_Box.j0 (k + 2) (decide (kd < 0 ∨ kd > 6)) kd n := by
    by_cases h : kd < 0
    · rw [if_pos h]; congr 1; simp [h]
    · rw [if_neg h]; congr 1; simp [h]
  unfold nanbox_Box.f
  rw [hb]
  simp only [nanbox_Box.j0, nanbox_Box.j1]
  unfold bx
  by_cases h1 : kd < 0 ∨ kd > 6
  · rw [if_pos (by simpa using h1), if_pos h1]
  · rw [if_neg (by simpa using h1), if_neg h1]
    have hu := wrap_u64 n
    by_cases h3 : kd = 3
    · rw [if_pos h3, if_pos h3, if_pos h3, hu, spoilt_f _ (by omega) (by omega)]
      simp only [Option.bind_some]
      by_cases ho : odd (n % 18446744073709551616) = true
      · rw [if_pos ho, if_pos ho]
      · rw [if_neg ho, if_neg ho]
    · rw [if_neg h3, if_neg (by simp), if_neg h3, if_neg h3]
      have hbd : nanbox_bounds.f kd = some (lo kd, hi kd) := by
        unfold nanbox_bounds.f lo hi
        by_cases h0 : kd = 0
        · simp [h0]
        · by_cases h1' : kd = 1
          · simp [h1']
          · by_cases h2 : kd = 2
            · simp [h2]
            · simp [h0, h1', h2]
      have htg : nanbox_tag.f kd = some (tg kd) := by
        unfold nanbox_tag.f tg
        by_cases h4 : kd > 3
        · rw [if_pos h4, if_pos h4, wrap_u64, wrap_u64]; unfold wrap64; congr 1; omega
        · rw [if_neg h4, if_neg h4, wrap_u64, wrap_u64]; unfold wrap64; congr 1; omega
      rw [hbd]
      simp only [Option.bind_some]
      by_cases hl : n < lo kd
      · rw [if_pos hl, if_pos (.inl hl)]
      · rw [if_neg hl]
        by_cases hh : n > hi kd
        · rw [if_pos hh, if_pos (.inr hh)]
        · rw [if_neg hh, if_neg (by omega), htg]
          simp only [Option.bind_some]
          rw [or32 (tg kd) (n % 4294967296) (by unfold tg; split <;> omega) (by unfold tg; split <;> omega) (by unfold tg; split <;> omega) (by omega) (by omega)]
end Go.Proofs.Ytoleplbmkdhgeaa.Nb
