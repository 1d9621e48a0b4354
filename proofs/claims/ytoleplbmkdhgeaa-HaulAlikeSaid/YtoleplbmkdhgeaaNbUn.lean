/- The printed nanbox functions answer as the closed forms say, where there are enough rounds. -/
import Derived.Test.YtoleplbmkdhgeaaPQ11
import Derived.Test.YtoleplbmkdhgeaaNbBox
set_option linter.unusedVariables false
set_option linter.unusedSimpArgs false
namespace Go.Proofs.Ytoleplbmkdhgeaa.Nb
open Go.RowKit Go.Proofs.Ytoleplbmkdhgeaa.PQ

theorem unbox_f (k : Nat) (w : Int) (h₀ : 0 ≤ w) (h₁ : w < 18446744073709551616) (hk : 4 ≤ k) : nanbox_Unbox.f k w = some (ub w) := by
  obtain ⟨k, rfl⟩ : ∃ m, k = m + 4 := ⟨k - 4, by omega⟩
  have hb : (if w / 281474976710656 < 65529 then nanbox_Unbox.j0 (k + 4) w true else nanbox_Unbox.j0 (k + 4) w (decide (w / 281474976710656 > 65534))) = nanbox_Unbox.j0 (k + 4) w (decide (w / 281474976710656 < 65529 ∨ w / 281474976710656 > 65534)) := by
    by_cases h : w / 281474976710656 < 65529
    · rw [if_pos h]; congr 1; simp [h]
    · rw [if_neg h]; congr 1; simp [h]
  unfold nanbox_Unbox.f
  rw [hb]
  simp only [nanbox_Unbox.j0, nanbox_Unbox.j1]
  unfold ub
  by_cases h1 : w / 281474976710656 < 65529 ∨ w / 281474976710656 > 65534
  · rw [if_pos (by simpa using h1), if_pos h1, spoilt_f w h₀ h₁]
    simp only [Option.bind_some]
    by_cases ho : odd w = true
    · rw [if_pos ho]
      by_cases hc : w = 9221120237041090561
      · rw [if_pos hc, if_neg (by simp [hc])]
      · rw [if_neg hc, if_pos ⟨ho, hc⟩]
    · rw [if_neg ho, if_neg (fun h => ho h.1)]
  · rw [if_neg (by simpa using h1), if_neg h1]
    have e1 : wrap64 (wrap64 (w / 281474976710656) - 65529) = w / 281474976710656 - 65529 := by unfold wrap64; omega
    have e2 : wrap64 (w / 281474976710656 - 65529 + 1) = w / 281474976710656 - 65529 + 1 := by unfold wrap64; omega
    rw [e1, e2]
    have key : ∀ kd : Int, kd = uk w → (if kd = 2 then ((nanbox_Box.f (k + 2) kd (wrap64 (wrap32 (w % 4294967296)))).bind fun bt111 => (if bt111.2 = 0 then (if bt111.1 = w then (some (kd, wrap64 (wrap32 (w % 4294967296)), (0 : Int))) else (some (0, 0, 3))) else (some (0, 0, 3)))) else ((nanbox_Box.f (k + 2) kd (w % 4294967296)).bind fun bt113 => (if bt113.2 = 0 then (if bt113.1 = w then (some (kd, w % 4294967296, 0)) else (some (0, 0, 3))) else (some (0, 0, 3))))) = some (if bx (uk w) (un w) = (w, 0) then (uk w, un w, 0) else (0, 0, 3)) := by
      intro kd hkd
      have ew : wrap64 (wrap32 (w % 4294967296)) = (w % 4294967296 + 2147483648) % 4294967296 - 2147483648 := by unfold wrap64 wrap32; omega
      have fin : ∀ m : Int, m = un w → ((nanbox_Box.f (k + 2) kd m).bind fun b => (if b.2 = 0 then (if b.1 = w then (some (kd, m, (0 : Int))) else (some (0, 0, 3))) else (some (0, 0, 3)))) = some (if bx (uk w) (un w) = (w, 0) then (uk w, un w, 0) else (0, 0, 3)) := by
        intro m hm
        rw [box_f _ _ _ (by omega), hkd, hm]
        simp only [Option.bind_some]
        by_cases hbx : bx (uk w) (un w) = (w, 0)
        · rw [if_pos hbx, hbx]; simp
        · rw [if_neg hbx]
          by_cases h2 : (bx (uk w) (un w)).2 = 0
          · rw [if_pos h2, if_neg (fun h => hbx (Prod.ext h h2))]
          · rw [if_neg h2]
      by_cases h2 : kd = 2
      · rw [if_pos h2]
        exact fin _ (by unfold un; rw [← hkd, if_pos h2, ew])
      · rw [if_neg h2]
        exact fin _ (by unfold un; rw [← hkd, if_neg h2])
    by_cases hg : w / 281474976710656 - 65529 ≥ 3
    · rw [if_pos hg]
      exact key _ (by unfold uk; rw [if_pos hg])
    · rw [if_neg hg]
      exact key _ (by unfold uk; rw [if_neg hg])
end Go.Proofs.Ytoleplbmkdhgeaa.Nb
