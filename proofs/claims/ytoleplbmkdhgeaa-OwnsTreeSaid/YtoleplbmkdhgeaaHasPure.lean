/- Is it in a list: what the walked function answers. -/
import Derived.Test.YtoleplbmkdhgeaaPN3
set_option linter.unusedVariables false
set_option linter.unusedSimpArgs false
namespace Go.Proofs.Ytoleplbmkdhgeaa.Hsp
open Go.RowKit Go.Proofs.YtoleplbmkdhgeaaW.PrintWords Go.Proofs.Ytoleplbmkdhgeaa.PN

theorem has_l0 (l : List Int) (x : Int) (hl : l.length ≤ 1000000) : ∀ (d i k : Nat), l.length - i = d → i ≤ l.length → d < k → backstitchref3_Has_int.l0 k x l (l.length : Int) (i : Int) = some (decide (x ∈ l.drop i)) := by
  intro d
  induction d with
  | zero =>
    intro i k hd hi hk
    obtain ⟨k, rfl⟩ : ∃ q, k = q + 1 := ⟨k - 1, by omega⟩
    simp only [backstitchref3_Has_int.l0]
    rw [if_neg (by omega), List.drop_eq_nil_of_le (by omega)]
    simp
  | succ d ih =>
    intro i k hd hi hk
    obtain ⟨k, rfl⟩ : ∃ q, k = q + 1 := ⟨k - 1, by omega⟩
    have hlt : i < l.length := by omega
    have := ih (i + 1) k (by omega) (by omega) (by omega)
    rw [show ((i + 1 : Nat) : Int) = (i : Int) + 1 from by omega] at this
    simp only [backstitchref3_Has_int.l0]
    have hrd : rd l (i : Int) = l[i] := by unfold rd; simp [List.getD_eq_getElem?_getD, List.getElem?_eq_getElem hlt]
    have hwr : wrap64 ((i : Int) + 1) = (i : Int) + 1 := by unfold wrap64; omega
    rw [if_pos (by omega), if_pos (by omega), if_pos (by omega), hrd, List.drop_eq_getElem_cons hlt]
    generalize l.drop (i + 1) = t at this ⊢
    by_cases h : x = l[i]
    · rw [if_pos h]; simp [h]
    · rw [if_neg h, hwr, this]
      simp [h]
theorem has_f (l : List Int) (x : Int) (hl : l.length ≤ 1000000) (k : Nat) (hk : l.length < k) : backstitchref3_Has_int.f k l x = some (decide (x ∈ l)) := by
  unfold backstitchref3_Has_int.f
  have := has_l0 l x hl l.length 0 k rfl (by omega) hk
  rw [show ((0 : Nat) : Int) = 0 from rfl, List.drop_zero] at this
  exact this
theorem has_in {l : List Int} {x : Int} (hl : l.length ≤ 1000000) (h : x ∈ l) : backstitchref3_Has_int.f (l.length + 1) l x = some true := by
  rw [has_f l x hl _ (by omega)]; simp [h]
end Go.Proofs.Ytoleplbmkdhgeaa.Hsp
