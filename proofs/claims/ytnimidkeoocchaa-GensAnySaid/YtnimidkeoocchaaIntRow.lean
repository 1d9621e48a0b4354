/- Rows of whole numbers: Has and Eq told of lists. -/
import Derived.Test.YtnimidkeoocchaaPG1
import Derived.Test.YtnimidkeoocchaaPG1
import Derived.Test.YtnimidkeoocchaaHand
set_option linter.unusedVariables false
set_option linter.unusedSimpArgs false
namespace Go.Proofs.Ytnimidkeoocchaa.Ir
open Go.RowKit Go.Proofs.YtnimidkeoocchaaW.PrintWords Go.Proofs.Ytnimidkeoocchaa.PG Go.Proofs.Ytnimidkeoocchaa.Hnd

theorem wrap_up (i : Int) (h0 : -4611686018427387904 ≤ i) (h : i ≤ 4611686018427387904) : wrap64 (i + 1) = i + 1 := by unfold wrap64; omega
theorem rdI (l : List Int) (i : Nat) (h : i < l.length) : rd l (i : Int) = l[i] := by unfold rd; simp [List.getD_eq_getElem?_getD, h]
theorem has_l0 (l : List Int) (x : Int) (hl : l.length ≤ 1000000) : ∀ (d i k : Nat), l.length - i = d → i ≤ l.length → d < k → backstitchref3_Has_int.l0 k x l (l.length : Int) (i : Int) = some (decide (x ∈ l.drop i)) := by
  intro d
  induction d with
  | zero =>
    intro i k hd hi hk
    obtain ⟨k, rfl⟩ : ∃ q, k = q + 1 := ⟨k - 1, by omega⟩
    simp only [backstitchref3_Has_int.l0]
    rw [if_neg (by omega), List.drop_eq_nil_of_le (by omega)]
    simp
  | succ d ih =>
    intro i k hd hi hk
    obtain ⟨k, rfl⟩ : ∃ q, k = q + 1 := ⟨k - 1, by omega⟩
    have hlt : i < l.length := by omega
    have := ih (i + 1) k (by omega) (by omega) (by omega)
    rw [show ((i + 1 : Nat) : Int) = (i : Int) + 1 from by omega] at this
    simp only [backstitchref3_Has_int.l0]
    rw [if_pos (by omega), if_pos (by omega), if_pos (by omega), rdI l i hlt, List.drop_eq_getElem_cons hlt]
    generalize l.drop (i + 1) = t at this ⊢
    by_cases h : x = l[i]
    · rw [if_pos h]; simp [h]
    · rw [if_neg h, wrap_up (i : Int) (by omega) (by omega), this]
      simp [h]
theorem has_f (l : List Int) (x : Int) (hl : l.length ≤ 1000000) (k : Nat) (hk : l.length < k) : backstitchref3_Has_int.f k l x = some (decide (x ∈ l)) := by
  unfold backstitchref3_Has_int.f
  have := has_l0 l x hl l.length 0 k rfl (by omega) hk
  rw [show ((0 : Nat) : Int) = 0 from rfl, List.drop_zero] at this
  exact this
theorem eq_l0 (a b : List Int) (hl : a.length ≤ 1000000) (hab : a.length = b.length) : ∀ (d i k : Nat), a.length - i = d → i ≤ a.length → d < k → backstitchref3_Eq_int.l0 k b a (a.length : Int) (i : Int) = some (decide (a.drop i = b.drop i)) := by
  intro d
  induction d with
  | zero =>
    intro i k hd hi hk
    obtain ⟨k, rfl⟩ : ∃ q, k = q + 1 := ⟨k - 1, by omega⟩
    simp only [backstitchref3_Eq_int.l0]
    rw [if_neg (by omega), List.drop_eq_nil_of_le (by omega), List.drop_eq_nil_of_le (by omega)]
    simp
  | succ d ih =>
    intro i k hd hi hk
    obtain ⟨k, rfl⟩ : ∃ q, k = q + 1 := ⟨k - 1, by omega⟩
    have hlt : i < a.length := by omega
    have hlt2 : i < b.length := by omega
    have := ih (i + 1) k (by omega) (by omega) (by omega)
    rw [show ((i + 1 : Nat) : Int) = (i : Int) + 1 from by omega] at this
    simp only [backstitchref3_Eq_int.l0]
    rw [if_pos (by omega), if_pos (by omega), if_pos (by omega), if_pos (by omega), rdI a i hlt, rdI b i hlt2, List.drop_eq_getElem_cons hlt, List.drop_eq_getElem_cons hlt2]
    generalize a.drop (i + 1) = t at this ⊢
    generalize b.drop (i + 1) = t2 at this ⊢
    by_cases h : a[i] = b[i]
    · rw [if_pos h, wrap_up (i : Int) (by omega) (by omega), this]; simp [h]
    · rw [if_neg h]; simp [h]
theorem eq_f (a b : List Int) (hl : a.length ≤ 1000000) (k : Nat) (hk : a.length < k) : backstitchref3_Eq_int.f k a b = some (decide (a = b)) := by
  unfold backstitchref3_Eq_int.f
  by_cases h : (a.length : Int) = (b.length : Int)
  · rw [if_pos h]
    have := eq_l0 a b hl (by omega) a.length 0 k rfl (by omega) hk
    rw [show ((0 : Nat) : Int) = 0 from rfl, List.drop_zero, List.drop_zero] at this
    exact this
  · rw [if_neg h]
    have : a ≠ b := by rintro rfl; exact h rfl
    simp [this]

theorem eq_calls (w : World) {A : Option Addr} {c : Nat} {x : List Int} {A' : Option Addr} {c' : Nat} {y : List Int} (h1 : (Kd.int .i64).C w A x.length x) (hc : x.length ≤ c) (h2 : (Kd.int .i64).C w A' y.length y) (hc' : y.length ≤ c') (hl : x.length ≤ 1000000) :
    Calls Try.prog 22 #[.slice A x.length c, .slice A' y.length c'] w fun e w' => e = .returned (.bool (decide (x = y))) ∧ Below w.heap.size w w' :=
  (backstitchref3_Eq_int.calls (x.length + 1) A c x A' c' y _ w h1 hc h2 hc' (eq_f x y hl _ (Nat.lt_succ_self _))).mono (fun e w' h => ⟨h.1, h.2.below⟩)
theorem has_calls (w : World) {A : Option Addr} {c : Nat} {x : List Int} (n : Int) (h1 : (Kd.int .i64).C w A x.length x) (hc : x.length ≤ c) (hl : x.length ≤ 1000000) :
    Calls Try.prog 19 #[.slice A x.length c, .int .i64 n] w fun e w' => e = .returned (.bool (decide (n ∈ x))) ∧ Below w.heap.size w w' :=
  (backstitchref3_Has_int.calls (x.length + 1) A c x n _ w h1 hc (has_f x n hl _ (Nat.lt_succ_self _))).mono (fun e w' h => ⟨h.1, h.2.below⟩)
theorem R_C {W : World} {e B : Nat} {ok : Nat → Prop} {A : Option Addr} {c n : Nat} {x : List Int} (h : (Kd.int .i64).R e W B ok (.slice A n c) x) : (Kd.int .i64).C W A x.length x ∧ x.length ≤ c ∧ n = x.length := by
  obtain ⟨h1, h2, h3⟩ := Kd.R_reads' h
  exact ⟨h3, by omega, by omega⟩
end Go.Proofs.Ytnimidkeoocchaa.Ir
