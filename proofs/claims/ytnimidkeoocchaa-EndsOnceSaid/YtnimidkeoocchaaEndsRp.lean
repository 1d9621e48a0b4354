/- Package ends: rounds, in plain words. -/
import Derived.Test.YtnimidkeoocchaaEndsLw
import Derived.Test.YtnimidkeoocchaaEndsRd
set_option linter.unusedVariables false
set_option linter.unusedSimpArgs false
namespace Go.Proofs.Ytnimidkeoocchaa.End
open Go.RowKit Go.Proofs.YtnimidkeoocchaaW.PrintWords Go.Proofs.Ytnimidkeoocchaa.PE Go.Proofs.Ytnimidkeoocchaa.Rch Go.Proofs.Ytnimidkeoocchaa.Chk

theorem filter_two (l : List Int) (p : Int → Bool) : (l.filter p).length + (l.filter (fun x => !p x)).length = l.length := by
  induction l with
  | nil => rfl
  | cons x l ih =>
    simp only [List.filter_cons]
    cases hp : p x <;> simp <;> omega
theorem now_next (has : List (List Int)) (left : List Int) : (nowL has left).length + (nextL has left).length = left.length := by
  unfold nextL
  by_cases h : (left.filter (fun n => !hadB has left n)).length = 0
  · have e : nowL has left = left := by unfold nowL; rw [if_pos h]
    rw [e]
    have : left.filter (fun n => !left.contains n) = [] := List.filter_eq_nil_iff.2 (fun x hx => by simp [hx])
    rw [this]; simp
  · have e : nowL has left = left.filter (fun n => !hadB has left n) := by unfold nowL; rw [if_neg h]
    rw [e]
    have : left.filter (fun n => !(left.filter (fun n => !hadB has left n)).contains n) = left.filter (fun n => !(!hadB has left n)) := by
      apply List.filter_congr
      intro x hx
      congr 1
      rw [Bool.eq_iff_iff]
      simp [List.contains_iff_mem, List.mem_filter, hx]
    rw [this]
    exact filter_two left _
theorem next_sub (has : List (List Int)) (left : List Int) : ∀ x ∈ nextL has left, x ∈ left ∧ x ∉ nowL has left := by
  intro x hx
  unfold nextL at hx
  obtain ⟨h1, h2⟩ := List.mem_filter.1 hx
  exact ⟨h1, by simpa using h2⟩
theorem now_rising {has : List (List Int)} {left : List Int} (h : left.Pairwise (· < ·)) : (nowL has left).Pairwise (· < ·) ∧ (nextL has left).Pairwise (· < ·) := by
  refine ⟨?_, h.filter _⟩
  unfold nowL
  split
  · exact h
  · exact h.filter _
theorem rounds_spec {has : List (List Int)} : ∀ (n : Nat) (left : List Int), left.length ≤ n → left.Pairwise (· < ·) → (∀ r ∈ roundsL has left.length left, r.Pairwise (· < ·) ∧ ∀ x ∈ r, x ∈ left) ∧ ((roundsL has left.length left).map List.length).sum = left.length ∧ (roundsL has left.length left).length ≤ left.length
  | 0, left, h, _ => by
    have e : left = [] := List.eq_nil_of_length_eq_zero (by omega)
    subst e
    exact ⟨fun r hr => by simp [roundsL] at hr, rfl, Nat.le_refl _⟩
  | n + 1, left, h, hp => by
    by_cases h0 : left.length = 0
    · have e : left = [] := List.eq_nil_of_length_eq_zero h0
      subst e
      exact ⟨fun r hr => by simp [roundsL] at hr, rfl, Nat.le_refl _⟩
    · have hlt := nextL_lt (has := has) h0
      obtain ⟨p1, p2⟩ := now_rising (has := has) hp
      obtain ⟨i1, i2, i3⟩ := rounds_spec n (nextL has left) (by omega) p2
      rw [rounds_step h0]
      refine ⟨fun r hr => ?_, ?_, ?_⟩
      · rcases List.mem_cons.1 hr with rfl | hr
        · exact ⟨p1, nowL_sub has left⟩
        · exact ⟨(i1 r hr).1, fun x hx => (next_sub has left x ((i1 r hr).2 x hx)).1⟩
      · rw [List.map_cons, List.sum_cons, i2]
        exact now_next has left
      · simp only [List.length_cons]; omega
/-- WHO HAS IS BEFORE WHAT IT HAS. -/
theorem rounds_order {has : List (List Int)} : ∀ (n : Nat) (left : List Int), left.length ≤ n → ∀ i k (hi : i < (roundsL has left.length left).length) (hk : k < (roundsL has left.length left).length), i < k → ∀ late ∈ (roundsL has left.length left)[k], ∀ early ∈ (roundsL has left.length left)[i], hB has late early = false
  | 0, left, h, i, k, hi, hk, _ => by
    have e : left = [] := List.eq_nil_of_length_eq_zero (by omega)
    subst e
    simp [roundsL] at hi
  | n + 1, left, h, i, k, hi, hk, hik => by
    by_cases h0 : left.length = 0
    · have e : left = [] := List.eq_nil_of_length_eq_zero h0
      subst e
      simp [roundsL] at hi
    · have hlt := nextL_lt (has := has) h0
      have ih := rounds_order (has := has) n (nextL has left) (by omega)
      have sub : ∀ r ∈ roundsL has (nextL has left).length (nextL has left), ∀ x ∈ r, x ∈ nextL has left := by
        have key : ∀ (m : Nat) (l : List Int), l.length ≤ m → ∀ r ∈ roundsL has l.length l, ∀ x ∈ r, x ∈ l := by
          intro m
          induction m with
          | zero =>
            intro l hl r hr
            have e : l = [] := List.eq_nil_of_length_eq_zero (by omega)
            subst e
            simp [roundsL] at hr
          | succ m ihm =>
            intro l hl r hr x hx
            by_cases hz : l.length = 0
            · have e : l = [] := List.eq_nil_of_length_eq_zero hz
              subst e
              simp [roundsL] at hr
            · rw [rounds_step hz] at hr
              rcases List.mem_cons.1 hr with rfl | hr
              · exact nowL_sub has l x hx
              · have := nextL_lt (has := has) hz
                exact (next_sub has l x (ihm _ (by omega) r hr x hx)).1
        exact key _ _ (Nat.le_refl _)
      have e := rounds_step (has := has) h0
      generalize roundsL has left.length left = R at hi hk e ⊢
      subst e
      cases k with
      | zero => omega
      | succ k =>
        cases i with
        | succ i =>
          intro late hl early he
          simp only [List.getElem_cons_succ] at hl he
          exact ih i k (by simpa using hi) (by simpa using hk) (by omega) late hl early he
        | zero =>
          intro late hl early he
          simp only [List.getElem_cons_succ] at hl
          simp only [List.getElem_cons_zero] at he
          have hln := sub _ (List.getElem_mem (by simpa using hk)) late hl
          obtain ⟨g1, g2⟩ := next_sub has left late hln
          by_cases hz : (left.filter (fun n => !hadB has left n)).length = 0
          · have e : nowL has left = left := by unfold nowL; rw [if_pos hz]
            rw [e] at g2
            exact absurd g1 g2
          · have e : nowL has left = left.filter (fun n => !hadB has left n) := by unfold nowL; rw [if_neg hz]
            have he2 := he
            rw [e] at he2
            have h3 := (List.mem_filter.1 he2).2
            have h4 : hadB has left early = false := by simpa using h3
            unfold hadB at h4
            have h5 := List.any_eq_false.1 h4 late g1
            by_cases hle : late = early
            · subst hle; exact absurd he g2
            · simpa [hle] using h5
end Go.Proofs.Ytnimidkeoocchaa.End
