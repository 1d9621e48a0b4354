/- The laws of boxed values, over the printed functions: plain numbers, no program. -/
import Derived.Test.YtchcbncelckgeaaNbFun
import Derived.Test.YtchcbncelckgeaaStmNanboxApart
import Derived.Test.YtchcbncelckgeaaStmNanboxFloats
import Derived.Test.YtchcbncelckgeaaStmNanboxBack
set_option linter.unusedVariables false
set_option linter.unusedSimpArgs false
namespace Go.Proofs.Ytchcbncelckgeaa.Nb
open Go.RowKit Go.Proofs.Ytchcbncelckgeaa.PQ

theorem u64_range (n : Int) : 0 ≤ n % 18446744073709551616 ∧ n % 18446744073709551616 < 18446744073709551616 := by omega

theorem apart : NanboxApartS.NanboxApart.Pure := by
  rintro ⟨k, n⟩ ⟨l, m⟩ ⟨hk, hn⟩ ⟨hl, hm⟩
  refine ⟨6, ?_⟩
  have hn' := i64_wf hn
  have hm' := i64_wf hm
  show backstitchkeep3_NanboxApart.f 6 k n l m = some true
  unfold backstitchkeep3_NanboxApart.f
  rw [boxed_f 6 (by omega), box_f 6 k n (by omega), box_f 6 l m (by omega)]
  simp only [Option.bind_some, if_true]
  have yes : ((!(k == l) || (!(n == m))) = true) = ¬ (k = l ∧ n = m) := by simp [-not_and, Decidable.not_and_iff_or_not]
  -- the way on which they are one, or one has no word
  have way1 : ∀ x5 x6 x7 x8 : Int, ((k = l ∧ n = m) → x5 = x7 ∧ x6 = x8) → backstitchkeep3_NanboxApart.j0 6 x5 x6 x7 x8 true k n l m = some true := by
    intro x5 x6 x7 x8 h
    simp only [backstitchkeep3_NanboxApart.j0]
    rw [boxed_f 5 (by omega)]
    simp only [Option.bind_some, if_true]
    by_cases he : k = l ∧ n = m
    · rw [if_neg (by rw [yes]; simpa using he), if_pos (h he).1, (h he).2]; simp
    · rw [if_pos (by rw [yes]; exact he)]
  have same : (k = l ∧ n = m) → (bx k n).1 = (bx l m).1 ∧ (bx k n).2 = (bx l m).2 := by rintro ⟨rfl, rfl⟩; exact ⟨rfl, rfl⟩
  by_cases he : (bx k n).2 = 0
  · rw [if_pos he]
    by_cases hf : (bx l m).2 = 0
    · rw [if_pos hf]
      by_cases hs : k = l ∧ n = m
      · have : (k == l && (n == m)) = true := by simp [hs]
        rw [this]
        exact way1 _ _ _ _ same
      · have : (k == l && (n == m)) = false := by
          rw [Bool.eq_false_iff]; simpa using fun a b => hs ⟨a, b⟩
        rw [this]
        simp only [backstitchkeep3_NanboxApart.j0, Bool.false_eq_true, if_false]
        rw [wrap_u64, wrap_u64, odd_ref _ (u64_range n).1 (u64_range n).2, odd_ref _ (u64_range m).1 (u64_range m).2, boxed_f 5 (by omega)]
        simp only [Option.bind_some, if_true]
        have key := bx_apart he hf hn' hm'
        by_cases hx : (bx k n).1 = (bx l m).1
        · rcases key hx with h | ⟨h1, h2, h3, h4⟩
          · exact absurd h hs
          · rw [if_pos h1, if_pos h2, if_pos h3, if_pos hx, h4]
        · simp [hx]
    · rw [if_neg hf]
      exact way1 _ _ _ _ same
  · rw [if_neg he]
    exact way1 _ _ _ _ same

theorem floats : NanboxFloatsS.NanboxFloats.Pure := by
  rintro n ⟨l, m⟩ hn ⟨hl, hm⟩
  refine ⟨6, ?_⟩
  have hn' := i64_wf hn
  have hm' := i64_wf hm
  show backstitchkeep3_NanboxFloats.f 6 n l m = some true
  unfold backstitchkeep3_NanboxFloats.f
  rw [boxed_f 6 (by omega), box_f 6 3 n (by omega), box_f 6 l m (by omega), wrap_u64, odd_ref _ (u64_range n).1 (u64_range n).2]
  simp only [Option.bind_some, if_true]
  have fin : backstitchkeep3_NanboxFloats.j0 6 (bx l m).1 (bx l m).2 false l m = some true := by
    simp only [backstitchkeep3_NanboxFloats.j0, Bool.false_eq_true, if_false]
    rw [boxed_f 5 (by omega)]
    simp only [Option.bind_some, if_true]
    by_cases he : (bx l m).2 = 0
    · rw [if_pos he]
      by_cases h3 : l = 3
      · rw [if_pos h3]
      · have hr := bx_range he
        rw [if_neg h3, odd_ref _ hr.1 hr.2, odd_tags he h3, kind_f 5 _ hr.1 hr.2 (by omega)]
        rcases ub_bx he hm' with h | ⟨h, _⟩
        · rw [h]; simp
        · exact absurd h h3
    · rw [if_neg he]
  have he : (bx 3 n).2 = 0 := (bx_err 3 n).2 ⟨by omega, by omega, .inl rfl⟩
  rw [if_pos he]
  by_cases ho : odd (n % 18446744073709551616) = true
  · rw [if_pos ho]; exact fin
  · rw [if_neg ho, bx_three, if_neg ho]
    have : ((n % 18446744073709551616) != (n % 18446744073709551616)) = false := by simp
    rw [this]; exact fin

theorem back : NanboxBackS.NanboxBack.Pure := by
  rintro ⟨k, n⟩ w ⟨hk, hn⟩ hw
  refine ⟨7, ?_⟩
  have hn' := i64_wf hn
  obtain ⟨w0, w1⟩ := u64_wf hw
  show backstitchkeep3_NanboxBack.f 7 k n w = some true
  have fin : backstitchkeep3_NanboxBack.j0 7 w = some true := by
    simp only [backstitchkeep3_NanboxBack.j0]
    rw [boxed_f 6 (by omega), unbox_f 6 w w0 w1 (by omega), kind_f 6 w w0 w1 (by omega)]
    simp only [Option.bind_some, if_true]
    by_cases he : (ub w).2.2 = 0
    · rw [if_pos he, box_f 6 _ _ (by omega), bx_ub w w0 w1 he]
      simp [he]
    · rw [if_neg he, if_neg he]; rfl
  unfold backstitchkeep3_NanboxBack.f
  rw [boxed_f 7 (by omega), box_f 7 k n (by omega)]
  simp only [Option.bind_some, if_true]
  by_cases he : (bx k n).2 = 0
  · have hr := bx_range he
    rw [if_pos he, unbox_f 7 _ hr.1 hr.2 (by omega), wrap_u64, odd_ref _ (u64_range n).1 (u64_range n).2]
    simp only [Option.bind_some]
    rcases ub_bx he hn' with h | ⟨h3, ho, hc, hu⟩
    · rw [h]; simp [fin]
    · rw [hu]; subst h3
      simp only [if_true, if_pos ho, fin]
      simp
  · rw [if_neg he]; exact fin
end Go.Proofs.Ytchcbncelckgeaa.Nb
