/- The law of whole numbers in order, over the printed functions: plain numbers, no program. -/
import Derived.Test.YtchcbncelckgeaaNbFun
import Derived.Test.YtchcbncelckgeaaStmNanboxInts
set_option linter.unusedVariables false
set_option linter.unusedSimpArgs false
namespace Go.Proofs.Ytchcbncelckgeaa.Nb
open Go.RowKit Go.Proofs.Ytchcbncelckgeaa.PQ

theorem in_f (a : Int) : backstitchkeep3_NanboxInts_1.f a = some (decide (-2147483648 ≤ a ∧ a ≤ 2147483647)) := by
  unfold backstitchkeep3_NanboxInts_1.f
  by_cases h : a ≥ -2147483648
  · rw [if_pos h]; congr 1; simp; omega
  · rw [if_neg h]; congr 1; simp; omega
theorem two_in (a : Int) : ((bx 2 a).2 == 0) = decide (-2147483648 ≤ a ∧ a ≤ 2147483647) := by
  rw [Bool.eq_iff_iff, beq_iff_eq, bx_err, decide_eq_true_eq]
  unfold lo hi; simp
theorem two_box {a : Int} (h : -2147483648 ≤ a ∧ a ≤ 2147483647) : (bx 2 a).1 = 18445336698825998336 + a % 4294967296 := by
  rw [bx_other (by omega) (by omega) (by omega) (by unfold lo hi; simp; omega)]
  show tg 2 + a % 4294967296 = _
  unfold tg; simp
theorem ints : NanboxIntsS.NanboxInts.Pure := by
  intro a b _ _
  refine ⟨6, ?_⟩
  unfold backstitchkeep3_NanboxInts.f
  rw [boxed_f 6 (by omega), box_f 6 2 a (by omega), box_f 6 2 b (by omega), in_f a, in_f b]
  simp only [Option.bind_some, if_true, two_in, bne_self_eq_false, Bool.false_eq_true, if_false, backstitchkeep3_NanboxInts.j0]
  rw [boxed_f 5 (by omega), in_f a, in_f b]
  simp only [Option.bind_some, if_true]
  by_cases ha : -2147483648 ≤ a ∧ a ≤ 2147483647
  · rw [if_pos (by simpa using ha)]
    by_cases hb : -2147483648 ≤ b ∧ b ≤ 2147483647
    · rw [if_pos (by simpa using hb)]
      by_cases hs : (decide (a < 0) != decide (b < 0)) = true
      · rw [if_pos hs]
      · rw [if_neg hs, two_box ha, two_box hb]
        have hs' : (a < 0) ↔ (b < 0) := by simpa using hs
        congr 1
        rw [beq_iff_eq, decide_eq_decide]
        omega
    · rw [if_neg (by simpa using hb)]
  · rw [if_neg (by simpa using ha)]
end Go.Proofs.Ytchcbncelckgeaa.Nb
