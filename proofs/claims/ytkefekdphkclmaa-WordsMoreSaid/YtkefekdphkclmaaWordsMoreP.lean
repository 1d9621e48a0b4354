/- The law WordsMore over the walked functions: one value more is one word more; a frame more is as many as it has. -/
import Derived.Test.YtkefekdphkclmaaWordsCom
import Derived.Test.YtkefekdphkclmaaStmWordsMore
set_option linter.unusedVariables false
set_option linter.unusedSimpArgs false
namespace Go.Proofs.Ytkefekdphkclmaa.Wrt
open Go.RowKit Go.Proofs.YtkefekdphkclmaaW.PrintWords Go.Proofs.YtkefekdphkclmaaW.PrintMore Go.Proofs.Ytkefekdphkclmaa.PC Go.Proofs.Ytkefekdphkclmaa.Nb Go.Proofs.Ytkefekdphkclmaa.Opn

theorem wordsMore : WordsMoreS.WordsMore.Pure := by
  intro x0 x1 x2 hG h1 h2
  obtain ⟨g0, g1, g2, g3⟩ := hG
  obtain ⟨_, _, _, _, _, w5, w6⟩ := h2
  have hl2 : x0.f2.length ≤ 8796093022207 - 1 := by have := g2.1; omega
  have hl3 : x0.f3.length ≤ 1466015503700 - 1 := by have := g3.1; omega
  obtain ⟨k, hk⟩ : ∃ k, 1466015503800 ≤ k := ⟨1466015503800, by omega⟩
  suffices h : wordsMoreOk k x0.f0 x0.f1 x0.f2 x0.f3 ⟨x1.f0, x1.f1⟩ ⟨x2.f0, x2.f1, x2.f2, x2.f3, ⟨x2.f4.f0, x2.f4.f1⟩, x2.f5, x2.f6⟩ by
    exact ⟨k, by unfold backstitchkeep3_WordsMore.f; rw [if_pos h]⟩
  refine ⟨worded_f k (by omega), by omega, by omega, by have := w5.1; show x2.f5.length ≤ _; omega, by have := w6.1; show x2.f6.length ≤ _; omega, (ofL x0.f0 x0.f1 x0.f2 x0.f3).1, (ofL x0.f0 x0.f1 x0.f2 x0.f3).2, (ofL x0.f0 x0.f1 (x0.f2 ++ [⟨x1.f0, x1.f1⟩]) x0.f3).1, (ofL x0.f0 x0.f1 (x0.f2 ++ [⟨x1.f0, x1.f1⟩]) x0.f3).2, (ofL x0.f0 x0.f1 x0.f2 (x0.f3 ++ [⟨x2.f0, x2.f1, x2.f2, x2.f3, ⟨x2.f4.f0, x2.f4.f1⟩, x2.f5, x2.f6⟩])).1, (ofL x0.f0 x0.f1 x0.f2 (x0.f3 ++ [⟨x2.f0, x2.f1, x2.f2, x2.f3, ⟨x2.f4.f0, x2.f4.f1⟩, x2.f5, x2.f6⟩])).2, of_f _ _ _ _ (by omega) k (by omega), of_f _ _ _ _ (by omega) k (by omega), of_f _ _ _ _ (by rw [List.length_append]; simp; omega) k (by rw [List.length_append]; simp; omega), fun he => ?_⟩
  obtain ⟨hL, _, _, e1⟩ := ofL_ok he
  have hlen := encC_length x0.f0 x0.f1 x0.f2 x0.f3 hL
  rw [e1]
  refine ⟨by omega, fun hg => ?_, fun hz => ?_⟩
  · obtain ⟨_, _, _, e2⟩ := ofL_ok hg
    rw [e2]
    simp [encC, encVs]
    omega
  · obtain ⟨_, _, _, e2⟩ := ofL_ok hz
    rw [e2]
    simp only [encC, List.length_cons, List.length_append, List.flatMap_append, List.flatMap_cons, List.flatMap_nil, List.length_nil, encF_length]
    omega
end Go.Proofs.Ytkefekdphkclmaa.Wrt
