/- The law WordsRead over the printed functions. -/
import Derived.Test.YtkefekdphkclmaaWordsAny
import Derived.Test.YtkefekdphkclmaaPV7
set_option linter.unusedVariables false
set_option linter.unusedSimpArgs false
namespace Go.Proofs.Ytkefekdphkclmaa.Wrt
open Go.RowKit Go.Proofs.YtkefekdphkclmaaW.PrintWords Go.Proofs.YtkefekdphkclmaaW.PrintMore Go.Proofs.Ytkefekdphkclmaa.PV Go.Proofs.Ytkefekdphkclmaa.Nb

theorem eq_words (l : List Int) (hl : l.length ≤ 4611686018427387904) : ∀ (d i k : Nat), l.length - i = d → i ≤ l.length → d < k → backstitchref3_Eq_uint64.l0 k l l (l.length : Int) (i : Int) = some true := by
  intro d
  induction d with
  | zero =>
    intro i k hd hi hk
    obtain ⟨k, rfl⟩ : ∃ m, k = m + 1 := ⟨k - 1, by omega⟩
    simp only [backstitchref3_Eq_uint64.l0]
    rw [if_neg (by omega)]
  | succ d ih =>
    intro i k hd hi hk
    obtain ⟨k, rfl⟩ : ∃ m, k = m + 1 := ⟨k - 1, by omega⟩
    simp only [backstitchref3_Eq_uint64.l0]
    rw [if_pos (by omega), if_pos (by omega), if_pos (by omega), if_pos (by omega), if_pos True.intro, wrap_up (i : Int) (by omega) (by omega)]
    have := ih (i + 1) k (by omega) (by omega) (by omega)
    rw [show ((i + 1 : Nat) : Int) = (i : Int) + 1 from by omega] at this
    exact this
theorem eq_words_f (l : List Int) (hl : l.length ≤ 4611686018427387904) (k : Nat) (hk : l.length < k) : backstitchref3_Eq_uint64.f k l l = some true := by
  unfold backstitchref3_Eq_uint64.f
  rw [if_pos rfl]
  exact eq_words l hl l.length 0 k rfl (by omega) (by omega)
theorem of_f (a0 a1 : Int) (l2 : List SV) (l3 : List SF) (hl : l3.length ≤ 9223372036854775807) (k : Nat) (hk : l3.length < k) : words_Of.f k a0 a1 l2 l3 = some (ofL a0 a1 l2 l3) := by
  unfold words_Of.f
  rw [large_f a0 a1 l2 l3 hl k hk]
  rfl
theorem worded_f (k : Nat) (hk : 6 ≤ k) : backstitchkeep3_worded.f k = some true := by
  unfold backstitchkeep3_worded.f
  rw [of_f _ _ _ _ (by decide) k (by simp; omega)]
  have e : ofL 3 0 [(⟨0, 0⟩ : SV)] [] = ([3, 0, 1, 18444773748872577024, 0], 0) := by decide
  rw [e]
  simp only [Option.bind_some]
  rw [if_pos True.intro, eq_words_f _ (by decide) k (by simp; omega)]
  rfl
theorem wordsRead : ∀ (l0 : List Int), l0.length ≤ maxLen → l0.length * 8 ≤ 140737488351232 → (∀ x ∈ l0, (Lit.int .u64 x).wf = true) → ∃ k, backstitchkeep3_WordsRead.f k l0 = some true := by
  intro l0 _ h8 hw
  obtain ⟨x, y, vs, fs, a', b', ⟨K, q1⟩, q2, q3, q4⟩ := cell_any (l := l0) (by omega) (fun x hx => u64_wf (hw x hx))
  obtain ⟨n2, n3, nf⟩ := large_no q3
  refine ⟨K + l0.length + 100, ?_⟩
  have hc : words_reader_cell.f (K + l0.length + 100) l0 0 false = some (x, y, vs, fs, (a' : Int), b') := q1 _ (by omega)
  have hb : words_Back.f (K + l0.length + 100) l0 = some (Go.Proofs.Ytkefekdphkclmaa.Wrb.backR (x, y, vs, fs, (a' : Int), b')) := by
    unfold words_Back.f
    rw [hc]
    rfl
  unfold backstitchkeep3_WordsRead.f
  rw [worded_f _ (by omega)]
  simp only [Option.bind_some, if_true]
  rw [hb]
  simp only [Option.bind_some]
  cases b' with
  | true =>
    simp only [Go.Proofs.Ytkefekdphkclmaa.Wrb.backR, if_true]
    rw [if_neg (by decide)]
    rfl
  | false =>
    obtain ⟨o2, o3, e⟩ := q4 rfl
    simp only [Go.Proofs.Ytkefekdphkclmaa.Wrb.backR]
    rw [if_pos (by simp)]
    simp only [Bool.false_eq_true, if_false]
    rw [of_f _ _ _ _ (by omega) _ (by omega), ofL_is q3 o2 o3]
    simp only [Option.bind_some]
    have hlen : (encC x y vs fs).length = a' := by
      have h_ := congrArg List.length e
      rw [List.length_append, List.length_drop] at h_
      omega
    have ht : l0.take a' = encC x y vs fs := by
      rw [← hlen]
      conv => lhs; rw [e]
      exact List.take_left
    rw [if_pos True.intro, if_pos (by omega), if_pos (by omega), Int.toNat_natCast, ht, eq_words_f _ (by rw [hlen]; omega) _ (by rw [hlen]; omega)]
    rfl
theorem wordsReadG : ∀ (l0 : List Int), (l0.length * 8 ≤ 140737488351232 ∧ l0.length ≤ maxLen ∧ ∀ x ∈ l0, (Lit.int .u64 x).wf = true) → ∃ k, backstitchkeep3_WordsRead.f k l0 = some true := fun l0 h => wordsRead l0 h.2.1 h.1 h.2.2
end Go.Proofs.Ytkefekdphkclmaa.Wrt
