/- The law WordsBack over the printed functions. -/
import Derived.Test.YtkefekdphkclmaaWordsSame
import Derived.Test.YtkefekdphkclmaaStmWordsBack
import Derived.Test.YtkefekdphkclmaaPV5
set_option linter.unusedVariables false
set_option linter.unusedSimpArgs false
namespace Go.Proofs.Ytkefekdphkclmaa.Wrt
open Go.RowKit Go.Proofs.YtkefekdphkclmaaW.PrintWords Go.Proofs.YtkefekdphkclmaaW.PrintMore Go.Proofs.Ytkefekdphkclmaa.PV Go.Proofs.Ytkefekdphkclmaa.Nb Go.Proofs.Ytkefekdphkclmaa.OpnB

theorem of_f (a0 a1 : Int) (l2 : List SV) (l3 : List SF) (hl : l3.length ≤ 9223372036854775807) (k : Nat) (hk : l3.length < k) : words_Of.f k a0 a1 l2 l3 = some (ofL a0 a1 l2 l3) := by
  unfold words_Of.f
  rw [large_f a0 a1 l2 l3 hl k hk]
  rfl
theorem worded_f (k : Nat) (hk : 6 ≤ k) : backstitchkeep3_worded.f k = some true := by
  unfold backstitchkeep3_worded.f
  rw [of_f _ _ _ _ (by decide) k (by simp; omega)]
  have e : ofL 3 0 [(⟨0, 0⟩ : SV)] [] = ([3, 0, 1, 18444773748872577024, 0], 0) := by decide
  rw [e]
  simp only [Option.bind_some]
  rw [if_pos True.intro, eq_words_f _ (by decide) k (by simp; omega)]
  rfl
theorem encVs_length (l : List SV) : (encVs l).length = l.length + 1 := by simp [encVs]
theorem encF_length (f : SF) : (encF f).length = 7 + f.f5.length + 2 * f.f6.length := by
  simp only [encF, List.length_cons, List.length_append, encT_length, encVs_length]; omega
theorem encFs_length : ∀ l : List SF, (∀ f ∈ l, f.f5.length ≤ 60 ∧ f.f6.length ≤ 20) → (l.flatMap encF).length ≤ 200 * l.length
  | [], _ => by simp
  | f :: l, h => by
    have h1 := encFs_length l (fun x hx => h x (List.mem_cons_of_mem _ hx))
    have h2 := h f List.mem_cons_self
    rw [List.flatMap_cons, List.length_append, encF_length, List.length_cons]
    omega
theorem encC_length (a0 a1 : Int) (l2 : List SV) (l3 : List SF) (h : largeL a0 l2 l3 = false) : (encC a0 a1 l2 l3).length ≤ 10000 := by
  obtain ⟨n2, n3, nf⟩ := large_no h
  have := encFs_length l3 nf
  simp only [encC, List.length_cons, List.length_append, encVs_length]
  omega
theorem fine_of {v : SV} (h : WordsBackS.G27 v) (ho : okV v) (hp : plainB v = true) : Fine v := by
  refine ⟨ho, i64_wf h.2, ?_⟩
  rintro ⟨h1, h2⟩
  simp [plainB, h1, h2] at hp
theorem wordsBack : WordsBackS.WordsBack.Pure := by
  intro x0 x1 hG _ hz
  obtain ⟨g0, g1, g2, g3⟩ := hG
  have hx1 : x1.length ≤ 1048576 := by
    have h1 : x1.length ≤ (x1.map mOne).sum := len_le _ (fun _ => by simp [mOne]) _
    simp only [mList] at hz
    omega
  have hlen3 : x0.f3.length ≤ 1048576 := by
    have h1 : x0.f3.length ≤ (x0.f3.map WordsBackS.m30).sum := len_le _ (fun _ => by simp [WordsBackS.m30]) _
    simp only [WordsBackS.m25, mList] at hz
    omega
  have hof : ∀ k, 1048577 ≤ k → words_Of.f k x0.f0 x0.f1 x0.f2 x0.f3 = some (ofL x0.f0 x0.f1 x0.f2 x0.f3) := fun k hk => of_f _ _ _ _ (by omega) k (by omega)
  by_cases he : (ofL x0.f0 x0.f1 x0.f2 x0.f3).2 = 0
  · obtain ⟨hL, o2, o3, e1⟩ := ofL_ok he
    obtain ⟨n2, n3, nf⟩ := large_no hL
    obtain ⟨K1, q1⟩ := cellVals_l0 x0.f3 n3 (fun f hf => (nf f hf).1) x0.f3.length 0 x0.f2 rfl (by omega) (by omega)
    have hcv : ∀ k, K1 ≤ k → backstitchref3_CellVals.f k x0.f0 x0.f1 x0.f2 x0.f3 = some (cellVals x0.f2 x0.f3) := by
      intro k hk
      unfold backstitchref3_CellVals.f
      have e : api_Val_14.f x0.f2 = some x0.f2 := by
        unfold api_Val_14.f
        simp only [Option.bind_some, List.length_nil, List.nil_append]
        rw [if_pos (by omega)]
      rw [e]
      exact q1 k hk
    have hcl : (cellVals x0.f2 x0.f3).length ≤ 4611686018427387904 := by
      have : ∀ l : List SF, (∀ f ∈ l, f.f5.length ≤ 60 ∧ f.f6.length ≤ 20) → (l.flatMap (fun f => f.f4 :: f.f5)).length ≤ 61 * l.length := by
        intro l
        induction l with
        | nil => intro _; simp
        | cons f l ih =>
          intro h
          have h1 := ih (fun x hx => h x (List.mem_cons_of_mem _ hx))
          have h2 := h f List.mem_cons_self
          rw [List.flatMap_cons, List.length_append, List.length_cons, List.length_cons]
          omega
      have := this x0.f3 nf
      unfold cellVals
      rw [List.length_append]
      omega
    have hpl : ∀ k, (cellVals x0.f2 x0.f3).length < k → backstitchkeep3_plain.f k (cellVals x0.f2 x0.f3) = some ((cellVals x0.f2 x0.f3).all plainB) := by
      intro k hk
      unfold backstitchkeep3_plain.f
      exact plain_l0 _ hcl _ 0 k rfl (by omega) (by omega)
    have hel := encC_length x0.f0 x0.f1 x0.f2 x0.f3 hL
    by_cases hp : (cellVals x0.f2 x0.f3).all plainB = true
    · have hall := List.all_eq_true.1 hp
      have hv : ∀ v ∈ x0.f2, Fine v := fun v hv => fine_of (g2.2 v hv) (o2 v hv) (hall v (List.mem_append_left _ hv))
      have hf : ∀ f ∈ x0.f3, FineF f := fun f hf => by
        obtain ⟨w0, w1, w2, w3, w4, w5, w6⟩ := g3.2 f hf
        obtain ⟨p4, p5⟩ := o3 f hf
        have hin : ∀ v, v ∈ f.f4 :: f.f5 → plainB v = true := fun v hv => hall v (List.mem_append_right _ (List.mem_flatMap.2 ⟨f, hf, hv⟩))
        exact ⟨i64_wf w0, i64_wf w1, i64_wf w2, i64_wf w3, fine_of w4 p4 (hin _ List.mem_cons_self), fun v hv => fine_of (w5.2 v hv) (p5 v hv) (hin v (List.mem_cons_of_mem _ hv)), fun t ht => ⟨i64_wf (w6.2 t ht).1, i64_wf (w6.2 t ht).2⟩, nf f hf⟩
      obtain ⟨K2, q2⟩ := cell_f (l := encC x0.f0 x0.f1 x0.f2 x0.f3 ++ x1) (by rw [List.length_append]; omega) x0.f0 x0.f1 x0.f2 x0.f3 x1 rfl (i64_wf g0) (i64_wf g1) hv hf hL
      obtain ⟨K3, q3⟩ := same_cell x0.f0 x0.f1 x0.f2 x0.f3 (by omega) (by omega) nf
      refine ⟨1048600 + K1 + K2 + K3 + (cellVals x0.f2 x0.f3).length, ?_⟩
      obtain ⟨k, hk⟩ : ∃ k, k + 1 = 1048600 + K1 + K2 + K3 + (cellVals x0.f2 x0.f3).length := ⟨1048599 + K1 + K2 + K3 + (cellVals x0.f2 x0.f3).length, by omega⟩
      rw [← hk]
      unfold backstitchkeep3_WordsBack.f
      rw [worded_f _ (by omega)]
      simp only [Option.bind_some, if_true]
      rw [hof _ (by omega)]
      simp only [Option.bind_some]
      rw [if_pos he, hcv _ (by omega)]
      simp only [Option.bind_some]
      rw [hpl _ (by omega), hp]
      simp only [Option.bind_some, Bool.not_true]
      simp only [backstitchkeep3_WordsBack.j0]
      rw [if_neg (by decide), e1]
      have ec : backstitchref3_Copy_uint64.f (encC x0.f0 x0.f1 x0.f2 x0.f3) = some (encC x0.f0 x0.f1 x0.f2 x0.f3) := by
        unfold backstitchref3_Copy_uint64.f
        simp only [Option.bind_some, List.length_nil, List.nil_append]
        rw [if_pos (by omega)]
      rw [ec]
      simp only [Option.bind_some]
      rw [if_pos (by omega)]
      have eb : words_Back.f k (encC x0.f0 x0.f1 x0.f2 x0.f3 ++ x1) = some (x0.f0, x0.f1, x0.f2, x0.f3, ((encC x0.f0 x0.f1 x0.f2 x0.f3).length : Int), 0) := by
        unfold words_Back.f
        have h_ := q2 k (by omega)
        simp only at h_
        rw [h_]
        rfl
      rw [eb]
      simp only [Option.bind_some]
      rw [worded_f _ (by omega)]
      simp only [Option.bind_some, if_true]
      have h_ := q3 k (by omega)
      simp only at h_
      rw [h_]
      rfl
    · refine ⟨1048600 + K1 + (cellVals x0.f2 x0.f3).length, ?_⟩
      obtain ⟨k, hk⟩ : ∃ k, k + 1 = 1048600 + K1 + (cellVals x0.f2 x0.f3).length := ⟨1048599 + K1 + (cellVals x0.f2 x0.f3).length, by omega⟩
      rw [← hk]
      unfold backstitchkeep3_WordsBack.f
      rw [worded_f _ (by omega)]
      simp only [Option.bind_some, if_true]
      rw [hof _ (by omega)]
      simp only [Option.bind_some]
      rw [if_pos he, hcv _ (by omega)]
      simp only [Option.bind_some]
      have hp' : (cellVals x0.f2 x0.f3).all plainB = false := by simpa using hp
      rw [hpl _ (by omega), hp']
      simp only [Option.bind_some, Bool.not_false]
      simp only [backstitchkeep3_WordsBack.j0]
      rw [if_pos True.intro, worded_f _ (by omega)]
      rfl
  · refine ⟨1048600, ?_⟩
    unfold backstitchkeep3_WordsBack.f
    rw [worded_f _ (by omega)]
    simp only [Option.bind_some, if_true]
    rw [hof _ (by omega)]
    simp only [Option.bind_some]
    rw [if_neg he]
    show backstitchkeep3_WordsBack.j0 (1048599 + 1) _ _ _ _ _ _ _ = _
    simp only [backstitchkeep3_WordsBack.j0]
    rw [if_pos True.intro, worded_f _ (by omega)]
    rfl
end Go.Proofs.Ytkefekdphkclmaa.Wrt
