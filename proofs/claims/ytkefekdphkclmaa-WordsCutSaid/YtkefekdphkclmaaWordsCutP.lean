/- The law WordsCut over the walked functions: of a cell's words, fewer of them tell no cell, as no cell's words begin another's. -/
import Derived.Test.YtkefekdphkclmaaWordsCom
import Derived.Test.YtkefekdphkclmaaWordsAny
import Derived.Test.YtkefekdphkclmaaStmWordsCut
set_option linter.unusedVariables false
set_option linter.unusedSimpArgs false
namespace Go.Proofs.Ytkefekdphkclmaa.Wrt
open Go.RowKit Go.Proofs.YtkefekdphkclmaaW.PrintWords Go.Proofs.YtkefekdphkclmaaW.PrintMore Go.Proofs.Ytkefekdphkclmaa.PC Go.Proofs.Ytkefekdphkclmaa.Nb Go.Proofs.Ytkefekdphkclmaa.Opn

theorem U64_u64 (n : Int) : U64 (u64 n) := by unfold U64 u64; rw [wrap_u64]; omega
theorem encV_U64 {v : SV} (h : okV v) : U64 (encV v) := bx_range h
theorem encC_U64 (a0 a1 : Int) (l2 : List SV) (l3 : List SF) (o2 : ∀ v ∈ l2, okV v) (o3 : ∀ f ∈ l3, okF f) : ∀ x ∈ encC a0 a1 l2 l3, U64 x := by
  intro x hx
  simp only [encC, encVs, encF, encT, List.mem_cons, List.mem_append, List.mem_map, List.mem_flatMap, List.cons_append] at hx
  rcases hx with rfl | rfl | rfl | ⟨v, hv, rfl⟩ | rfl | ⟨f, hf, h⟩
  · exact U64_u64 _
  · exact U64_u64 _
  · exact U64_u64 _
  · exact encV_U64 (o2 v hv)
  · exact U64_u64 _
  · rcases h with rfl | rfl | rfl | rfl | rfl | rfl | ⟨v, hv, rfl⟩ | rfl | ⟨t, _, h⟩
    · exact U64_u64 _
    · exact U64_u64 _
    · exact U64_u64 _
    · exact U64_u64 _
    · exact encV_U64 (o3 f hf).1
    · exact U64_u64 _
    · exact encV_U64 ((o3 f hf).2 v hv)
    · exact U64_u64 _
    · simp only [List.mem_singleton, List.not_mem_nil, or_false] at h
      rcases h with rfl | rfl <;> exact U64_u64 _
theorem wordsCut : WordsCutS.WordsCut.Pure := by
  intro x0 x1 hG _
  obtain ⟨g0, g1, g2, g3⟩ := hG
  have hl3 : x0.f3.length ≤ 140737488351232 := by have := g3.1; omega
  have hof : ∀ k, 140737488351233 ≤ k → words_Of.f k x0.f0 x0.f1 x0.f2 x0.f3 = some (ofL x0.f0 x0.f1 x0.f2 x0.f3) := fun k hk => of_f _ _ _ _ (by omega) k (by omega)
  by_cases he : (ofL x0.f0 x0.f1 x0.f2 x0.f3).2 = 0
  · obtain ⟨hL, o2, o3, e1⟩ := ofL_ok he
    have hlen := encC_length x0.f0 x0.f1 x0.f2 x0.f3 hL
    have hpos : 0 < (encC x0.f0 x0.f1 x0.f2 x0.f3).length := by simp [encC]
    obtain ⟨n, hn, hlt⟩ := rest_f x1 _ hpos (by omega)
    have hU := encC_U64 x0.f0 x0.f1 x0.f2 x0.f3 o2 o3
    obtain ⟨x, y, vs, fs, a', b', ⟨K, q1⟩, q2, q3, q4⟩ := cell_any (l := (encC x0.f0 x0.f1 x0.f2 x0.f3).take n) (by rw [List.length_take]; omega) (fun z hz => hU z (List.mem_of_mem_take hz))
    obtain ⟨k, hk1, hk2⟩ : ∃ k, K ≤ k ∧ 140737488351240 ≤ k := ⟨K + 140737488351240, by omega, by omega⟩
    refine ⟨k, ?_⟩
    unfold backstitchkeep3_WordsCut.f
    rw [worded_f _ (by omega)]
    simp only [Option.bind_some, if_true]
    rw [hof _ (by omega)]
    simp only [Option.bind_some]
    rw [if_pos he, e1, hn]
    simp only [Option.bind_some]
    rw [if_pos (by omega), Int.toNat_natCast]
    unfold words_Back.f
    have q := q1 k hk1
    simp only at q
    rw [q]
    cases b' with
    | true => rfl
    | false =>
      exfalso
      obtain ⟨o2', o3', e⟩ := q4 rfl
      have e2 : encC x0.f0 x0.f1 x0.f2 x0.f3 ++ [] = encC x y vs fs ++ (((encC x0.f0 x0.f1 x0.f2 x0.f3).take n).drop a' ++ (encC x0.f0 x0.f1 x0.f2 x0.f3).drop n) := by
        rw [← List.append_assoc, ← e, List.take_append_drop, List.append_nil]
      have e3 := encC_pre hL q3 e2
      have e4 := congrArg List.length e3
      simp only [List.length_nil, List.length_append, List.length_drop] at e4
      omega
  · obtain ⟨k, hk2⟩ : ∃ k, 140737488351240 ≤ k := ⟨140737488351240, by omega⟩
    refine ⟨k, ?_⟩
    unfold backstitchkeep3_WordsCut.f
    rw [worded_f _ (by omega)]
    simp only [Option.bind_some, if_true]
    rw [hof _ (by omega)]
    simp only [Option.bind_some]
    rw [if_neg he]
end Go.Proofs.Ytkefekdphkclmaa.Wrt
