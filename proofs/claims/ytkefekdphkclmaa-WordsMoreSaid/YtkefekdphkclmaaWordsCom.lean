/- What the laws of words share. -/
import Derived.Test.YtkefekdphkclmaaWordsSame
import Derived.Test.YtkefekdphkclmaaWordsAny
import Derived.Test.YtkefekdphkclmaaPC5
import Derived.Test.YtkefekdphkclmaaPC9
set_option linter.unusedVariables false
set_option linter.unusedSimpArgs false
namespace Go.Proofs.Ytkefekdphkclmaa.Wrt
open Go.RowKit Go.Proofs.YtkefekdphkclmaaW.PrintWords Go.Proofs.YtkefekdphkclmaaW.PrintMore Go.Proofs.Ytkefekdphkclmaa.PC Go.Proofs.Ytkefekdphkclmaa.Nb

theorem of_f (a0 a1 : Int) (l2 : List SV) (l3 : List SF) (hl : l3.length ≤ 9223372036854775807) (k : Nat) (hk : l3.length < k) : words_Of.f k a0 a1 l2 l3 = some (ofL a0 a1 l2 l3) := by
  unfold words_Of.f
  rw [large_f a0 a1 l2 l3 hl k hk]
  rfl
theorem worded_f (k : Nat) (hk : 6 ≤ k) : backstitchkeep3_worded.f k = some true := by
  unfold backstitchkeep3_worded.f
  rw [of_f _ _ _ _ (by decide) k (by simp; omega)]
  have e : ofL 3 0 [(⟨0, 0⟩ : SV)] [] = ([3, 0, 1, 18444773748872577024, 0], 0) := by decide
  rw [e]
  simp only [Option.bind_some]
  rw [if_pos True.intro, eq_words_f _ (by decide) k (by simp; omega)]
  rfl
theorem encVs_length (l : List SV) : (encVs l).length = l.length + 1 := by simp [encVs]
theorem encF_length (f : SF) : (encF f).length = 7 + f.f5.length + 2 * f.f6.length := by
  simp only [encF, List.length_cons, List.length_append, encT_length, encVs_length]; omega
theorem encFs_length : ∀ l : List SF, (∀ f ∈ l, f.f5.length ≤ 60 ∧ f.f6.length ≤ 20) → (l.flatMap encF).length ≤ 200 * l.length
  | [], _ => by simp
  | f :: l, h => by
    have h1 := encFs_length l (fun x hx => h x (List.mem_cons_of_mem _ hx))
    have h2 := h f List.mem_cons_self
    rw [List.flatMap_cons, List.length_append, encF_length, List.length_cons]
    omega
theorem encC_length (a0 a1 : Int) (l2 : List SV) (l3 : List SF) (h : largeL a0 l2 l3 = false) : (encC a0 a1 l2 l3).length ≤ 10000 := by
  obtain ⟨n2, n3, nf⟩ := large_no h
  have := encFs_length l3 nf
  simp only [encC, List.length_cons, List.length_append, encVs_length]
  omega
theorem u64_len {n m : Nat} (hn : n ≤ 1000000) (hm : m ≤ 1000000) (h : u64 (n : Int) = u64 (m : Int)) : n = m := by
  unfold u64 at h
  rw [wrap_u64, wrap_u64] at h
  omega
theorem encVs_pre {l l' : List SV} {s s' : List Int} (h1 : l.length ≤ 1000000) (h2 : l'.length ≤ 1000000) (h : encVs l ++ s = encVs l' ++ s') : s = s' := by
  simp only [encVs, List.cons_append, List.cons.injEq] at h
  have e := u64_len h1 h2 h.1
  exact (List.append_inj h.2 (by simp [e])).2
theorem encF_pre {f f' : SF} {s s' : List Int} (h1 : f.f5.length ≤ 60 ∧ f.f6.length ≤ 20) (h2 : f'.f5.length ≤ 60 ∧ f'.f6.length ≤ 20) (h : encF f ++ s = encF f' ++ s') : s = s' := by
  simp only [encF, List.cons_append, List.cons.injEq, List.append_assoc] at h
  have h := encVs_pre (by omega) (by omega) h.2.2.2.2.2
  simp only [List.cons.injEq] at h
  have e := u64_len (by omega) (by omega) h.1
  exact (List.append_inj h.2 (by rw [encT_length, encT_length, e])).2
theorem encFs_pre : ∀ {l l' : List SF} {s s' : List Int}, (∀ f ∈ l, f.f5.length ≤ 60 ∧ f.f6.length ≤ 20) → (∀ f ∈ l', f.f5.length ≤ 60 ∧ f.f6.length ≤ 20) → l.length = l'.length → l.flatMap encF ++ s = l'.flatMap encF ++ s' → s = s'
  | [], [], s, s', _, _, _, h => by simpa using h
  | [], f' :: l', s, s', _, _, hl, h => by simp at hl
  | f :: l, [], s, s', _, _, hl, h => by simp at hl
  | f :: l, f' :: l', s, s', h1, h2, hl, h => by
    simp only [List.flatMap_cons, List.append_assoc] at h
    exact encFs_pre (fun x hx => h1 x (List.mem_cons_of_mem _ hx)) (fun x hx => h2 x (List.mem_cons_of_mem _ hx)) (by simpa using hl) (encF_pre (h1 f List.mem_cons_self) (h2 f' List.mem_cons_self) h)
/-- No cell's words begin another cell's. -/
theorem encC_pre {a0 a1 b0 b1 : Int} {l2 m2 : List SV} {l3 m3 : List SF} {s s' : List Int} (h1 : largeL a0 l2 l3 = false) (h2 : largeL b0 m2 m3 = false) (h : encC a0 a1 l2 l3 ++ s = encC b0 b1 m2 m3 ++ s') : s = s' := by
  obtain ⟨n2, n3, nf⟩ := large_no h1
  obtain ⟨p2, p3, pf⟩ := large_no h2
  simp only [encC, List.cons_append, List.cons.injEq, List.append_assoc] at h
  have h := encVs_pre (by omega) (by omega) h.2.2
  simp only [List.cons.injEq] at h
  exact encFs_pre nf pf (u64_len (by omega) (by omega) h.1) h.2
theorem rest_f (a : Int) (m : Nat) (h0 : 0 < m) (h1 : m ≤ 1000000) : ∃ n : Nat, backstitchref3_Rest.f a (m : Int) = some (n : Int) ∧ n < m := by
  have hb := Int.tmod_lt_of_pos a (show (0 : Int) < m by omega)
  have hl := Int.lt_tmod_of_pos a (show (0 : Int) < m by omega)
  unfold backstitchref3_Rest.f
  rw [if_neg (by omega)]
  by_cases h : Int.tmod a m < 0
  · rw [if_pos h]
    have e : wrap64 (Int.tmod a m + m) = Int.tmod a m + m := by unfold wrap64; omega
    rw [e]
    exact ⟨(Int.tmod a m + m).toNat, by rw [Int.toNat_of_nonneg (by omega)], by omega⟩
  · rw [if_neg h]
    exact ⟨(Int.tmod a m).toNat, by rw [Int.toNat_of_nonneg (by omega)], by omega⟩
theorem U64_u64 (n : Int) : U64 (u64 n) := by unfold U64 u64; rw [wrap_u64]; omega
theorem encV_U64 {v : SV} (h : okV v) : U64 (encV v) := bx_range h
theorem encC_U64 (a0 a1 : Int) (l2 : List SV) (l3 : List SF) (o2 : ∀ v ∈ l2, okV v) (o3 : ∀ f ∈ l3, okF f) : ∀ x ∈ encC a0 a1 l2 l3, U64 x := by
  intro x hx
  simp only [encC, encVs, encF, encT, List.mem_cons, List.mem_append, List.mem_map, List.mem_flatMap, List.cons_append] at hx
  rcases hx with rfl | rfl | rfl | ⟨v, hv, rfl⟩ | rfl | ⟨f, hf, h⟩
  · exact U64_u64 _
  · exact U64_u64 _
  · exact U64_u64 _
  · exact encV_U64 (o2 v hv)
  · exact U64_u64 _
  · rcases h with rfl | rfl | rfl | rfl | rfl | rfl | ⟨v, hv, rfl⟩ | rfl | ⟨t, _, h⟩
    · exact U64_u64 _
    · exact U64_u64 _
    · exact U64_u64 _
    · exact U64_u64 _
    · exact encV_U64 (o3 f hf).1
    · exact U64_u64 _
    · exact encV_U64 ((o3 f hf).2 v hv)
    · exact U64_u64 _
    · simp only [List.mem_singleton, List.not_mem_nil, or_false] at h
      rcases h with rfl | rfl <;> exact U64_u64 _
end Go.Proofs.Ytkefekdphkclmaa.Wrt
