/- What a reader reads of the words of a cell: the cell. -/
import Derived.Test.YtkefekdphkclmaaWordsDec
set_option linter.unusedVariables false
set_option linter.unusedSimpArgs false
namespace Go.Proofs.Ytkefekdphkclmaa.Wrt
open Go.RowKit Go.Proofs.YtkefekdphkclmaaW.PrintWords Go.Proofs.YtkefekdphkclmaaW.PrintMore Go.Proofs.Ytkefekdphkclmaa.PC Go.Proofs.Ytkefekdphkclmaa.Nb

section
variable {l : List Int} (hl : l.length ≤ 4611686018427387904)
include hl
theorem frames_l0 (b0 b1 : Int) (b2 : List SV) : ∀ (fs : List SF) (a : Nat) (out : List SF) (r : List Int), l.drop a = fs.flatMap encF ++ r → (∀ f ∈ fs, FineF f) → out.length + fs.length ≤ 1000000 →
    Ev (fun k => words_reader_cell.l0 k (fs.length : Int) l (a : Int) false b0 b1 b2 out) (b0, b1, b2, out ++ fs, ((a + (fs.flatMap encF).length : Nat) : Int), false) := by
  intro fs
  induction fs with
  | nil =>
    intro a out r h _ _
    refine Ev.now fun k => ?_
    simp only [words_reader_cell.l0]
    rw [if_neg (by simp)]
    simp
  | cons f fs ih =>
    intro a out r h hv ho
    have h' : l.drop a = encF f ++ (fs.flatMap encF ++ r) := by simpa using h
    have h2 : l.drop (a + (encF f).length) = fs.flatMap encF ++ r := by rw [← List.drop_drop, h', List.drop_left]
    have := ih (a + (encF f).length) (out ++ [f]) r h2 (fun x hx => hv x (List.mem_cons_of_mem _ hx)) (by simp at ho ⊢; omega)
    rw [List.append_assoc, List.singleton_append, show a + (encF f).length + (fs.flatMap encF).length = a + ((f :: fs).flatMap encF).length from by rw [List.flatMap_cons, List.length_append]; omega] at this
    refine Ev.step2 (frame_f hl f a _ h' (hv f List.mem_cons_self)) this fun k hk => ?_
    simp only [words_reader_cell.l0]
    rw [if_pos (by simp only [List.length_cons]; omega), if_neg (by decide)]
    (try simp only at hk)
    rw [hk]
    simp only [Option.bind_some]
    simp only [List.length_cons] at ho
    rw [if_pos (by omega), show wrap64 (((f :: fs).length : Int) - 1) = (fs.length : Int) from by simp only [List.length_cons]; unfold wrap64; omega]
omit hl in
theorem most_f (a0 : Int) : words_most.f a0 = some (mostL a0) := by unfold words_most.f mostL; split <;> rfl
theorem cell_at (a : Nat) (a0 a1 : Int) (l2 : List SV) (l3 : List SF) (r : List Int) (h : l.drop a = encC a0 a1 l2 l3 ++ r) (h0 : R64 a0) (h1 : R64 a1) (hv : ∀ v ∈ l2, Fine v) (hf : ∀ f ∈ l3, FineF f) (hL : largeL a0 l2 l3 = false) :
    Ev (fun k => words_reader_cell.f k l (a : Int) false) (a0, a1, l2, l3, ((a + (encC a0 a1 l2 l3).length : Nat) : Int), false) := by
  obtain ⟨n2, n3, _⟩ := large_no hL
  have hm : (l2.length : Int) ≤ mostL a0 := by
    unfold largeL at hL
    simp only [Bool.or_eq_false_iff, decide_eq_false_iff_not] at hL
    omega
  have q0 : l.drop a = u64 a0 :: u64 a1 :: (encVs l2 ++ (u64 (l3.length : Int) :: (l3.flatMap encF ++ r))) := by rw [h]; simp [encC]
  obtain ⟨_, _, q1⟩ := drop_get q0
  obtain ⟨_, _, q2⟩ := drop_get q1
  have q3 : l.drop (a + 1 + 1 + (encVs l2).length) = u64 (l3.length : Int) :: (l3.flatMap encF ++ r) := by rw [← List.drop_drop, q2, List.drop_left]
  obtain ⟨_, _, q4⟩ := drop_get q3
  obtain ⟨K1, e1⟩ := values_f hl l2 _ _ (mostL a0) q2 hv hm (by omega)
  obtain ⟨K2, e2⟩ := frames_l0 hl a0 a1 l2 l3 _ [] r q4 hf (by simp; omega)
  refine ⟨max K1 K2, fun k hk => ?_⟩
  show words_reader_cell.f k l (a : Int) false = _
  have e1 := e1 k (by omega)
  have e2 := e2 k (by omega)
  unfold words_reader_cell.f
  have p0 := num_f hl false q0 h0
  have p1 := num_f hl false q1 h1
  have p3 := many_f hl false 30 q3 (by omega) (by omega)
  rw [p0]
  simp only [Option.bind_some]
  rw [p1]
  simp only [Option.bind_some]
  rw [most_f]
  simp only [Option.bind_some]
  simp only at e1 e2
  rw [e1]
  simp only [Option.bind_some]
  rw [p3]
  simp only [Option.bind_some]
  rw [e2]
  simp only [List.nil_append]
  have e : a + 1 + 1 + (encVs l2).length + 1 + (l3.flatMap encF).length = a + (encC a0 a1 l2 l3).length := by
    simp only [encC, List.length_cons, List.length_append]
    omega
  rw [e]
theorem cell_f (a0 a1 : Int) (l2 : List SV) (l3 : List SF) (r : List Int) (h : l = encC a0 a1 l2 l3 ++ r) (h0 : R64 a0) (h1 : R64 a1) (hv : ∀ v ∈ l2, Fine v) (hf : ∀ f ∈ l3, FineF f) (hL : largeL a0 l2 l3 = false) :
    Ev (fun k => words_reader_cell.f k l 0 false) (a0, a1, l2, l3, ((encC a0 a1 l2 l3).length : Int), false) := by
  have := cell_at hl 0 a0 a1 l2 l3 r (by rw [List.drop_zero]; exact h) h0 h1 hv hf hL
  rwa [Nat.zero_add] at this
end
end Go.Proofs.Ytkefekdphkclmaa.Wrt
