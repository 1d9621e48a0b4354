/- What a reader reads of any words. -/
import Derived.Test.YtkefekdphkclmaaWordsCel
set_option linter.unusedVariables false
set_option linter.unusedSimpArgs false
namespace Go.Proofs.Ytkefekdphkclmaa.Wrt
open Go.RowKit Go.Proofs.YtkefekdphkclmaaW.PrintWords Go.Proofs.YtkefekdphkclmaaW.PrintMore Go.Proofs.Ytkefekdphkclmaa.PC Go.Proofs.Ytkefekdphkclmaa.Nb

def U64 (x : Int) : Prop := 0 ≤ x ∧ x < 18446744073709551616
theorem back_wrap {x : Int} (h : U64 x) : u64 (wrap64 x) = x := by
  obtain ⟨h0, h1⟩ := h
  unfold u64
  rw [wrap_u64]
  unfold wrap64
  omega
theorem wrap_R64 (x : Int) : R64 (wrap64 x) := by unfold R64 wrap64; omega
section
variable {l : List Int} (hl : l.length ≤ 4611686018427387904) (hu : ∀ x ∈ l, U64 x)
include hl hu
theorem word_any (a : Nat) (ha : a ≤ l.length) (b : Bool) : ∃ (x : Int) (a' : Nat) (b' : Bool), words_reader_word.f l (a : Int) b = some (x, (a' : Int), b') ∧ a ≤ a' ∧ a' ≤ l.length ∧ U64 x ∧ (b' = false → b = false ∧ l.drop a = x :: l.drop a') := by
  by_cases hlt : a < l.length
  · have h : l.drop a = l[a] :: l.drop (a + 1) := List.drop_eq_getElem_cons hlt
    exact ⟨l[a], a + 1, b, word_f hl b h, by omega, by omega, hu _ (List.getElem_mem hlt), fun hb => ⟨hb, h⟩⟩
  · refine ⟨0, a, true, ?_, Nat.le_refl _, ha, ⟨by decide, by decide⟩, fun h => by simp at h⟩
    unfold words_reader_word.f
    rw [if_pos (by omega)]
theorem number_any (a : Nat) (ha : a ≤ l.length) (b : Bool) : ∃ (n : Int) (a' : Nat) (b' : Bool), words_reader_number.f l (a : Int) b = some (n, (a' : Int), b') ∧ a ≤ a' ∧ a' ≤ l.length ∧ R64 n ∧ (b' = false → b = false ∧ l.drop a = u64 n :: l.drop a') := by
  obtain ⟨x, a', b', h1, h2, h3, h4, h5⟩ := word_any hl hu a ha b
  refine ⟨wrap64 x, a', b', ?_, h2, h3, wrap_R64 x, fun h => ?_⟩
  · unfold words_reader_number.f
    rw [h1]
    rfl
  · rw [back_wrap h4]; exact h5 h
theorem many_any (a : Nat) (ha : a ≤ l.length) (b : Bool) (most : Int) (hm : 0 ≤ most) : ∃ (n a' : Nat) (b' : Bool), words_reader_many.f l (a : Int) b most = some ((n : Int), (a' : Int), b') ∧ a ≤ a' ∧ a' ≤ l.length ∧ (n : Int) ≤ most ∧ (b' = false → b = false ∧ l.drop a = u64 (n : Int) :: l.drop a') := by
  obtain ⟨n, a', b', h1, h2, h3, h4, h5⟩ := number_any hl hu a ha b
  unfold words_reader_many.f
  rw [h1]
  simp only [Option.bind_some]
  by_cases c1 : n < 0
  · rw [if_pos c1]; exact ⟨0, a', true, rfl, h2, h3, hm, fun h => by simp at h⟩
  · rw [if_neg c1]
    by_cases c2 : n > most
    · rw [if_pos c2]; exact ⟨0, a', true, rfl, h2, h3, hm, fun h => by simp at h⟩
    · rw [if_neg c2]
      have e : ((n.toNat : Nat) : Int) = n := by omega
      exact ⟨n.toNat, a', b', by rw [e], h2, h3, by omega, fun h => by rw [e]; exact h5 h⟩
theorem value_any (a : Nat) (ha : a ≤ l.length) (b : Bool) : ∃ (v : SV) (a' : Nat) (b' : Bool), (∀ k, 4 ≤ k → words_reader_value.f k l (a : Int) b = some (v.f0, v.f1, (a' : Int), b')) ∧ a ≤ a' ∧ a' ≤ l.length ∧ (b' = false → b = false ∧ okV v ∧ l.drop a = encV v :: l.drop a') := by
  obtain ⟨x, a', b', h1, h2, h3, h4, h5⟩ := word_any hl hu a ha b
  cases hb : b' with
  | true =>
    refine ⟨⟨(ub x).1, (ub x).2.1⟩, a', true, fun k hk => ?_, h2, h3, fun h => by simp at h⟩
    unfold words_reader_value.f
    rw [h1]
    simp only [Option.bind_some]
    rw [unbox_f k x h4.1 h4.2 hk]
    simp only [Option.bind_some]
    rw [hb, if_pos rfl]
  | false =>
    refine ⟨⟨(ub x).1, (ub x).2.1⟩, a', (ub x).2.2 != 0, fun k hk => ?_, h2, h3, fun h => ?_⟩
    · unfold words_reader_value.f
      rw [h1]
      simp only [Option.bind_some]
      rw [unbox_f k x h4.1 h4.2 hk]
      simp only [Option.bind_some]
      rw [hb, if_neg (by decide)]
    · have h0 : (ub x).2.2 = 0 := by simpa using h
      have e := bx_ub x h4.1 h4.2 h0
      obtain ⟨p1, p2⟩ := h5 hb
      refine ⟨p1, ?_, ?_⟩
      · show (bx (ub x).1 (ub x).2.1).2 = 0
        rw [e]
      · show l.drop a = (bx (ub x).1 (ub x).2.1).1 :: l.drop a'
        rw [e]; exact p2
theorem values_any_l0 : ∀ (n a : Nat) (out : List SV) (b : Bool), a ≤ l.length → out.length + n ≤ 1000000 →
    ∃ (vs : List SV) (a' : Nat) (b' : Bool), Ev (fun k => words_reader_values.l0 k out (n : Int) l (a : Int) b) (out ++ vs, (a' : Int), b') ∧ a ≤ a' ∧ a' ≤ l.length ∧ vs.length ≤ n ∧ (b' = false → b = false ∧ vs.length = n ∧ (∀ v ∈ vs, okV v) ∧ l.drop a = vs.map encV ++ l.drop a') := by
  intro n
  induction n with
  | zero =>
    intro a out b ha ho
    refine ⟨[], a, b, Ev.now fun k => ?_, Nat.le_refl _, ha, Nat.le_refl _, fun h => ⟨h, rfl, fun v hv => by simp at hv, by simp⟩⟩
    simp only [words_reader_values.l0]
    rw [if_neg (by simp)]
    simp
  | succ n ih =>
    intro a out b ha ho
    cases b with
    | true =>
      refine ⟨[], a, true, Ev.now fun k => ?_, Nat.le_refl _, ha, by simp, fun h => by simp at h⟩
      simp only [words_reader_values.l0]
      rw [if_pos (by omega)]
      simp
    | false =>
      obtain ⟨v, a1, b1, h1, h2, h3, h4⟩ := value_any hl hu a ha false
      obtain ⟨vs, a', b', q1, q2, q3, q4, q5⟩ := ih a1 (out ++ [v]) b1 h3 (by simp; omega)
      rw [List.append_assoc, List.singleton_append] at q1
      refine ⟨v :: vs, a', b', Ev.late 4 q1 fun k hk => ?_, by omega, q3, by simp; omega, fun h => ?_⟩
      · simp only [words_reader_values.l0]
        rw [if_pos (by omega), if_neg (by decide), h1 k hk]
        simp only [Option.bind_some]
        rw [if_pos (by omega), show wrap64 (((n + 1 : Nat) : Int) - 1) = (n : Int) from by unfold wrap64; omega]
      · obtain ⟨e1, e2, e3, e4⟩ := q5 h
        obtain ⟨f1, f2, f3⟩ := h4 e1
        refine ⟨rfl, by simp [e2], fun x hx => ?_, by rw [f3, e4]; simp⟩
        rcases List.mem_cons.1 hx with rfl | hx
        · exact f2
        · exact e3 x hx
theorem values_any (a : Nat) (ha : a ≤ l.length) (b : Bool) (most : Int) (hm : 0 ≤ most) (hm2 : most ≤ 1000000) :
    ∃ (vs : List SV) (a' : Nat) (b' : Bool), Ev (fun k => words_reader_values.f k l (a : Int) b most) (vs, (a' : Int), b') ∧ a ≤ a' ∧ a' ≤ l.length ∧ (vs.length : Int) ≤ most ∧ (b' = false → b = false ∧ (∀ v ∈ vs, okV v) ∧ l.drop a = encVs vs ++ l.drop a') := by
  obtain ⟨n, a1, b1, h1, h2, h3, h4, h5⟩ := many_any hl hu a ha b most hm
  obtain ⟨vs, a', b', ⟨K, q1⟩, q2, q3, q4, q5⟩ := values_any_l0 hl hu n a1 [] b1 h3 (by simp; omega)
  refine ⟨vs, a', b', ⟨K, fun k hk => ?_⟩, by omega, q3, by omega, fun h => ?_⟩
  · show words_reader_values.f k l (a : Int) b most = _
    unfold words_reader_values.f
    rw [h1]
    simp only [Option.bind_some]
    have := q1 k hk
    simp only [List.nil_append] at this
    exact this
  · obtain ⟨e1, e2, e3, e4⟩ := q5 h
    obtain ⟨f1, f2⟩ := h5 e1
    refine ⟨f1, e3, ?_⟩
    rw [f2, e4, ← e2]
    simp [encVs]
theorem tries_any_l0 (b0 b1 b2 b3 b4 b5 : Int) (b6 : List SV) : ∀ (n a : Nat) (out : List ST) (b : Bool), a ≤ l.length → out.length + n ≤ 1000000 →
    ∃ (ts : List ST) (a' : Nat) (b' : Bool), Ev (fun k => words_reader_frame.l0 k (n : Int) l (a : Int) b b0 b1 b2 b3 b4 b5 b6 out) (b0, b1, b2, b3, b4, b5, b6, out ++ ts, (a' : Int), b') ∧ a ≤ a' ∧ a' ≤ l.length ∧ ts.length ≤ n ∧ (b' = false → b = false ∧ ts.length = n ∧ l.drop a = ts.flatMap encT ++ l.drop a') := by
  intro n
  induction n with
  | zero =>
    intro a out b ha ho
    refine ⟨[], a, b, ⟨2, fun k hk => ?_⟩, Nat.le_refl _, ha, Nat.le_refl _, fun h => ⟨h, rfl, by simp⟩⟩
    obtain ⟨k, rfl⟩ : ∃ m, k = m + 2 := ⟨k - 2, by omega⟩
    show words_reader_frame.l0 (k + 1 + 1) _ _ _ _ _ _ _ _ _ _ _ _ = _
    simp only [words_reader_frame.l0, words_reader_frame.j1]
    rw [if_neg (by simp), if_neg (by decide)]
    simp
  | succ n ih =>
    intro a out b ha ho
    cases b with
    | true =>
      refine ⟨[], a, true, ⟨2, fun k hk => ?_⟩, Nat.le_refl _, ha, by simp, fun h => by simp at h⟩
      obtain ⟨k, rfl⟩ : ∃ m, k = m + 2 := ⟨k - 2, by omega⟩
      show words_reader_frame.l0 (k + 1 + 1) _ _ _ _ _ _ _ _ _ _ _ _ = _
      simp only [words_reader_frame.l0, words_reader_frame.j1]
      rw [if_pos (by omega)]
      simp
    | false =>
      obtain ⟨x, a1, c1, h1, h2, h3, _, h4⟩ := number_any hl hu a ha false
      obtain ⟨y, a2, c2, g1, g2, g3, _, g4⟩ := number_any hl hu a1 h3 c1
      obtain ⟨ts, a', b', q1, q2, q3, q4, q5⟩ := ih a2 (out ++ [⟨x, y⟩]) c2 g3 (by simp; omega)
      rw [List.append_assoc, List.singleton_append] at q1
      refine ⟨⟨x, y⟩ :: ts, a', b', Ev.step (Ev.step q1 (f := fun k => words_reader_frame.j1 k ((n + 1 : Nat) : Int) true l (a : Int) false b0 b1 b2 b3 b4 b5 b6 out) fun k => ?_) fun k => ?_, by omega, q3, by simp; omega, fun h => ?_⟩
      · simp only [words_reader_frame.j1]
        rw [if_pos True.intro, h1]
        simp only [Option.bind_some]
        rw [g1]
        simp only [Option.bind_some]
        rw [if_pos (by omega), show wrap64 (((n + 1 : Nat) : Int) - 1) = (n : Int) from by unfold wrap64; omega]
      · simp only [words_reader_frame.l0]
        rw [if_pos (by omega)]
        rfl
      · obtain ⟨e1, e2, e3⟩ := q5 h
        obtain ⟨f1, f2⟩ := g4 e1
        obtain ⟨k1, k2⟩ := h4 f1
        exact ⟨rfl, by simp [e2], by rw [k2, f2, e3]; simp [encT]⟩
theorem frame_any (a : Nat) (ha : a ≤ l.length) (b : Bool) : ∃ (f : SF) (a' : Nat) (b' : Bool), Ev (fun k => words_reader_frame.f k l (a : Int) b) (f.f0, f.f1, f.f2, f.f3, f.f4.f0, f.f4.f1, f.f5, f.f6, (a' : Int), b') ∧ a ≤ a' ∧ a' ≤ l.length ∧ f.f5.length ≤ 60 ∧ f.f6.length ≤ 20 ∧ (b' = false → b = false ∧ okF f ∧ l.drop a = encF f ++ l.drop a') := by
  obtain ⟨n0, a0, c0, h0, i0, j0, _, k0⟩ := number_any hl hu a ha b
  obtain ⟨n1, a1, c1, h1, i1, j1, _, k1⟩ := number_any hl hu a0 j0 c0
  obtain ⟨n2, a2, c2, h2, i2, j2, _, k2⟩ := number_any hl hu a1 j1 c1
  obtain ⟨n3, a3, c3, h3, i3, j3, _, k3⟩ := number_any hl hu a2 j2 c2
  obtain ⟨v, a4, c4, h4, i4, j4, k4⟩ := value_any hl hu a3 j3 c3
  obtain ⟨vs, a5, c5, ⟨K5, h5⟩, i5, j5, m5, k5⟩ := values_any hl hu a4 j4 c4 60 (by omega) (by omega)
  obtain ⟨n, a6, c6, h6, i6, j6, m6, k6⟩ := many_any hl hu a5 j5 c5 20 (by omega)
  obtain ⟨ts, a7, c7, ⟨K7, h7⟩, i7, j7, m7, k7⟩ := tries_any_l0 hl hu n0 n1 n2 n3 v.f0 v.f1 vs n a6 [] c6 j6 (by simp; omega)
  refine ⟨⟨n0, n1, n2, n3, v, vs, ts⟩, a7, c7, ⟨K5 + K7 + 4, fun k hk => ?_⟩, by omega, j7, by show vs.length ≤ 60; omega, by show ts.length ≤ 20; omega, fun h => ?_⟩
  · show words_reader_frame.f k l (a : Int) b = _
    unfold words_reader_frame.f
    have h5 := h5 k (by omega)
    have h7 := h7 k (by omega)
    simp only [List.nil_append] at h5 h7
    rw [h0]; simp only [Option.bind_some]
    rw [h1]; simp only [Option.bind_some]
    rw [h2]; simp only [Option.bind_some]
    rw [h3]; simp only [Option.bind_some]
    rw [h4 k (by omega)]; simp only [Option.bind_some]
    rw [h5]; simp only [Option.bind_some]
    rw [h6]; simp only [Option.bind_some]
    exact h7
  · obtain ⟨p7, q7, r7⟩ := k7 h
    obtain ⟨p6, r6⟩ := k6 p7
    obtain ⟨p5, q5, r5⟩ := k5 p6
    obtain ⟨p4, q4, r4⟩ := k4 p5
    obtain ⟨p3, r3⟩ := k3 p4
    obtain ⟨p2, r2⟩ := k2 p3
    obtain ⟨p1, r1⟩ := k1 p2
    obtain ⟨p0, r0⟩ := k0 p1
    refine ⟨p0, ⟨q4, q5⟩, ?_⟩
    rw [r0, r1, r2, r3, r4, r5, r6, r7, ← q7]
    simp [encF]
theorem frames_any_l0 (b0 b1 : Int) (b2 : List SV) : ∀ (n a : Nat) (out : List SF) (b : Bool), a ≤ l.length → out.length + n ≤ 1000000 →
    ∃ (fs : List SF) (a' : Nat) (b' : Bool), Ev (fun k => words_reader_cell.l0 k (n : Int) l (a : Int) b b0 b1 b2 out) (b0, b1, b2, out ++ fs, (a' : Int), b') ∧ a ≤ a' ∧ a' ≤ l.length ∧ fs.length ≤ n ∧ (∀ f ∈ fs, f.f5.length ≤ 60 ∧ f.f6.length ≤ 20) ∧ (b' = false → b = false ∧ fs.length = n ∧ (∀ f ∈ fs, okF f) ∧ l.drop a = fs.flatMap encF ++ l.drop a') := by
  intro n
  induction n with
  | zero =>
    intro a out b ha ho
    refine ⟨[], a, b, Ev.now fun k => ?_, Nat.le_refl _, ha, Nat.le_refl _, fun f hf => by simp at hf, fun h => ⟨h, rfl, fun f hf => by simp at hf, by simp⟩⟩
    simp only [words_reader_cell.l0]
    rw [if_neg (by simp)]
    simp
  | succ n ih =>
    intro a out b ha ho
    cases b with
    | true =>
      refine ⟨[], a, true, Ev.now fun k => ?_, Nat.le_refl _, ha, by simp, fun f hf => by simp at hf, fun h => by simp at h⟩
      simp only [words_reader_cell.l0]
      rw [if_pos (by omega)]
      simp
    | false =>
      obtain ⟨f, a1, c1, h1, h2, h3, h4, h5, h6⟩ := frame_any hl hu a ha false
      obtain ⟨fs, a', b', q1, q2, q3, q4, q5, q6⟩ := ih a1 (out ++ [f]) c1 h3 (by simp; omega)
      rw [List.append_assoc, List.singleton_append] at q1
      refine ⟨f :: fs, a', b', Ev.step2 h1 q1 fun k hk => ?_, by omega, q3, by simp; omega, fun x hx => ?_, fun h => ?_⟩
      · simp only [words_reader_cell.l0]
        (try simp only at hk)
        rw [if_pos (by omega), if_neg (by decide), hk]
        simp only [Option.bind_some]
        rw [if_pos (by omega), show wrap64 (((n + 1 : Nat) : Int) - 1) = (n : Int) from by unfold wrap64; omega]
      · rcases List.mem_cons.1 hx with rfl | hx
        · exact ⟨h4, h5⟩
        · exact q5 x hx
      · obtain ⟨e1, e2, e3, e4⟩ := q6 h
        obtain ⟨f1, f2, f3⟩ := h6 e1
        refine ⟨rfl, by simp [e2], fun x hx => ?_, by rw [f3, e4]; simp⟩
        rcases List.mem_cons.1 hx with rfl | hx
        · exact f2
        · exact e3 x hx
theorem cell_any_at (a : Nat) (ha : a ≤ l.length) (b : Bool) : ∃ (x y : Int) (vs : List SV) (fs : List SF) (a' : Nat) (b' : Bool), Ev (fun k => words_reader_cell.f k l (a : Int) b) (x, y, vs, fs, (a' : Int), b') ∧ a ≤ a' ∧ a' ≤ l.length ∧ largeL x vs fs = false ∧ (b' = false → b = false ∧ (∀ v ∈ vs, okV v) ∧ (∀ f ∈ fs, okF f) ∧ l.drop a = encC x y vs fs ++ l.drop a') := by
  obtain ⟨x, a0, c0, h0, i0, j0, _, k0⟩ := number_any hl hu a ha b
  obtain ⟨y, a1, c1, h1, i1, j1, _, k1⟩ := number_any hl hu a0 j0 c0
  have hm : 0 ≤ mostL x ∧ mostL x ≤ 1000000 := by unfold mostL; split <;> omega
  obtain ⟨vs, a2, c2, ⟨K2, h2⟩, i2, j2, m2, k2⟩ := values_any hl hu a1 j1 c1 (mostL x) hm.1 hm.2
  obtain ⟨n, a3, c3, h3, i3, j3, m3, k3⟩ := many_any hl hu a2 j2 c2 30 (by omega)
  obtain ⟨fs, a4, c4, ⟨K4, h4⟩, i4, j4, m4, n4, k4⟩ := frames_any_l0 hl hu x y vs n a3 [] c3 j3 (by simp; omega)
  refine ⟨x, y, vs, fs, a4, c4, ⟨K2 + K4, fun k hk => ?_⟩, by omega, j4, ?_, fun h => ?_⟩
  · show words_reader_cell.f k l (a : Int) b = _
    unfold words_reader_cell.f
    have h2 := h2 k (by omega)
    have h4 := h4 k (by omega)
    simp only [List.nil_append] at h2 h4
    rw [h0]; simp only [Option.bind_some]
    rw [h1]; simp only [Option.bind_some]
    rw [most_f]; simp only [Option.bind_some]
    rw [h2]; simp only [Option.bind_some]
    rw [h3]; simp only [Option.bind_some]
    exact h4
  · unfold largeL
    simp only [Bool.or_eq_false_iff, decide_eq_false_iff_not]
    refine ⟨List.any_eq_false.2 fun f hf => ?_, by omega, by omega⟩
    have := n4 f hf
    simp [bigF]; omega
  · obtain ⟨p4, q4, r4, s4⟩ := k4 h
    obtain ⟨p3, r3⟩ := k3 p4
    obtain ⟨p2, q2, r2⟩ := k2 p3
    obtain ⟨p1, r1⟩ := k1 p2
    obtain ⟨p0, r0⟩ := k0 p1
    refine ⟨p0, q2, r4, ?_⟩
    have e : l.drop a = encC x y vs fs ++ l.drop a4 := by
      rw [r0, r1, r2, r3, s4, ← q4]
      simp [encC]
    exact e
theorem cell_any : ∃ (x y : Int) (vs : List SV) (fs : List SF) (a' : Nat) (b' : Bool), Ev (fun k => words_reader_cell.f k l 0 false) (x, y, vs, fs, (a' : Int), b') ∧ a' ≤ l.length ∧ largeL x vs fs = false ∧ (b' = false → (∀ v ∈ vs, okV v) ∧ (∀ f ∈ fs, okF f) ∧ l = encC x y vs fs ++ l.drop a') := by
  obtain ⟨x, y, vs, fs, a', b', h1, _, h2, h3, h4⟩ := cell_any_at hl hu 0 (Nat.zero_le _) false
  exact ⟨x, y, vs, fs, a', b', h1, h2, h3, fun hb => (h4 hb).2⟩
end
end Go.Proofs.Ytkefekdphkclmaa.Wrt
