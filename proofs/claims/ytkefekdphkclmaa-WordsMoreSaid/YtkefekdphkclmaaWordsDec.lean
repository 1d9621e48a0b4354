/- What a reader reads of the words of a cell. -/
import Derived.Test.YtkefekdphkclmaaWordsEnc
import Derived.Test.YtkefekdphkclmaaNbUn
import Derived.Test.YtkefekdphkclmaaPC7
set_option linter.unusedVariables false
set_option linter.unusedSimpArgs false
namespace Go.Proofs.Ytkefekdphkclmaa.Wrt
open Go.RowKit Go.Proofs.YtkefekdphkclmaaW.PrintWords Go.Proofs.YtkefekdphkclmaaW.PrintMore Go.Proofs.Ytkefekdphkclmaa.PC Go.Proofs.Ytkefekdphkclmaa.Nb

/-- From some number of rounds on that is the answer. -/
def Ev {α : Type} (f : Nat → Option α) (r : α) : Prop := ∃ K, ∀ k, K ≤ k → f k = some r
theorem Ev.now {α : Type} {f : Nat → Option α} {r : α} (h : ∀ k, f (k + 1) = some r) : Ev f r :=
  ⟨1, fun k hk => by obtain ⟨m, rfl⟩ : ∃ m, k = m + 1 := ⟨k - 1, by omega⟩; exact h m⟩
theorem Ev.step {α : Type} {f g : Nat → Option α} {r : α} (h : Ev g r) (e : ∀ k, f (k + 1) = g k) : Ev f r := by
  obtain ⟨K, hK⟩ := h
  exact ⟨K + 1, fun k hk => by obtain ⟨m, rfl⟩ : ∃ m, k = m + 1 := ⟨k - 1, by omega⟩; rw [e]; exact hK m (by omega)⟩
theorem Ev.late {α : Type} {f g : Nat → Option α} {r : α} (K0 : Nat) (h : Ev g r) (e : ∀ k, K0 ≤ k → f (k + 1) = g k) : Ev f r := by
  obtain ⟨K, hK⟩ := h
  exact ⟨max K K0 + 1, fun k hk => by obtain ⟨m, rfl⟩ : ∃ m, k = m + 1 := ⟨k - 1, by omega⟩; rw [e m (by omega)]; exact hK m (by omega)⟩
theorem Ev.here {α β : Type} {f g : Nat → Option α} {b : Nat → Option β} {r : α} {s : β} (hb : Ev b s) (h : Ev g r) (e : ∀ k, b k = some s → f k = g k) : Ev f r := by
  obtain ⟨K, hK⟩ := h
  obtain ⟨L, hL⟩ := hb
  exact ⟨max K L, fun k hk => by rw [e k (hL k (by omega))]; exact hK k (by omega)⟩
theorem Ev.step2 {α β : Type} {f g : Nat → Option α} {b : Nat → Option β} {r : α} {s : β} (hb : Ev b s) (h : Ev g r) (e : ∀ k, b k = some s → f (k + 1) = g k) : Ev f r := by
  obtain ⟨K, hK⟩ := h
  obtain ⟨L, hL⟩ := hb
  exact ⟨max K L + 1, fun k hk => by obtain ⟨m, rfl⟩ : ∃ m, k = m + 1 := ⟨k - 1, by omega⟩; rw [e m (hL m (by omega))]; exact hK m (by omega)⟩

theorem drop_get {l : List Int} {a : Nat} {x : Int} {r : List Int} (h : l.drop a = x :: r) : a < l.length ∧ rd l (a : Int) = x ∧ l.drop (a + 1) = r := by
  have hlt : a < l.length := by
    rcases Nat.lt_or_ge a l.length with h1 | h1
    · exact h1
    · rw [List.drop_eq_nil_of_le h1] at h; simp at h
  rw [List.drop_eq_getElem_cons hlt] at h
  simp only [List.cons.injEq] at h
  exact ⟨hlt, by rw [rdn l a hlt]; exact h.1, h.2⟩
section
variable {l : List Int} (hl : l.length ≤ 4611686018427387904)
include hl
theorem word_f {a : Nat} {x : Int} {r : List Int} (b : Bool) (h : l.drop a = x :: r) : words_reader_word.f l (a : Int) b = some (x, ((a + 1 : Nat) : Int), b) := by
  obtain ⟨h1, h2, _⟩ := drop_get h
  have e1 : wrap64 ((a : Int) + 1) = ((a + 1 : Nat) : Int) := by unfold wrap64; omega
  have e2 : wrap64 (((a + 1 : Nat) : Int) - 1) = (a : Int) := by unfold wrap64; omega
  unfold words_reader_word.f
  rw [e1, e2, if_neg (by omega), if_pos (by omega), if_pos (by omega), h2]
theorem number_f {a : Nat} {x : Int} {r : List Int} (b : Bool) (h : l.drop a = x :: r) : words_reader_number.f l (a : Int) b = some (wrap64 x, ((a + 1 : Nat) : Int), b) := by
  unfold words_reader_number.f
  rw [word_f hl b h]
  rfl
omit hl in
theorem wrap_back {n : Int} (h : -9223372036854775808 ≤ n ∧ n ≤ 9223372036854775807) : wrap64 (u64 n) = n := by
  unfold u64
  rw [wrap_u64]
  unfold wrap64
  omega
theorem num_f {a : Nat} {n : Int} {r : List Int} (b : Bool) (h : l.drop a = u64 n :: r) (hn : -9223372036854775808 ≤ n ∧ n ≤ 9223372036854775807) : words_reader_number.f l (a : Int) b = some (n, ((a + 1 : Nat) : Int), b) := by
  rw [number_f hl b h, wrap_back hn]
theorem many_f {a n : Nat} {r : List Int} (b : Bool) (most : Int) (h : l.drop a = u64 (n : Int) :: r) (hn : (n : Int) ≤ most) (hm : n ≤ 1000000) : words_reader_many.f l (a : Int) b most = some ((n : Int), ((a + 1 : Nat) : Int), b) := by
  unfold words_reader_many.f
  rw [num_f hl b h (by omega)]
  simp only [Option.bind_some]
  rw [if_neg (by omega), if_neg (by omega)]
/-- A value that is told and read back. -/
def Fine (v : SV) : Prop := okV v ∧ (-9223372036854775808 ≤ v.f1 ∧ v.f1 ≤ 9223372036854775807) ∧ ub (encV v) = (v.f0, v.f1, 0)
theorem value_f {a : Nat} {v : SV} {r : List Int} (h : l.drop a = encV v :: r) (hv : Fine v) (k : Nat) (hk : 4 ≤ k) : words_reader_value.f k l (a : Int) false = some (v.f0, v.f1, ((a + 1 : Nat) : Int), false) := by
  obtain ⟨h1, h2, h3⟩ := hv
  obtain ⟨q1, q2⟩ := bx_range h1
  unfold words_reader_value.f
  rw [word_f hl false h]
  simp only [Option.bind_some]
  unfold encV at h3 ⊢
  rw [unbox_f k _ q1 q2 hk, h3]
  rfl
omit hl in
theorem fine_plain {v : SV} (h1 : okV v) (h2 : -9223372036854775808 ≤ v.f1 ∧ v.f1 ≤ 9223372036854775807) (h3 : ¬ (v.f0 = 3 ∧ odd (v.f1 % 18446744073709551616) = true)) : Fine v := by
  refine ⟨h1, h2, ?_⟩
  rcases ub_bx h1 h2 with e | ⟨e1, e2, _⟩
  · exact e
  · exact absurd ⟨e1, e2⟩ h3
theorem values_l0 : ∀ (vs : List SV) (a : Nat) (out : List SV) (r : List Int), l.drop a = vs.map encV ++ r → (∀ v ∈ vs, Fine v) → out.length + vs.length ≤ 1000000 →
    Ev (fun k => words_reader_values.l0 k out (vs.length : Int) l (a : Int) false) (out ++ vs, ((a + vs.length : Nat) : Int), false) := by
  intro vs
  induction vs with
  | nil =>
    intro a out r h _ _
    refine Ev.now fun k => ?_
    simp only [words_reader_values.l0]
    rw [if_neg (by simp)]
    simp
  | cons v vs ih =>
    intro a out r h hv ho
    have h' : l.drop a = encV v :: (vs.map encV ++ r) := by simpa using h
    obtain ⟨_, _, h2⟩ := drop_get h'
    have := ih (a + 1) (out ++ [v]) r h2 (fun x hx => hv x (List.mem_cons_of_mem _ hx)) (by simp at ho ⊢; omega)
    rw [List.append_assoc, List.singleton_append, show a + 1 + vs.length = a + (v :: vs).length from by simp; omega] at this
    refine Ev.late 4 this fun k hk => ?_
    simp only [words_reader_values.l0]
    rw [if_pos (by simp only [List.length_cons]; omega), if_neg (by decide), value_f hl h' (hv v List.mem_cons_self) k hk]
    simp only [Option.bind_some]
    simp only [List.length_cons] at ho
    rw [if_pos (by omega), show wrap64 (((v :: vs).length : Int) - 1) = (vs.length : Int) from by simp only [List.length_cons]; unfold wrap64; omega]
theorem values_f (vs : List SV) (a : Nat) (r : List Int) (most : Int) (h : l.drop a = encVs vs ++ r) (hv : ∀ v ∈ vs, Fine v) (hm : (vs.length : Int) ≤ most) (hm2 : vs.length ≤ 1000000) :
    Ev (fun k => words_reader_values.f k l (a : Int) false most) (vs, ((a + (encVs vs).length : Nat) : Int), false) := by
  have h' : l.drop a = u64 (vs.length : Int) :: (vs.map encV ++ r) := by simpa [encVs] using h
  obtain ⟨_, _, h2⟩ := drop_get h'
  obtain ⟨K, hK⟩ := values_l0 hl vs (a + 1) [] r h2 hv (by simpa using hm2)
  refine ⟨K, fun k hk => ?_⟩
  show words_reader_values.f k l (a : Int) false most = _
  unfold words_reader_values.f
  rw [many_f hl false most h' hm hm2]
  simp only [Option.bind_some]
  have := hK k hk
  simp only [List.nil_append] at this
  rw [this]
  simp [encVs]
  omega
/-- Numbers that fit. -/
def R64 (n : Int) : Prop := -9223372036854775808 ≤ n ∧ n ≤ 9223372036854775807
theorem tries_l0 (b0 b1 b2 b3 b4 b5 : Int) (b6 : List SV) : ∀ (ts : List ST) (a : Nat) (out : List ST) (r : List Int), l.drop a = ts.flatMap encT ++ r → (∀ t ∈ ts, R64 t.f0 ∧ R64 t.f1) → out.length + ts.length ≤ 1000000 →
    Ev (fun k => words_reader_frame.l0 k (ts.length : Int) l (a : Int) false b0 b1 b2 b3 b4 b5 b6 out) (b0, b1, b2, b3, b4, b5, b6, out ++ ts, ((a + 2 * ts.length : Nat) : Int), false) := by
  intro ts
  induction ts with
  | nil =>
    intro a out r h _ _
    refine ⟨2, fun k hk => ?_⟩
    obtain ⟨k, rfl⟩ : ∃ m, k = m + 2 := ⟨k - 2, by omega⟩
    show words_reader_frame.l0 (k + 1 + 1) _ _ _ _ _ _ _ _ _ _ _ _ = _
    simp only [words_reader_frame.l0, words_reader_frame.j1]
    rw [if_neg (by simp), if_neg (by decide)]
    simp
  | cons t ts ih =>
    intro a out r h hv ho
    have h' : l.drop a = u64 t.f0 :: u64 t.f1 :: (ts.flatMap encT ++ r) := by simpa [encT] using h
    obtain ⟨_, _, h2⟩ := drop_get h'
    obtain ⟨_, _, h3⟩ := drop_get h2
    obtain ⟨v1, v2⟩ := hv t List.mem_cons_self
    have := ih (a + 1 + 1) (out ++ [t]) r h3 (fun x hx => hv x (List.mem_cons_of_mem _ hx)) (by simp at ho ⊢; omega)
    rw [List.append_assoc, List.singleton_append, show a + 1 + 1 + 2 * ts.length = a + 2 * (t :: ts).length from by simp; omega] at this
    refine Ev.step (Ev.step this (f := fun k => words_reader_frame.j1 k ((t :: ts).length : Int) true l (a : Int) false b0 b1 b2 b3 b4 b5 b6 out) fun k => ?_) fun k => ?_
    · simp only [words_reader_frame.j1]
      rw [if_pos True.intro, num_f hl false h' v1]
      simp only [Option.bind_some]
      rw [num_f hl false h2 v2]
      simp only [Option.bind_some]
      simp only [List.length_cons] at ho
      rw [if_pos (by omega), show wrap64 (((t :: ts).length : Int) - 1) = (ts.length : Int) from by simp only [List.length_cons]; unfold wrap64; omega]
    · simp only [words_reader_frame.l0]
      rw [if_pos (by simp only [List.length_cons]; omega)]
      rfl
/-- A frame that is told and read back. -/
def FineF (f : SF) : Prop := R64 f.f0 ∧ R64 f.f1 ∧ R64 f.f2 ∧ R64 f.f3 ∧ Fine f.f4 ∧ (∀ v ∈ f.f5, Fine v) ∧ (∀ t ∈ f.f6, R64 t.f0 ∧ R64 t.f1) ∧ f.f5.length ≤ 60 ∧ f.f6.length ≤ 20
omit hl in
theorem encT_length : ∀ ts : List ST, (ts.flatMap encT).length = 2 * ts.length
  | [] => rfl
  | t :: ts => by rw [List.flatMap_cons, List.length_append, encT_length ts, List.length_cons]; simp [encT]; omega
theorem frame_f (f : SF) (a : Nat) (r : List Int) (h : l.drop a = encF f ++ r) (hf : FineF f) :
    Ev (fun k => words_reader_frame.f k l (a : Int) false) (f.f0, f.f1, f.f2, f.f3, f.f4.f0, f.f4.f1, f.f5, f.f6, ((a + (encF f).length : Nat) : Int), false) := by
  obtain ⟨r0, r1, r2, r3, v4, v5, t6, n5, n6⟩ := hf
  have h0 : l.drop a = u64 f.f0 :: u64 f.f1 :: u64 f.f2 :: u64 f.f3 :: encV f.f4 :: (encVs f.f5 ++ (u64 (f.f6.length : Int) :: (f.f6.flatMap encT ++ r))) := by simpa [encF] using h
  obtain ⟨_, _, h1⟩ := drop_get h0
  obtain ⟨_, _, h2⟩ := drop_get h1
  obtain ⟨_, _, h3⟩ := drop_get h2
  obtain ⟨_, _, h4⟩ := drop_get h3
  obtain ⟨_, _, h5⟩ := drop_get h4
  have h6 : l.drop (a + 1 + 1 + 1 + 1 + 1 + (encVs f.f5).length) = u64 (f.f6.length : Int) :: (f.f6.flatMap encT ++ r) := by
    rw [← List.drop_drop, h5, List.drop_left]
  obtain ⟨_, _, h7⟩ := drop_get h6
  obtain ⟨K1, q1⟩ := values_f hl f.f5 _ _ 60 h5 v5 (by omega) (by omega)
  obtain ⟨K2, q2⟩ := tries_l0 hl f.f0 f.f1 f.f2 f.f3 f.f4.f0 f.f4.f1 f.f5 f.f6 _ [] r h7 t6 (by simp; omega)
  refine ⟨max K1 K2 + 4, fun k hk => ?_⟩
  show words_reader_frame.f k l (a : Int) false = _
  have q1 := q1 k (by omega)
  have q2 := q2 k (by omega)
  unfold words_reader_frame.f
  rw [num_f hl false h0 r0]
  simp only [Option.bind_some]
  rw [num_f hl false h1 r1]
  simp only [Option.bind_some]
  rw [num_f hl false h2 r2]
  simp only [Option.bind_some]
  rw [num_f hl false h3 r3]
  simp only [Option.bind_some]
  rw [value_f hl h4 v4 k (by omega)]
  simp only [Option.bind_some]
  simp only at q1 q2
  rw [q1]
  simp only [Option.bind_some]
  rw [many_f hl false 20 h6 (by omega) (by omega)]
  simp only [Option.bind_some]
  rw [q2]
  simp only [List.nil_append]
  have e : a + 1 + 1 + 1 + 1 + 1 + (encVs f.f5).length + 1 + 2 * f.f6.length = a + (encF f).length := by
    simp only [encF, List.length_cons, List.length_append, encT_length]
    omega
  rw [e]
end
end Go.Proofs.Ytkefekdphkclmaa.Wrt
