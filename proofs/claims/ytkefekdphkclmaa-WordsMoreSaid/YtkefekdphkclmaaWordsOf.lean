/- Package words' Of: what it answers. -/
import Derived.Test.YtkefekdphkclmaaWriterC
set_option linter.unusedVariables false
set_option linter.unusedSimpArgs false
namespace Go.Proofs.Ytkefekdphkclmaa.Wrt
open Go.RowKit Go.Proofs.YtkefekdphkclmaaW.PrintWords Go.Proofs.YtkefekdphkclmaaW.PrintLast Go.Proofs.YtkefekdphkclmaaW.PrintMore Go.Proofs.Ytkefekdphkclmaa.PC Go.Proofs.Ytkefekdphkclmaa.Nb

theorem wrap_up (i : Int) (h0 : -4611686018427387904 ≤ i) (h : i ≤ 4611686018427387904) : wrap64 (i + 1) = i + 1 := by unfold wrap64; omega
theorem raise {α : Type} {f : Nat → Option α} (h : ∀ k, LeO (f k) (f (k + 1))) {k m : Nat} (hkm : k ≤ m) {r : α} (hr : f k = some r) : f m = some r := by
  induction hkm with
  | refl => exact hr
  | step _ ih => exact h _ _ ih
def bigF (f : SF) : Bool := decide (f.f5.length > 60) || decide (f.f6.length > 20)
def mostL (a0 : Int) : Int := if a0 = 7 then 600 else 100
def largeL (a0 : Int) (l2 : List SV) (l3 : List SF) : Bool := l3.any bigF || (decide ((l2.length : Int) > mostL a0) || decide (l3.length > 30))
theorem rdTF (l : List SF) (i : Nat) (h : i < l.length) : rd_T30 l (i : Int) = l[i] := by
  unfold rd_T30
  simp [List.getD_eq_getElem?_getD, h]
theorem large_l0 (a0 a1 : Int) (l2 : List SV) (l : List SF) (hl : l.length ≤ 9223372036854775807) : ∀ (d i k : Nat), l.length - i = d → i ≤ l.length → d < k →
    words_large.l0 k l (l.length : Int) (i : Int) a0 a1 l2 l = some ((l.drop i).any bigF || (decide ((l2.length : Int) > mostL a0) || decide (l.length > 30))) := by
  intro d
  induction d with
  | zero =>
    intro i k hd hi hk
    obtain ⟨k, rfl⟩ : ∃ m, k = m + 1 := ⟨k - 1, by omega⟩
    simp only [words_large.l0]
    rw [if_neg (by omega), List.drop_eq_nil_of_le (by omega)]
    have e : words_most.f a0 = some (mostL a0) := by unfold words_most.f mostL; split <;> rfl
    rw [e]
    simp only [Option.bind_some, List.any_nil, Bool.false_or]
    by_cases h : (l2.length : Int) > mostL a0
    · rw [if_pos h, decide_eq_true h]; rfl
    · rw [if_neg h, decide_eq_false h, Bool.false_or]
      congr 1
      by_cases h3 : l.length > 30
      · rw [decide_eq_true h3]; simp; omega
      · rw [decide_eq_false h3]; simp; omega
  | succ d ih =>
    intro i k hd hi hk
    obtain ⟨k, rfl⟩ : ∃ m, k = m + 1 := ⟨k - 1, by omega⟩
    have hlt : i < l.length := by omega
    simp only [words_large.l0]
    rw [if_pos (by omega), if_pos (by omega), if_pos (by omega), rdTF l i hlt, List.drop_eq_getElem_cons hlt, List.any_cons]
    by_cases h1 : (l[i].f5.length : Int) > 60
    · rw [if_pos h1]
      have : bigF l[i] = true := by simp [bigF]; omega
      rw [this]; rfl
    · rw [if_neg h1]
      by_cases h2 : (l[i].f6.length : Int) > 20
      · rw [if_pos h2]
        have : bigF l[i] = true := by simp [bigF]; omega
        rw [this]; rfl
      · rw [if_neg h2, show wrap64 ((i : Int) + 1) = (i : Int) + 1 from by unfold wrap64; omega]
        have : bigF l[i] = false := by simp [bigF]; omega
        rw [this, Bool.false_or]
        have := ih (i + 1) k (by omega) (by omega) (by omega)
        rw [show ((i + 1 : Nat) : Int) = (i : Int) + 1 from by omega] at this
        exact this
theorem large_f (a0 a1 : Int) (l2 : List SV) (l : List SF) (hl : l.length ≤ 9223372036854775807) (k : Nat) (hk : l.length < k) : words_large.f k a0 a1 l2 l = some (largeL a0 l2 l) := by
  unfold words_large.f largeL
  exact large_l0 a0 a1 l2 l hl l.length 0 k rfl (by omega) hk
theorem large_is (a0 a1 : Int) (l2 : List SV) (l : List SF) (hl : l.length ≤ 9223372036854775807) (k : Nat) (b : Bool) (h : words_large.f k a0 a1 l2 l = some b) : b = largeL a0 l2 l :=
  Option.some.inj ((raise (fun k => words_large.mono _ _ _ _ k) (Nat.le_max_left k (l.length + 1)) h).symm.trans (large_f a0 a1 l2 l hl _ (by omega)))
theorem large_no {a0 : Int} {l2 : List SV} {l : List SF} (h : largeL a0 l2 l = false) : l2.length ≤ 600 ∧ l.length ≤ 30 ∧ ∀ f ∈ l, f.f5.length ≤ 60 ∧ f.f6.length ≤ 20 := by
  unfold largeL at h
  simp only [Bool.or_eq_false_iff, decide_eq_false_iff_not] at h
  obtain ⟨h1, h2, h3⟩ := h
  refine ⟨?_, by omega, fun f hf => ?_⟩
  · unfold mostL at h2
    split at h2 <;> omega
  · have h4 := List.any_eq_false.1 h1 f hf
    simp [bigF] at h4
    omega
/-- What Of answers. -/
def ofL (a0 a1 : Int) (l2 : List SV) (l3 : List SF) : List Int × Int :=
  if largeL a0 l2 l3 = true then ([], 2) else if (wc ([], 0) a0 a1 l2 l3).2 = 0 then ((wc ([], 0) a0 a1 l2 l3).1, 0) else ([], (wc ([], 0) a0 a1 l2 l3).2)
set_option maxHeartbeats 8000000 in
set_option maxRecDepth 100000 in
theorem of_calls (k : Nat) (a0 a1 : Int) (A2 : Option Addr) (c2 : Nat) (l2 : List SV) (A3 : Option Addr) (c3 : Nat) (l3 : List SF) (w : World)
    (hl2 : Kd.C k27 w A2 l2.length l2) (hc2 : l2.length ≤ c2) (hl3 : Kd.C k30 w A3 l3.length l3) (hc3 : l3.length ≤ c3) (b : Bool) (h : words_large.f k a0 a1 l2 l3 = some b) :
    Calls Try.prog 13 #[.agg #[.int .i64 a0, .int .i64 a1, .slice A2 l2.length c2, .slice A3 l3.length c3]] w fun r w' => ∃ v0 : Value, r = .returned (.tuple #[v0, .int .i64 (ofL a0 a1 l2 l3).2]) ∧ Kd.R (Kd.int .u64) 43 w' w.heap.size (fun _ => True) v0 (ofL a0 a1 l2 l3).1 ∧ Below w.heap.size w w' := by
  have HL2 := Aside0.mk hl2
  have HL3 := Aside0.mk hl3
  have HC := Aside0.mk (And.intro hc2 hc3)
  have HH := Aside0.mk h
  have HLB := Aside0.mk (large_is a0 a1 l2 l3 (by have := hl3.2.1; omega) k b h)
  clear hl2 hl3 hc2 hc3 h
  cases b with
  | true =>
    go_enter Try.func13, Try.ntmps13
    go_wp2_with fail
    refine (words_large.calls k a0 a1 A2 c2 l2 A3 c3 l3 true _ (Kd.C_alloc HL2.out _) HC.out.1 (Kd.C_alloc HL3.out _) HC.out.2 HH.out).mono ?_
    rintro e w1 ⟨rfl, hb⟩
    have HB1 := Aside0.mk (below_step (below_alloc (Below.refl w.heap.size w) _) hb)
    clear hb
    go_wp2
    go_ret2
    have e : ofL a0 a1 l2 l3 = ([], 2) := by unfold ofL; rw [← HLB.out, if_pos rfl]
    rw [e]
    exact ⟨_, rfl, Kd.R_nil _ _ _ _ _, HB1.out⟩
  | false =>
    have hno := large_no HLB.out.symm
    have HNO := Aside0.mk hno
    clear hno
    go_enter Try.func13, Try.ntmps13
    go_wp2_with fail
    refine (words_large.calls k a0 a1 A2 c2 l2 A3 c3 l3 false _ (Kd.C_alloc HL2.out _) HC.out.1 (Kd.C_alloc HL3.out _) HC.out.2 HH.out).mono ?_
    rintro e w1 ⟨rfl, hb⟩
    have HB1 := Aside0.mk (below_step (below_alloc (Below.refl w.heap.size w) _) hb)
    have hbx : w1.heap[w.heap.size]? = some (.cells #[.int .i64 a0, .int .i64 a1, .slice A2 l2.length c2, .slice A3 l3.length c3] 25 (0, 0)) := blk_below (heap_alloc_new w _) hb
    have hc0 : w1.cell? ⟨w.heap.size, 0, none⟩ = some (.int .i64 a0) := (blk_cell hbx 0).trans rfl
    have hc1 : w1.cell? ⟨w.heap.size, 1, none⟩ = some (.int .i64 a1) := (blk_cell hbx 1).trans rfl
    have hc2 : w1.cell? ⟨w.heap.size, 2, none⟩ = some (.slice A2 l2.length c2) := (blk_cell hbx 2).trans rfl
    have hc3 : w1.cell? ⟨w.heap.size, 3, none⟩ = some (.slice A3 l3.length c3) := (blk_cell hbx 3).trans rfl
    have hsz : w.heap.size < w1.heap.size := blk_lt hbx
    clear hb hbx
    go_wp2_with fail
    refine (cell_calls w _ w1.heap.size (.slice none 0 0) ([], 0) a0 a1 A2 c2 l2 A3 c3 l3 (below_alloc HB1.out _) ⟨heap_alloc_new w1 _, own_nil _ _ _ _, HB1.out.size⟩ HL2.out HL3.out ?bd HNO.out.2.1 HNO.out.2.2).mono ?_
    case bd => have := HNO.out.1; simp; omega
    rintro r w2 ⟨rfl, vt2, hI2, hB2⟩
    have I2 := Aside0.mk hI2
    have B2 := Aside0.mk hB2
    obtain ⟨hg, ht, hBg⟩ := hI2
    have hd0 : w2.cell? ⟨w1.heap.size, 0, none⟩ = some vt2 := (blk_cell hg 0).trans rfl
    have hd1 : w2.cell? ⟨w1.heap.size, 1, none⟩ = some (.int .i64 (wc ([], 0) a0 a1 l2 l3).2) := (blk_cell hg 1).trans rfl
    clear hg ht hBg hB2 hc0 hc1 hc2 hc3 hsz
    have e0 : ofL a0 a1 l2 l3 = if (wc ([], 0) a0 a1 l2 l3).2 = 0 then ((wc ([], 0) a0 a1 l2 l3).1, 0) else ([], (wc ([], 0) a0 a1 l2 l3).2) := by unfold ofL; rw [← HLB.out]; simp
    generalize wc ([], 0) a0 a1 l2 l3 = s at I2 hd1 e0
    by_cases he : s.2 = 0
    · rw [if_pos he] at e0
      have E0 := Aside0.mk e0
      clear e0
      have hd3 : decide (s.2 = 0) = true := decide_eq_true he
      have hd4 : (s.2 == 0) = true := by simpa using he
      have hd5 : (s.2 != 0) = false := by simp [he]
      clear he
      go_wp2
      go_ret2
      rw [E0.out]
      exact ⟨_, rfl, Kd.R_of_own (enc := Value.int .u64) (h1 := fun _ => rfl) I2.out.2.1 (fun _ _ => trivial), B2.out⟩
    · rw [if_neg he] at e0
      have E0 := Aside0.mk e0
      clear e0
      have hd3 : decide (s.2 = 0) = false := decide_eq_false he
      have hd4 : (s.2 == 0) = false := by simpa using he
      have hd5 : (s.2 != 0) = true := by simp [he]
      clear he
      go_wp2
      go_quiet (fail)
      go_wp2
      go_ret2
      rw [E0.out]
      exact ⟨_, rfl, Kd.R_nil _ _ _ _ _, by repeat (first | exact B2.out | apply below_alloc | apply pw_below_drewN | apply below_drew1)⟩
end Go.Proofs.Ytkefekdphkclmaa.Wrt
