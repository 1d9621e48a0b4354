/- Package order, told over plain lists: one order; what is written, in memory. -/
import Derived.Test.YtecaemebamhamaaOrRi
set_option linter.unusedVariables false
set_option linter.unusedSimpArgs false
namespace Go.Proofs.Ytecaemebamhamaa.Lv
open Go.RowKit Go.Proofs.YtecaemebamhamaaW.PrintWords Go.Proofs.YtecaemebamhamaaW.PrintLast Go.Proofs.YtecaemebamhamaaW.PrintMore Go.Proofs.Ytecaemebamhamaa.PO Go.Proofs.Ytecaemebamhamaa.Hnd Go.Lib

theorem k35_heap : Kd.Heap k35 := Kd.heap_iso _ (Kd.heap_pair (Kd.heap_int .i64) (Kd.heap_int .i64))
theorem k59_heap : Kd.Heap k59 := Kd.heap_iso _ (Kd.heap_pair (Kd.heap_int .i64) (Kd.heap_int .i64))
theorem k126_heap : Kd.Heap k126 := Kd.heap_iso _ (Kd.heap_pair (Kd.heap_int .i64) k59_heap)
theorem k118_heap : Kd.Heap k118 := Kd.heap_iso _ (Kd.heap_pair k59_heap (Kd.heap_pair (Kd.heap_int .i64) (Kd.heap_pair (Kd.heap_int .i64) (Kd.heap_slice 59 k59_heap))))
theorem k27_heap : Kd.Heap k27 := Kd.heap_iso _ (Kd.heap_pair (Kd.heap_int .i64) (Kd.heap_pair (Kd.heap_int .i64) (Kd.heap_pair (Kd.heap_slice 126 k126_heap) (Kd.heap_slice 118 k118_heap))))
theorem k37_heap : Kd.Heap k37 := Kd.heap_iso _ (Kd.heap_pair (Kd.heap_int .i64) (Kd.heap_pair (Kd.heap_int .i64) (Kd.heap_pair (Kd.heap_int .i64) (Kd.heap_pair (Kd.heap_int .i64) (Kd.heap_pair (Kd.heap_int .i64) (Kd.heap_pair (Kd.heap_int .i64) k35_heap))))))
/-- All is as it was, but for two blocks. -/
structure K2 (b g : Nat) (w w' : World) : Prop where
  below : Below (min b g) w w'
  keep : ∀ k, k < w.heap.size → k ≠ b → k ≠ g → w'.heap[k]? = w.heap[k]?
theorem K2.refl (b g : Nat) (w : World) : K2 b g w w := ⟨Below.refl _ _, fun _ _ _ _ => rfl⟩
theorem K2.trans {b g : Nat} {w w1 w2 : World} (h : K2 b g w w1) (h2 : K2 b g w1 w2) : K2 b g w w2 := ⟨h.below.trans h2.below, fun k hk h3 h4 => (h2.keep k (Nat.lt_of_lt_of_le hk h.below.size) h3 h4).trans (h.keep k hk h3 h4)⟩
theorem K2.of_below {b g : Nat} {w w1 : World} (h : Below w.heap.size w w1) (hb : b < w.heap.size) : K2 b g w w1 := ⟨below_cut h (by omega), fun k hk _ _ => h.block k hk⟩
theorem K2.blk {b g k : Nat} {w w1 : World} {o : Obj} (h : K2 b g w w1) (hg : w.heap[k]? = some o) (hb : k ≠ b) (hne : k ≠ g) : w1.heap[k]? = some o := (h.keep k (blk_lt hg) hb hne).trans hg
theorem K2.setS (b g : Nat) (w : World) (i : Nat) (v : Value) : K2 b g w (w.setCell ⟨g, i, none⟩ v) := ⟨(Below.refl (min b g) w).setCell (p := ⟨g, i, none⟩) (Nat.min_le_right _ _) _, fun k _ _ hne => heap_setCell_other w _ k _ hne⟩
theorem K2.setR (b g : Nat) (w : World) (i : Nat) (v : Value) : K2 b g w (w.setCell ⟨b, i, none⟩ v) := ⟨(Below.refl (min b g) w).setCell (p := ⟨b, i, none⟩) (Nat.min_le_left _ _) _, fun k _ hne _ => heap_setCell_other w _ k _ hne⟩
theorem K2.F {α : Type} {d : Kd α} {b g B : Nat} {w w1 : World} {A : Option Addr} {n : Nat} {xs : List α} (h : K2 b g w w1) (hB : B ≤ b ∧ B ≤ g) (hF : Kd.F d w (fun k => k < B) A n xs) : Kd.F d w1 (fun k => k < B) A n xs := Kd.F_step hF (fun k hk hlt => h.below.block k (by omega))
theorem WM.setS {w : World} {b g : Nat} {regs slots : List Bool} (h : WM w b g regs slots) (hne : b ≠ g) (i : Nat) : WM (w.setCell ⟨g, i, none⟩ (.bool true)) b g regs (slots.set i true) := by
  refine ⟨h.r8, ?_, ?_⟩
  · rw [List.length_set]
    exact blk_far h.blk hne _
  · refine blk_put h.sl i _ ?_
    simp [List.map_set]
theorem WM.setR {w : World} {b g : Nat} {regs slots : List Bool} (h : WM w b g regs slots) (hne : b ≠ g) (i : Nat) (hi : i < 8) : WM (w.setCell ⟨b, i, none⟩ (.bool true)) b g (regs.set i true) slots := by
  have h8 := h.r8
  refine ⟨by rw [List.length_set]; exact h8, ?_, blk_far h.sl (fun e => hne e.symm) _⟩
  refine blk_put h.blk i _ ?_
  rw [List.setIfInBounds_toArray, List.set_append_left _ _ (by rw [List.length_map]; omega), List.map_set]
/-- One order, beside what is written. -/
noncomputable def rightO (c : RC) (x : RO) : Bool := rightB (formO x.f0).1 (formO x.f0).2.1 (formO x.f0).2.2.1 (formO x.f0).2.2.2.1 (formO x.f0).2.2.2.2.1 (formO x.f0).2.2.2.2.2.1 (formO x.f0).2.2.2.2.2.2.1 x c.f3 c.f5.length
def badR (regs : List Bool) (x : RO) : Bool := (readsL x).any (fun r => !isRegB r || !regs.getD r.toNat false)
def badF (slots : List Bool) (x : RO) : Bool := decide (x.f0 = 4) && !slots.getD x.f4.toNat false
def badE (regs slots : List Bool) (c : RC) (x : RO) : Bool := decide (0 ≤ x.f5) && !allW regs slots (rd_T27 c.f5 x.f5)
noncomputable def ordE (regs slots : List Bool) (c : RC) (x : RO) : Int := if (formO x.f0).2.2.2.2.2.2.2 = false then 7 else if rightO c x = false then 3 else if badR regs x = true then 3 else if (badF slots x || badE regs slots c x) = true then 3 else 0
def setR (regs : List Bool) (x : RO) : List Bool := if 0 ≤ writesO x then regs.set (writesO x).toNat true else regs
def setS (slots : List Bool) (x : RO) : List Bool := if x.f0 = 3 then slots.set x.f4.toNat true else slots
theorem form3 : (formO 3).2.2.1 = 0 := by decide
theorem form4 : (formO 4).2.2.1 = 0 := by decide
/-- What an order that is right can name. -/
theorem right_ok {c : RC} {x : RO} (h : rightO c x = true) : (x.f0 = 3 ∨ x.f0 = 4 → 0 ≤ x.f4 ∧ x.f4 < c.f3) ∧ (0 ≤ x.f5 → x.f5 < (c.f5.length : Int)) ∧ (0 ≤ writesO x → writesO x < 8) := by
  unfold rightO rightB at h
  split at h
  · exact absurd h (by decide)
  rename_i h1
  split at h
  · exact absurd h (by decide)
  rename_i h2
  split at h
  · exact absurd h (by decide)
  rename_i h3
  split at h
  · exact absurd h (by decide)
  rename_i h4
  split at h
  · exact absurd h (by decide)
  rename_i h5
  split at h
  · exact absurd h (by decide)
  rename_i h6
  split at h
  · exact absurd h (by decide)
  rename_i h7
  refine ⟨fun h0 => ?_, fun h0 => ?_, fun h0 => ?_⟩
  · constructor
    · have hl : (formO x.f0).2.2.1 = 0 := by
        rcases h0 with e | e
        · rw [e]; exact form3
        · rw [e]; exact form4
      unfold rB2 at h4
      rw [hl] at h4
      simp at h4
      omega
    · unfold rD at h7
      rcases h0 with e | e
      · simp [e] at h7
        omega
      · simp [e] at h7
        omega
  · split at h
    · have := eq_of_beq h
      omega
    · unfold rF at h
      simp at h
      exact h.2
  · unfold writesO at h0 ⊢
    split
    · rename_i hw
      unfold rB at h3
      rw [hw] at h3
      unfold isRegB at h3
      simp at h3
      exact h3.2
    · omega
theorem readsL_len (x : RO) : (readsL x).length ≤ 3 := by
  unfold readsL
  rw [List.length_map]
  have h := (form_some x.f0).2
  unfold okF at h
  simp only [Bool.and_eq_true, decide_eq_true_eq] at h
  exact h.1.1.1
theorem writesO_ge (x : RO) : writesO x ≥ 0 ∨ writesO x < 0 := by omega
end Go.Proofs.Ytecaemebamhamaa.Lv
