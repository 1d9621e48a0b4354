-- Printed (pr.sh).
import Derived.Test.YtkefekdphkclmaaPC0
import Derived.Test.YtkefekdphkclmaaPC7
import Derived.Test.YtkefekdphkclmaaWordsBk
namespace Go.Proofs.Ytkefekdphkclmaa.PC
open Go.RowKit Go.Proofs.YtkefekdphkclmaaW.PrintWords Go.Proofs.YtkefekdphkclmaaW.PrintLast Go.Proofs.YtkefekdphkclmaaW.PrintMore
attribute [local go_sem] max2_int min2_int max_two min_two max_three min_three max_four min_four   -- for this text's walks alone
set_option linter.unusedVariables false
set_option linter.unusedSimpArgs false

/-! ### words_Back: function 17 (proved by hand) -/
def words_Back.f (k : Nat) (l0 : List Int) : Option (Int × Int × (List (S27)) × (List (S30)) × Int × Int) := (words_reader_cell.f k l0 0 false).map Go.Proofs.Ytkefekdphkclmaa.Wrb.backR
theorem words_Back.mono : ∀ a0 k, LeO (words_Back.f k a0) (words_Back.f (k + 1) a0) := by
  intro a0 k r h
  unfold words_Back.f at h ⊢
  obtain ⟨e, he, h⟩ := Option.map_eq_some_iff.1 h
  exact Option.map_eq_some_iff.2 ⟨e, words_reader_cell.mono _ _ _ _ _ he, h⟩
theorem words_Back.calls (k : Nat) (A0 : Option Addr) (c0 : Nat) (l0 : List Int) (r1 : Int) (r2 : Int) (r3 : List (S27)) (r4 : List (S30)) (r5 : Int) (r6 : Int) (w : World) (hr0 : Kd.C (Kd.int .u64) w A0 l0.length l0) (hc0 : l0.length ≤ c0) (h : words_Back.f k l0 = some (r1, r2, r3, r4, r5, r6)) :
    Calls Try.prog 17 #[.slice A0 l0.length c0] w fun e w' => ∃ v2_ v3_ : Value, e = .returned (.tuple #[.agg #[.int .i64 r1, .int .i64 r2, v2_, v3_], .int .i64 r5, .int .i64 r6]) ∧ Kd.R k27 27 w' w.heap.size (fun _ => True) v2_ r3 ∧ Kd.S k30 30 w' w.heap.size (fun k_ => some k_ ≠ (v2_ : Value).ownBlock) v3_ r4 ∧ Below w.heap.size w w' := by
  unfold words_Back.f at h
  obtain ⟨⟨q1, q2, q3, q4, q5, q6⟩, hb, h⟩ := Option.map_eq_some_iff.1 h
  have h2 := Go.Proofs.Ytkefekdphkclmaa.Wrb.back_calls k A0 c0 l0 w hr0 hc0 q1 q2 q3 q4 q5 q6 hb
  rw [h] at h2
  exact h2

end Go.Proofs.Ytkefekdphkclmaa.PC
