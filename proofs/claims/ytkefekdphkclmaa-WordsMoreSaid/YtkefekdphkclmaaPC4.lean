-- Printed (pr.sh).
import Derived.Test.YtkefekdphkclmaaPC0
import Derived.Test.YtkefekdphkclmaaPC3
import Derived.Test.YtkefekdphkclmaaWordsOf
namespace Go.Proofs.Ytkefekdphkclmaa.PC
open Go.RowKit Go.Proofs.YtkefekdphkclmaaW.PrintWords Go.Proofs.YtkefekdphkclmaaW.PrintLast Go.Proofs.YtkefekdphkclmaaW.PrintMore
attribute [local go_sem] max2_int min2_int max_two min_two max_three min_three max_four min_four   -- for this text's walks alone
set_option linter.unusedVariables false
set_option linter.unusedSimpArgs false

/-! ### words_Of: function 13 (proved by hand) -/
def words_Of.f (k : Nat) (a0_0 : Int) (a0_1 : Int) (l0_2 : List (S27)) (l0_3 : List (S30)) : Option (List Int × Int) := (words_large.f k a0_0 a0_1 l0_2 l0_3).bind fun b => some (Go.Proofs.Ytkefekdphkclmaa.Wrt.ofL a0_0 a0_1 l0_2 l0_3)
theorem words_Of.mono : ∀ a0 a1 a2 a3 k, LeO (words_Of.f k a0 a1 a2 a3) (words_Of.f (k + 1) a0 a1 a2 a3) := by
  intro a0 a1 a2 a3 k r h
  unfold words_Of.f at h ⊢
  obtain ⟨e, he, h⟩ := Option.bind_eq_some_iff.1 h
  exact Option.bind_eq_some_iff.2 ⟨e, words_large.mono _ _ _ _ _ _ he, h⟩
theorem words_Of.calls (k : Nat) (a0_0 : Int) (a0_1 : Int) (A0_2 : Option Addr) (c0_2 : Nat) (l0_2 : List (S27)) (A0_3 : Option Addr) (c0_3 : Nat) (l0_3 : List (S30)) (r1 : List Int) (r2 : Int) (w : World) (hr0_2 : Kd.C k27 w A0_2 l0_2.length l0_2) (hc0_2 : l0_2.length ≤ c0_2) (hr0_3 : Kd.C k30 w A0_3 l0_3.length l0_3) (hc0_3 : l0_3.length ≤ c0_3) (h : words_Of.f k a0_0 a0_1 l0_2 l0_3 = some (r1, r2)) :
    Calls Try.prog 13 #[.agg #[.int .i64 a0_0, .int .i64 a0_1, .slice A0_2 l0_2.length c0_2, .slice A0_3 l0_3.length c0_3]] w fun e w' => ∃ v0_ : Value, e = .returned (.tuple #[v0_, .int .i64 r2]) ∧ Kd.R (Kd.int .u64) 43 w' w.heap.size (fun _ => True) v0_ r1 ∧ Below w.heap.size w w' := by
  unfold words_Of.f at h
  obtain ⟨b, hb, h⟩ := Option.bind_eq_some_iff.1 h
  have e1 : Go.Proofs.Ytkefekdphkclmaa.Wrt.ofL a0_0 a0_1 l0_2 l0_3 = (r1, r2) := Option.some.inj h
  have h2 := Go.Proofs.Ytkefekdphkclmaa.Wrt.of_calls k a0_0 a0_1 A0_2 c0_2 l0_2 A0_3 c0_3 l0_3 w hr0_2 hc0_2 hr0_3 hc0_3 b hb
  rw [e1] at h2
  exact h2

end Go.Proofs.Ytkefekdphkclmaa.PC
