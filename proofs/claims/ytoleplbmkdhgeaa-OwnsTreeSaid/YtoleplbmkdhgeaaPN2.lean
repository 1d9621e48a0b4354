-- Printed (pr.sh).
import Derived.Test.YtoleplbmkdhgeaaPN0
import Derived.Test.YtoleplbmkdhgeaaReach
namespace Go.Proofs.Ytoleplbmkdhgeaa.PN
open Go.RowKit Go.Proofs.YtoleplbmkdhgeaaW.PrintWords Go.Proofs.YtoleplbmkdhgeaaW.PrintLast Go.Proofs.YtoleplbmkdhgeaaW.PrintMore
attribute [local go_sem] max2_int min2_int max_two min_two max_three min_three max_four min_four   -- for this text's walks alone
set_option linter.unusedVariables false
set_option linter.unusedSimpArgs false

/-! ### weak_From: function 39 (proved by hand) -/
def weak_From.f (l0_0 : List (List Int)) (l0_1 : List Int) (l1 : List Int) : Option (List Bool) := if Go.Proofs.Ytoleplbmkdhgeaa.Rch.okF l0_0 l1 = true then some (Go.Proofs.Ytoleplbmkdhgeaa.Rch.fromL l0_0 l1) else none
theorem weak_From.calls (A0_0 : Option Addr) (c0_0 : Nat) (l0_0 : List (List Int)) (A0_1 : Option Addr) (c0_1 : Nat) (l0_1 : List Int) (A1 : Option Addr) (c1 : Nat) (l1 : List Int) (r : List Bool) (w : World) (hr0_0 : Kd.C (Kd.slice 3 (Kd.int .i64)) w A0_0 l0_0.length l0_0) (hc0_0 : l0_0.length ≤ c0_0) (hr0_1 : Kd.C (Kd.int .i64) w A0_1 l0_1.length l0_1) (hc0_1 : l0_1.length ≤ c0_1) (hr1 : Kd.C (Kd.int .i64) w A1 l1.length l1) (hc1 : l1.length ≤ c1) (h : weak_From.f l0_0 l0_1 l1 = some r) :
    Calls Try.prog 39 #[.agg #[.slice A0_0 l0_0.length c0_0, .slice A0_1 l0_1.length c0_1], .slice A1 l1.length c1] w fun e w' => ∃ v0_ : Value, e = .returned (v0_) ∧ Kd.R Kd.bool 4 w' w.heap.size (fun _ => True) v0_ r ∧ Below w.heap.size w w' := by
  unfold weak_From.f at h
  by_cases hok : Go.Proofs.Ytoleplbmkdhgeaa.Rch.okF l0_0 l1 = true
  · rw [if_pos hok] at h
    obtain rfl := Option.some.inj h
    obtain ⟨h1, h2, h3⟩ := Go.Proofs.Ytoleplbmkdhgeaa.Rch.okF_iff.1 hok
    exact Go.Proofs.Ytoleplbmkdhgeaa.Rch.from_calls w A0_0 c0_0 l0_0 A0_1 l0_1.length c0_1 A1 c1 l1 hr0_0 hr1 hc1 h2 h3 h1
  · rw [if_neg hok] at h
    exact absurd h (by simp)

end Go.Proofs.Ytoleplbmkdhgeaa.PN
