-- Printed (pr.sh).
import Derived.Test.YtoleplbmkdhgeaaPQ0
import Derived.Test.YtoleplbmkdhgeaaPQ2
import Derived.Test.YtoleplbmkdhgeaaWeakLive
namespace Go.Proofs.Ytoleplbmkdhgeaa.PQ
open Go.RowKit Go.Proofs.YtoleplbmkdhgeaaW.PrintWords Go.Proofs.YtoleplbmkdhgeaaW.PrintLast Go.Proofs.YtoleplbmkdhgeaaW.PrintMore
attribute [local go_sem] max2_int min2_int max_two min_two max_three min_three max_four min_four   -- for this text's walks alone
set_option linter.unusedVariables false
set_option linter.unusedSimpArgs false

/-! ### weak_live: function 36 (proved by hand) -/
def weak_live.f (k : Nat) (l0_0 : List (List Int)) (l0_1 : List Int) (l1 : List S28) : Option (List Bool × Int) := Go.Proofs.Ytoleplbmkdhgeaa.Rch.live.f k l0_0 l0_1 l1
theorem weak_live.mono : ∀ a0 a1 a2 k, LeO (weak_live.f k a0 a1 a2) (weak_live.f (k + 1) a0 a1 a2) := by
  intro a0 a1 a2 k r h
  unfold weak_live.f Go.Proofs.Ytoleplbmkdhgeaa.Rch.live.f at h ⊢
  obtain ⟨e, he, h⟩ := Option.bind_eq_some_iff.1 h
  exact Option.bind_eq_some_iff.2 ⟨e, weak_Check.mono _ _ _ _ he, h⟩
theorem weak_live.calls (k : Nat) (A0_0 : Option Addr) (c0_0 : Nat) (l0_0 : List (List Int)) (A0_1 : Option Addr) (c0_1 : Nat) (l0_1 : List Int) (A1 : Option Addr) (c1 : Nat) (l1 : List S28) (r1 : List Bool) (r2 : Int) (w : World) (hr0_0 : Kd.C (Kd.slice 3 (Kd.int .i64)) w A0_0 l0_0.length l0_0) (hc0_0 : l0_0.length ≤ c0_0) (hr0_1 : Kd.C (Kd.int .i64) w A0_1 l0_1.length l0_1) (hc0_1 : l0_1.length ≤ c0_1) (hr1 : Kd.C k28 w A1 l1.length l1) (hc1 : l1.length ≤ c1) (h : weak_live.f k l0_0 l0_1 l1 = some (r1, r2)) :
    Calls Try.prog 36 #[.agg #[.slice A0_0 l0_0.length c0_0, .slice A0_1 l0_1.length c0_1], .slice A1 l1.length c1] w fun e w' => ∃ v0_ : Value, e = .returned (.tuple #[v0_, .int .i64 r2]) ∧ Kd.R Kd.bool 4 w' w.heap.size (fun _ => True) v0_ r1 ∧ Below w.heap.size w w' :=
  Go.Proofs.Ytoleplbmkdhgeaa.Rch.live_calls k w A0_0 c0_0 l0_0 A0_1 c0_1 l0_1 A1 c1 l1 r1 r2 hr0_0 hc0_0 hr0_1 hc0_1 hr1 hc1 h

end Go.Proofs.Ytoleplbmkdhgeaa.PQ
