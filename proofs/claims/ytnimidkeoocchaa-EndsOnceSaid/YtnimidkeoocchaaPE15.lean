-- Printed (pr.sh).
import Derived.Test.YtnimidkeoocchaaPE0
import Derived.Test.YtnimidkeoocchaaEndsRd
namespace Go.Proofs.Ytnimidkeoocchaa.PE
open Go.RowKit Go.Proofs.YtnimidkeoocchaaW.PrintWords Go.Proofs.YtnimidkeoocchaaW.PrintLast Go.Proofs.YtnimidkeoocchaaW.PrintMore
attribute [local go_sem] max2_int min2_int max_two min_two max_three min_three max_four min_four   -- for this text's walks alone
set_option linter.unusedVariables false
set_option linter.unusedSimpArgs false

/-! ### ends_Rounds: function 36 (proved by hand) -/
def ends_Rounds.f /- rounds -/ (l0_0 : List (List Int)) (l0_1 : List Int) (l1 : List Int) : Option (List (List Int) × Int) := some (Go.Proofs.Ytnimidkeoocchaa.End.roundsR l0_0 l0_1 l1, Go.Proofs.Ytnimidkeoocchaa.End.dueE l0_0 l0_1 l1)
theorem ends_Rounds.calls (A0_0 : Option Addr) (c0_0 : Nat) (l0_0 : List (List Int)) (A0_1 : Option Addr) (c0_1 : Nat) (l0_1 : List Int) (A1 : Option Addr) (c1 : Nat) (l1 : List Int) (r1 : List (List Int)) (r2 : Int) (w : World) (hr0_0 : Kd.C (Kd.slice 3 (Kd.int .i64)) w A0_0 l0_0.length l0_0) (hc0_0 : l0_0.length ≤ c0_0) (hr0_1 : Kd.C (Kd.int .i64) w A0_1 l0_1.length l0_1) (hc0_1 : l0_1.length ≤ c0_1) (hr1 : Kd.C (Kd.int .i64) w A1 l1.length l1) (hc1 : l1.length ≤ c1) (h : ends_Rounds.f l0_0 l0_1 l1 = some (r1, r2)) :
    Calls Try.prog 36 #[.agg #[.slice A0_0 l0_0.length c0_0, .slice A0_1 l0_1.length c0_1], .slice A1 l1.length c1] w fun e w' => ∃ v0_ : Value, e = .returned (.tuple #[v0_, .int .i64 r2]) ∧ Kd.S (Kd.slice 3 (Kd.int .i64)) 29 w' w.heap.size (fun _ => True) v0_ r1 ∧ Below w.heap.size w w' := by
  unfold ends_Rounds.f at h
  injection h with h
  injection h with h1 h2
  subst h1
  subst h2
  exact Go.Proofs.Ytnimidkeoocchaa.End.Rounds_calls w A0_0 c0_0 l0_0 A0_1 c0_1 l0_1 A1 c1 l1 hr0_0 hc0_0 hr0_1 hc0_1 hr1 hc1

end Go.Proofs.Ytnimidkeoocchaa.PE
