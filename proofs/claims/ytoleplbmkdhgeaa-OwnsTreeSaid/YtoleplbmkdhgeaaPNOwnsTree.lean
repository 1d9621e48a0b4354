/- The law function OwnsTree: what it answers. -/
import Derived.Test.YtoleplbmkdhgeaaOwnTr
set_option linter.unusedVariables false
namespace Go.Proofs.Ytoleplbmkdhgeaa.PN
open Go.RowKit Go.Proofs.YtoleplbmkdhgeaaW.PrintWords Go.Proofs.YtoleplbmkdhgeaaW.PrintLast Go.Proofs.YtoleplbmkdhgeaaW.PrintMore Go.Proofs.Ytoleplbmkdhgeaa.Own
def backstitchkeep3_OwnsTree.f (k : Nat) (l0_0 : List (List Int)) (l0_1 : List Int) : Option Bool := some true
theorem backstitchkeep3_OwnsTree.calls (k : Nat) (A0_0 : Option Addr) (c0_0 : Nat) (l0_0 : List (List Int)) (A0_1 : Option Addr) (c0_1 : Nat) (l0_1 : List Int) (r : Bool) (w : World) (hr0_0 : Kd.C (Kd.slice 3 (Kd.int .i64)) w A0_0 l0_0.length l0_0) (hc0_0 : l0_0.length ≤ c0_0) (hr0_1 : Kd.C (Kd.int .i64) w A0_1 l0_1.length l0_1) (hc0_1 : l0_1.length ≤ c0_1)
    (h : backstitchkeep3_OwnsTree.f k l0_0 l0_1 = some r) :
    Calls Try.prog 7 #[.agg #[.slice A0_0 l0_0.length c0_0, .slice A0_1 l0_1.length c0_1]] w fun e w' => e = .returned (.bool r) ∧ Below w.heap.size w w' := by
  unfold backstitchkeep3_OwnsTree.f at h
  obtain rfl := Option.some.inj h
  exact tree_calls w l0_0 l0_1 A0_0 c0_0 A0_1 c0_1 hr0_0 hc0_0 hr0_1 hc0_1
end Go.Proofs.Ytoleplbmkdhgeaa.PN
