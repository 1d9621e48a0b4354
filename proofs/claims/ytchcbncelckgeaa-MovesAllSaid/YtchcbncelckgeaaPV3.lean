-- Printed (pr.sh).
import Derived.Test.YtchcbncelckgeaaPV0
import Derived.Test.YtchcbncelckgeaaMovesOr
namespace Go.Proofs.Ytchcbncelckgeaa.PV
open Go.RowKit Go.Proofs.YtchcbncelckgeaaW.PrintWords Go.Proofs.YtchcbncelckgeaaW.PrintLast Go.Proofs.YtchcbncelckgeaaW.PrintMore
attribute [local go_sem] max2_int min2_int max_two min_two max_three min_three max_four min_four   -- for this text's walks alone
set_option linter.unusedVariables false
set_option linter.unusedSimpArgs false

/-! ### moves_Order: function 33 (proved by hand) -/
def moves_Order.f (l0 : List S89) (a1 : Int) : Option (List S89 × Int) := some (Go.Proofs.Ytchcbncelckgeaa.Mvs.orderR l0 a1, Go.Proofs.Ytchcbncelckgeaa.Mvs.chkM l0 a1)
theorem moves_Order.calls (A0 : Option Addr) (c0 : Nat) (l0 : List S89) (a1 : Int) (r1 : List S89) (r2 : Int) (w : World) (hr0 : Kd.C k89 w A0 l0.length l0) (hc0 : l0.length ≤ c0) (h : moves_Order.f l0 a1 = some (r1, r2)) :
    Calls Try.prog 33 #[.slice A0 l0.length c0, .int .i64 a1] w fun e w' => ∃ v0_ : Value, e = .returned (.tuple #[v0_, .int .i64 r2]) ∧ Kd.R k89 89 w' w.heap.size (fun _ => True) v0_ r1 ∧ Below w.heap.size w w' := by
  unfold moves_Order.f at h
  injection h with h
  injection h with h1 h2
  subst h1
  subst h2
  exact Go.Proofs.Ytchcbncelckgeaa.Mvs.order_calls w A0 c0 l0 a1 hr0 hc0

end Go.Proofs.Ytchcbncelckgeaa.PV
