/- The law OwnsAway over the walked function. -/
import Derived.Test.YtoleplbmkdhgeaaStmOwnsAway
namespace Go.Proofs.Ytoleplbmkdhgeaa.Own
open Go.RowKit Go.Proofs.YtoleplbmkdhgeaaW.PrintWords Go.Proofs.Ytoleplbmkdhgeaa.Opn Go.Proofs.Ytoleplbmkdhgeaa.PN
theorem ownsAway : OwnsAwayS.OwnsAway.Pure := by
  intro x0 x1 h h2
  exact ⟨0, rfl⟩
end Go.Proofs.Ytoleplbmkdhgeaa.Own
